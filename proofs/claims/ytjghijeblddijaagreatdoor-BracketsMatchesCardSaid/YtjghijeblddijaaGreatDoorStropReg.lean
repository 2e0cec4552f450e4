/- A pragmat sets the regime from behind it on: the scanner's law, in plain Lean. -/
import Derived.Test.YtjghijeblddijaaGreatDoorStropFactsC
namespace Go.Proofs.YtjghijeblddijaaGreatDoor
namespace Sp
/-- A symbol further on by d. -/
def sh (d : Nat) (x : Sym) : Sym := ⟨x.kind, x.text, x.pos + d⟩
def shR (d : Nat) : Except (Int × Int) (List Sym) → Except (Int × Int) (List Sym)
  | .ok l => .ok (l.map (sh d))
  | .error f => .error (f.1 + d, f.2)
/-- Further on in a text, and with more fuel, the scan is the same. -/
theorem scan_far (d : Nat) : ∀ (fuel fuel' r : Nat) (l : List UInt8) (pos : Nat), r ≤ 2 → l.length < fuel → l.length < fuel' →
    scan fuel' r l (pos + d) = shR d (scan fuel r l pos) := by
  intro fuel
  induction fuel with
  | zero => intro _ _ _ _ _ h; exact absurd h (Nat.not_lt_zero _)
  | succ f ih =>
    intro fuel' r l pos hr h h'
    obtain ⟨f', rfl⟩ : ∃ f', fuel' = f' + 1 := ⟨fuel' - 1, by omega⟩
    rw [scan_skip (f' + 1), scan_skip (f + 1)]
    have hb := bl_drop l
    have hm : (l.drop (bl l)).length ≤ l.length := by rw [List.length_drop]; omega
    rw [show pos + d + bl l = pos + bl l + d from by omega]
    generalize l.drop (bl l) = m at *
    generalize pos + bl l = q at *
    by_cases hm0 : m = []
    · rw [hm0, scan_end, scan_end]; rfl
    · rw [scan_step f' _ _ _ hb hm0, scan_step f _ _ _ hb hm0]
      have ha := symbol_adv r m hr hm0
      cases hs : symbol r m with
      | sym k t n =>
        rw [hs] at ha
        dsimp only
        have ha' : 1 ≤ n ∧ n ≤ m.length := ha
        rw [show q + d + n = q + n + d from by omega, ih f' r (m.drop n) (q + n) hr (by rw [List.length_drop]; omega) (by rw [List.length_drop]; omega)]
        cases scan f r (m.drop n) (q + n) <;> simp [shR, more, sh]
      | skip n r' =>
        rw [hs] at ha
        dsimp only
        have ha' : 1 ≤ n ∧ n ≤ m.length ∧ r' ≤ 2 := ha
        rw [show q + d + n = q + n + d from by omega, ih f' r' (m.drop n) (q + n) ha'.2.2 (by rw [List.length_drop]; omega) (by rw [List.length_drop]; omega)]
      | fault o c =>
        show Except.error _ = Except.error _
        congr 2
        omega
theorem symbols_pragmat (head text : List UInt8) (fr to : Nat) (hf : fr ≤ 2) (ht : to ≤ 2) (hn : head ≠ []) (hb : bl (head ++ 32 :: text) = 0)
    (hs : symbol fr (head ++ 32 :: text) = .skip head.length to) (hl : (head ++ 32 :: text).length ≤ 65536) :
    symbols (head ++ 32 :: text) (fr : Int) = shR (head.length + 1) (symbols text (to : Int)) := by
  have hl' : text.length + 1 + head.length ≤ 65536 := by rw [List.length_append, List.length_cons] at hl; omega
  rw [symbols_eq _ _ (by omega) hl, symbols_eq _ _ (by omega) (by omega), Int.toNat_natCast, Int.toNat_natCast]
  rw [scan_step _ _ _ _ hb (by cases head <;> simp at hn ⊢), hs]
  dsimp only
  rw [List.drop_left, Nat.zero_add]
  have e1 : ∀ n, scan n to (32 :: text) head.length = scan n to text (0 + (head.length + 1)) := by
    intro n
    rw [scan_skip n to (32 :: text), scan_skip n to text]
    have : bl (32 :: text) = bl text + 1 := by simp [bl, blank]
    rw [this, List.drop_succ_cons]
    congr 1
    omega
  rw [e1, scan_far (head.length + 1) (text.length + 1) _ to text 0 ht (by omega) (by rw [List.length_append, List.length_cons]; omega)]
  cases scan (text.length + 1) to text 0 with
  | error f => rfl
  | ok l =>
    simp [ended, shR, sh]
    omega
def U_PR : List UInt8 := [80, 82]
def P_PR : List UInt8 := [46, 112, 114]
def Q_PR : List UInt8 := [39, 80, 114, 39]
def pr (fr : Nat) : List UInt8 := if fr = 0 then U_PR else if fr = 1 then P_PR else Q_PR
def regName (fr to : Nat) : List UInt8 := if to = 0 then [117, 112, 112, 101, 114] else if to = 1 then (if fr = 0 then [80, 111, 105, 110, 116] else [80, 79, 73, 78, 84]) else [32, 113, 117, 111, 116, 101, 10]
def head (fr to : Nat) : List UInt8 := pr fr ++ [32] ++ regName fr to ++ [32] ++ pr fr
theorem head_step (fr to : Nat) (hf : fr ≤ 2) (ht : to ≤ 2) (text : List UInt8) : symbol fr (head fr to ++ 32 :: text) = .skip (head fr to).length to ∧ bl (head fr to ++ 32 :: text) = 0 := by
  have h1 : fr = 0 ∨ fr = 1 ∨ fr = 2 := by omega
  have h2 : to = 0 ∨ to = 1 ∨ to = 2 := by omega
  rcases h1 with rfl | rfl | rfl <;> rcases h2 with rfl | rfl | rfl
  · exact ⟨by rfl, by rfl⟩
  · exact ⟨by rfl, by rfl⟩
  · exact ⟨by rfl, by rfl⟩
  · exact ⟨by rfl, by rfl⟩
  · exact ⟨by rfl, by rfl⟩
  · exact ⟨by rfl, by rfl⟩
  · exact ⟨by rfl, by rfl⟩
  · exact ⟨by rfl, by rfl⟩
  · exact ⟨by rfl, by rfl⟩
theorem head_len (fr to : Nat) (hf : fr ≤ 2) (ht : to ≤ 2) : (head fr to).length ≤ 20 ∧ 1 ≤ (head fr to).length := by
  have h1 : fr = 0 ∨ fr = 1 ∨ fr = 2 := by omega
  have h2 : to = 0 ∨ to = 1 ∨ to = 2 := by omega
  rcases h1 with rfl | rfl | rfl <;> rcases h2 with rfl | rfl | rfl <;> decide
theorem symbols_head (fr to : Nat) (hf : fr ≤ 2) (ht : to ≤ 2) (text : List UInt8) (hl : text.length ≤ 60000) :
    symbols (head fr to ++ 32 :: text) (fr : Int) = shR ((head fr to).length + 1) (symbols text (to : Int)) := by
  have h := head_step fr to hf ht text
  have hn := head_len fr to hf ht
  refine symbols_pragmat _ text fr to hf ht ?_ h.2 h.1 ?_
  · intro h0; rw [h0] at hn; simp at hn
  · rw [List.length_append, List.length_cons]; omega
end Sp
end Go.Proofs.YtjghijeblddijaaGreatDoor
