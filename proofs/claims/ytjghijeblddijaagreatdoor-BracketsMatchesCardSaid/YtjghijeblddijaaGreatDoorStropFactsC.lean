/- Facts about the pure scanner: each symbol goes on; leading blanks. -/
import Derived.Test.YtjghijeblddijaaGreatDoorStropWalkU
namespace Go.Proofs.YtjghijeblddijaaGreatDoor
namespace Sp
theorem bl_drop (l : List UInt8) : bl (l.drop (bl l)) = 0 := by
  induction l with
  | nil => rfl
  | cons c t ih =>
    by_cases h : blank c = true
    · have e : bl (c :: t) = bl t + 1 := by simp [bl, h]
      rw [e, List.drop_succ_cons]; exact ih
    · have e : bl (c :: t) = 0 := by simp [bl, h]
      rw [e, List.drop_zero, e]
theorem spread_one (p : UInt8 → Bool) (c : UInt8) (t : List UInt8) (h : p c = true) : 1 ≤ (spread p (c :: t)).2 := by
  simp only [spread, h, if_true]; omega
theorem quotedGo_bound (l : List UInt8) : ∀ (i : Nat) (b : List UInt8) (n : Nat), quotedGo l i = .ok (b, n) → i < n ∧ n ≤ i + l.length := by
  induction hn : l.length using Nat.strongRecOn generalizing l with
  | ind m ih =>
    intro i b n h
    cases l with
    | nil => simp [quotedGo] at h
    | cons c t =>
      cases hp : permitted c with
      | false => rw [quotedGo_bad c t i hp] at h; cases h
      | true =>
      by_cases h9 : c = 9 ∨ c = 10
      · rw [quotedGo_line c t i hp h9] at h; cases h
      by_cases h34 : c = 34
      · subst h34
        by_cases ht : t.getD 0 0 = 34
        · cases t with
          | nil => exact absurd ht (by decide)
          | cons d u =>
            have hd : d = 34 := ht
            subst hd
            rw [quotedGo_two] at h
            cases hq : quotedGo u (i + 2) with
            | error f => rw [hq] at h; cases h
            | ok x =>
              rw [hq] at h
              have := ih u.length (by subst hn; simp only [List.length_cons]; omega) u rfl (i + 2) x.1 x.2 hq
              have e : x.2 = n := by
                have h' : (Except.ok ([34] ++ x.1, x.2) : Except (Nat × Int) (List UInt8 × Nat)) = .ok (b, n) := h
                injection h' with h'; injection h'
              subst hn; simp only [List.length_cons]; omega
        · rw [quotedGo_end t i ht] at h
          injection h with h; injection h with h1 h2
          subst hn; simp only [List.length_cons]; omega
      · rw [quotedGo_any c t i hp h9 h34] at h
        cases hq : quotedGo t (i + 1) with
        | error f => rw [hq] at h; cases h
        | ok x =>
          rw [hq] at h
          have := ih t.length (by subst hn; simp only [List.length_cons]; omega) t rfl (i + 1) x.1 x.2 hq
          have e : x.2 = n := by
            have h' : (Except.ok ([c] ++ x.1, x.2) : Except (Nat × Int) (List UInt8 × Nat)) = .ok (b, n) := h
            injection h' with h'; injection h'
          subst hn; simp only [List.length_cons]; omega
theorem formatGo_bound (l : List UInt8) : ∀ (i : Nat) (q : Bool) (b : List UInt8) (n : Nat), formatGo l i q = .ok (b, n) → i < n ∧ n ≤ i + l.length := by
  induction l with
  | nil => intro i q b n h; simp [formatGo] at h
  | cons c t ih =>
    intro i q b n h
    unfold formatGo at h
    split at h
    · cases h
    · split at h
      · cases h
      · split at h
        · injection h with h; injection h with h1 h2
          simp only [List.length_cons]; omega
        · split at h
          · rename_i b' n' he
            injection h with h; injection h with h1 h2
            have := ih _ _ _ _ he
            simp only [List.length_cons]; omega
          · cases h
theorem commentGo_bound (l : List UInt8) : ∀ (i n : Nat), commentGo l i = .ok n → i < n ∧ n ≤ i + l.length := by
  induction l with
  | nil => intro i n h; simp [commentGo] at h
  | cons c t ih =>
    intro i n h
    unfold commentGo at h
    split at h
    · cases h
    · split at h
      · injection h with h
        simp only [List.length_cons]; omega
      · have := ih _ _ h
        simp only [List.length_cons]; omega
theorem untilGo_bound (r : Nat) (w : List UInt8) (l : List UInt8) : ∀ (i s : Nat) (g : Bool) (b : List UInt8) (n : Nat), untilGo r w l i s g = .ok (b, n) → i < n ∧ n ≤ i + l.length := by
  induction l with
  | nil => intro i s g b n h; cases s <;> simp [untilGo] at h
  | cons a t ih =>
    intro i s g b n h
    cases s with
    | succ s =>
      simp only [untilGo] at h
      split at h
      · rename_i b' n' he
        injection h with h
        injection h with h1 h2
        have := ih _ _ _ _ _ he
        simp only [List.length_cons]; omega
      · cases h
    | zero =>
      simp only [untilGo] at h
      split at h
      · cases h
      · split at h
        · rename_i w0 n0 hb
          have hbd := bold_bound _ _ _ _ hb
          simp only [List.length_cons] at hbd
          split at h
          · injection h with h
            injection h with h1 h2
            simp only [List.length_cons]; omega
          · split at h
            · rename_i b' n' he
              injection h with h
              injection h with h1 h2
              have := ih _ _ _ _ _ he
              simp only [List.length_cons]; omega
            · cases h
        · split at h
          · rename_i b' n' he
            injection h with h
            injection h with h1 h2
            have := ih _ _ _ _ _ he
            simp only [List.length_cons]; omega
          · cases h
/-- A step that goes on within what is left, in a regime that there is. -/
def Adv (l : Nat) : Step → Prop
  | .sym _ _ n => 1 ≤ n ∧ n ≤ l
  | .skip n r => 1 ≤ n ∧ n ≤ l ∧ r ≤ 2
  | .fault _ _ => True
theorem word_adv (r : Nat) (w : List UInt8) (n : Nat) (l : List UInt8) (hr : r ≤ 2) (hn : 1 ≤ n ∧ n ≤ l.length) : Adv l.length (word r w n l) := by
  unfold word
  split
  · split
    · rename_i x m he
      have := untilGo_bound _ _ _ _ _ _ _ _ he
      rw [List.length_drop] at this
      exact ⟨by omega, by omega, hr⟩
    · trivial
  · split
    · split
      · rename_i b m he
        have := untilGo_bound _ _ _ _ _ _ _ _ he
        rw [List.length_drop] at this
        exact ⟨by omega, by omega, regimeOf_le r b hr⟩
      · trivial
    · split
      · trivial
      · exact hn
theorem tag_adv (r : Nat) (c : UInt8) (t : List UInt8) (h : letter r c = true) : Adv (c :: t).length (tag r (c :: t)) := by
  unfold tag
  dsimp only
  split
  · trivial
  · exact ⟨spread_one _ c t (by simp [h]), (spread_le _ _).1⟩
theorem number_adv (r : Nat) (c : UInt8) (t : List UInt8) (h : (digit c || (c == 46 && digit ((c :: t).getD 1 0))) = true) : Adv (c :: t).length (number r (c :: t)) := by
  have hd := (spread_le digit (c :: t)).1
  have hx := (radix_facts r ((c :: t).drop (spread digit (c :: t)).2)).1
  have hf := (fraction_facts ((c :: t).drop (spread digit (c :: t)).2)).1
  have he := (exponent_facts r ((c :: t).drop ((spread digit (c :: t)).2 + (fraction ((c :: t).drop (spread digit (c :: t)).2)).2))).1
  rw [List.length_drop] at hx hf he
  have h1 : 1 ≤ (spread digit (c :: t)).2 + (fraction ((c :: t).drop (spread digit (c :: t)).2)).2 := by
    cases hc : digit c with
    | true => have := spread_one digit c t hc; omega
    | false =>
      rw [hc, Bool.false_or, Bool.and_eq_true, beq_iff_eq] at h
      have e0 : (spread digit (c :: t)).2 = 0 := by simp [spread, hc]
      rw [e0, List.drop_zero]
      unfold fraction
      have hb : bl (c :: t) = 0 := by rw [h.1]; rfl
      have h46 : ((c :: t).getD 0 0 == 46) = true := by rw [h.1]; rfl
      dsimp only
      rw [hb, List.drop_zero, h46, h.2, Bool.true_and, if_pos rfl]
      simp only; omega
  unfold number
  dsimp only
  split
  · rename_i hne
    split
    · trivial
    · split
      · refine ⟨?_, by omega⟩
        have : 1 ≤ (spread digit (c :: t)).2 := by
          cases hc : digit c with
          | true => exact spread_one digit c t hc
          | false => exact absurd (by simp [spread, hc]) hne.1
        omega
      · trivial
  · split
    · trivial
    · exact ⟨by omega, by omega⟩
theorem symbol_adv (r : Nat) (l : List UInt8) (hr : r ≤ 2) (hl : l ≠ []) : Adv l.length (symbol r l) := by
  cases l with
  | nil => exact absurd rfl hl
  | cons c t =>
  unfold symbol
  dsimp only
  split
  · trivial
  · split
    · rename_i w n hb
      exact word_adv r w n _ hr (bold_bound _ _ _ _ hb)
    · split
      · rename_i hle
        exact tag_adv r c t hle
      · split
        · rename_i hnum
          exact number_adv r c t hnum
        · split
          · unfold quoted
            split
            · rename_i b n he
              have := quotedGo_bound _ _ _ _ he
              rw [List.length_drop] at this
              have h1 : 1 ≤ (c :: t).length := by simp
              exact ⟨by omega, by omega⟩
            · trivial
          · split
            · unfold format
              split
              · rename_i b n he
                have := formatGo_bound _ _ _ _ _ he
                rw [List.length_drop] at this
                have h1 : 1 ≤ (c :: t).length := by simp
                exact ⟨by omega, by omega⟩
              · trivial
            · split
              · unfold comment
                split
                · rename_i n he
                  have := commentGo_bound _ _ _ he
                  rw [List.length_drop] at this
                  have h1 : 1 ≤ (c :: t).length := by simp
                  exact ⟨by omega, by omega, hr⟩
                · trivial
              · unfold sign
                split
                · rename_i s hs
                  have h2 := List.find?_some hs
                  have h3 := List.mem_of_find?_eq_some hs
                  have hall : ∀ x ∈ signs, 1 ≤ x.length := by decide
                  exact ⟨hall s h3, (List.isPrefixOf_iff_prefix.1 h2).length_le⟩
                · trivial

/-! The scan, a symbol at a time. -/
def more (out : List Sym) : Except (Int × Int) (List Sym) → Except (Int × Int) (List Sym)
  | .ok l => .ok (out ++ l)
  | .error f => .error f
/-- The end behind the symbols. -/
def ended (n : Nat) : Except (Int × Int) (List Sym) → Except (Int × Int) (List Sym)
  | .ok l => .ok (l ++ [⟨0, [], (n : Int)⟩])
  | .error f => .error f
theorem symbols_eq (s : List UInt8) (regime : Int) (h : ¬ (regime < 0 ∨ 2 < regime)) (hs : s.length ≤ 65536) : symbols s regime = ended s.length (scan (s.length + 1) regime.toNat s 0) := by
  unfold symbols
  rw [if_neg h, if_neg (by omega)]
  cases scan (s.length + 1) regime.toNat s 0 <;> rfl
theorem more_nil (x : Except (Int × Int) (List Sym)) : more [] x = x := by cases x <;> rfl
theorem more_more (a b : List Sym) (x : Except (Int × Int) (List Sym)) : more a (more b x) = more (a ++ b) x := by
  cases x <;> simp [more]
theorem scan_skip (fuel r : Nat) (l : List UInt8) (pos : Nat) : scan fuel r l pos = scan fuel r (l.drop (bl l)) (pos + bl l) := by
  cases fuel with
  | zero => rfl
  | succ f =>
    unfold scan
    dsimp only
    rw [bl_drop, List.drop_zero, Nat.add_zero]
theorem scan_end (fuel r pos : Nat) : scan (fuel + 1) r [] pos = .ok [] := by
  unfold scan
  dsimp only
  rw [if_pos (by simp)]
theorem scan_step (fuel r : Nat) (l : List UInt8) (pos : Nat) (hb : bl l = 0) (hl : l ≠ []) : scan (fuel + 1) r l pos =
    match symbol r l with
    | .sym kind text n => more [⟨kind, text, (pos : Int)⟩] (scan fuel r (l.drop n) (pos + n))
    | .skip n r' => scan fuel r' (l.drop n) (pos + n)
    | .fault o c => .error (((pos + o : Nat) : Int), c) := by
  conv => lhs; unfold scan
  dsimp only
  rw [hb, List.drop_zero, if_neg hl, Nat.add_zero]
  cases symbol r l with
  | sym k t n => cases hs : scan fuel r (l.drop n) (pos + n) <;> simp only [hs] <;> rfl
  | skip n r' => rfl
  | fault o c => rfl
end Sp
end Go.Proofs.YtjghijeblddijaaGreatDoor
