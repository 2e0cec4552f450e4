/- What follows a symbol does not matter, if it cannot go on with the symbol: the parts of numbers and tags. -/
import Derived.Test.YtjghijeblddijaaGreatDoorStropReg
namespace Go.Proofs.YtjghijeblddijaaGreatDoor
namespace Sp
/-- A text without the blanks at its head. -/
def tl (l : List UInt8) : List UInt8 := l.drop (bl l)
/-- A text that is empty, or begins with a blank or with the sign of a comment. -/
def Cut (b : List UInt8) : Prop := ∀ c t, b = c :: t → blank c = true ∨ c = 35
/-- Behind the blanks there is nothing, a comment, or the same. -/
def Nx (b b' : List UInt8) : Prop := tl b' = [] ∨ (∃ t, tl b' = 35 :: t) ∨ tl b' = tl b
theorem tl_blank (c : UInt8) (t : List UInt8) (h : blank c = true) : tl (c :: t) = tl t := by
  unfold tl
  rw [show bl (c :: t) = bl t + 1 by simp [bl, h], List.drop_succ_cons]
theorem tl_not (c : UInt8) (t : List UInt8) (h : blank c = false) : tl (c :: t) = c :: t := by
  unfold tl
  rw [show bl (c :: t) = 0 by simp [bl, h], List.drop_zero]
theorem bl_blank (c : UInt8) (t : List UInt8) (h : blank c = true) : bl (c :: t) = bl t + 1 := by simp [bl, h]
theorem bl_not (c : UInt8) (t : List UInt8) (h : blank c = false) : bl (c :: t) = 0 := by simp [bl, h]
theorem tl_head (l : List UInt8) (c : UInt8) (t : List UInt8) (h : tl l = c :: t) : blank c = false := by
  have hb := bl_drop l
  unfold tl at h
  rw [h] at hb
  cases hc : blank c with
  | false => rfl
  | true => rw [bl_blank c t hc] at hb; omega
/-- A prefix has a byte that is no blank, or is of blanks. -/
theorem parts (u : List UInt8) : (∃ v c t, u = v ++ c :: t ∧ blank c = false ∧ (∀ x, bl (v ++ c :: t ++ x) = v.length) ∧ (∀ x, tl (v ++ c :: t ++ x) = c :: t ++ x)) ∨
    ((∀ x, bl (u ++ x) = u.length + bl x) ∧ (∀ x, tl (u ++ x) = tl x)) := by
  induction u with
  | nil => exact .inr ⟨fun x => by simp, fun x => rfl⟩
  | cons a u ih =>
    cases ha : blank a with
    | false =>
      refine .inl ⟨[], a, u, rfl, ha, fun x => ?_, fun x => ?_⟩
      · exact bl_not _ _ ha
      · exact tl_not _ _ ha
    | true =>
      rcases ih with ⟨v, c, t, rfl, hc, h1, h2⟩ | ⟨h1, h2⟩
      · refine .inl ⟨a :: v, c, t, rfl, hc, fun x => ?_, fun x => ?_⟩
        · show bl (a :: (v ++ c :: t ++ x)) = _
          rw [bl_blank _ _ ha, h1]; rfl
        · show tl (a :: (v ++ c :: t ++ x)) = _
          rw [tl_blank _ _ ha, h2]
      · refine .inr ⟨fun x => ?_, fun x => ?_⟩
        · show bl (a :: (u ++ x)) = _
          rw [bl_blank _ _ ha, h1, List.length_cons]; omega
        · show tl (a :: (u ++ x)) = _
          rw [tl_blank _ _ ha, h2]
theorem spreadGo_blank (p : UInt8 → Bool) (c : UInt8) (t : List UInt8) (k : Nat) (h : blank c = true) : spreadGo p (c :: t) k = spreadGo p t (k + 1) := by simp [spreadGo, h]
theorem spreadGo_yes (p : UInt8 → Bool) (c : UInt8) (t : List UInt8) (k : Nat) (h : blank c = false) (hp : p c = true) : spreadGo p (c :: t) k = (low c :: (spreadGo p t 0).1, k + 1 + (spreadGo p t 0).2) := by simp [spreadGo, h, hp]
theorem spreadGo_not (p : UInt8 → Bool) (c : UInt8) (t : List UInt8) (k : Nat) (h : blank c = false) (hp : p c = false) : spreadGo p (c :: t) k = ([], 0) := by simp [spreadGo, h, hp]
theorem spread_yes (p : UInt8 → Bool) (c : UInt8) (t : List UInt8) (hp : p c = true) : spread p (c :: t) = (low c :: (spreadGo p t 0).1, 1 + (spreadGo p t 0).2) := by simp [spread, hp]
theorem spread_not (p : UInt8 → Bool) (c : UInt8) (t : List UInt8) (hp : p c = false) : spread p (c :: t) = ([], 0) := by simp [spread, hp]
theorem spreadGo_tl (p : UInt8 → Bool) (l : List UInt8) : ∀ k, spreadGo p l k = match tl l with
    | [] => ([], 0)
    | c :: t => if p c then (low c :: (spreadGo p t 0).1, k + bl l + 1 + (spreadGo p t 0).2) else ([], 0) := by
  induction l with
  | nil => intro k; rfl
  | cons c t ih =>
    intro k
    cases hb : blank c with
    | true =>
      rw [tl_blank c t hb, bl_blank c t hb, spreadGo_blank p c t k hb, ih (k + 1)]
      cases tl t with
      | nil => rfl
      | cons d s =>
        dsimp only
        rw [show k + 1 + bl t = k + (bl t + 1) from by omega]
    | false =>
      rw [tl_not c t hb, bl_not c t hb]
      dsimp only
      cases hp : p c with
      | true => rw [spreadGo_yes p c t k hb hp, if_pos rfl, Nat.add_zero]
      | false => rw [spreadGo_not p c t k hb hp, if_neg (by decide)]
/-- A test of bytes that no blank and no sign of a comment passes. -/
structure Tok (p : UInt8 → Bool) : Prop where
  hash : p 35 = false
  blank : ∀ c, Sp.blank c = true → p c = false
theorem Tok.cut {p : UInt8 → Bool} (h : Tok p) {b : List UInt8} (hb : Cut b) (c : UInt8) (t : List UInt8) (e : b = c :: t) : p c = false := by
  rcases hb c t e with h1 | rfl
  · exact h.blank c h1
  · exact h.hash
theorem spreadGo_zero (p : UInt8 → Bool) (l : List UInt8) (k : Nat) (h : (spreadGo p l k).2 ≤ k) : (spreadGo p l k) = ([], 0) ∧ ∀ c t, tl l = c :: t → p c = false := by
  rw [spreadGo_tl] at h ⊢
  cases ht : tl l with
  | nil => exact ⟨rfl, fun c t e => by cases e⟩
  | cons d s =>
    rw [ht] at h
    dsimp only at h ⊢
    cases hp : p d with
    | true => rw [hp, if_pos rfl] at h; dsimp only at h; omega
    | false => exact ⟨rfl, fun c t e => by injection e with e1 _; rw [← e1]; exact hp⟩
theorem spreadGo_none (p : UInt8 → Bool) (l : List UInt8) (k : Nat) (h : ∀ c t, tl l = c :: t → p c = false) : spreadGo p l k = ([], 0) := by
  rw [spreadGo_tl]
  cases ht : tl l with
  | nil => rfl
  | cons d s => dsimp only; rw [h d s ht]; rfl
theorem nx_none {p : UInt8 → Bool} (hp : Tok p) {b b' : List UInt8} (hN : Nx b b') (h : ∀ c t, tl b = c :: t → p c = false) : ∀ c t, tl b' = c :: t → p c = false := by
  intro c t e
  rcases hN with h1 | ⟨s, h1⟩ | h1
  · rw [h1] at e; cases e
  · rw [h1] at e; injection e with e1 _; rw [← e1]; exact hp.hash
  · exact h c t (h1 ▸ e)
theorem spreadGo_cut {p : UInt8 → Bool} (hp : Tok p) {b b' : List UInt8} (hN : Nx b b') (u : List UInt8) : ∀ k, (spreadGo p (u ++ b) k).2 ≤ u.length + k → spreadGo p (u ++ b') k = spreadGo p (u ++ b) k := by
  induction u with
  | nil =>
    intro k h
    rw [List.nil_append, List.nil_append] at *
    have h1 := spreadGo_zero p b k (by simpa using h)
    rw [h1.1]
    exact spreadGo_none p b' k (nx_none hp hN h1.2)
  | cons c u ih =>
    intro k h
    rw [List.cons_append, List.cons_append] at *
    cases hb : blank c with
    | true =>
      rw [spreadGo_blank _ _ _ _ hb] at h
      rw [spreadGo_blank _ _ _ _ hb, spreadGo_blank _ _ _ _ hb]
      exact ih (k + 1) (by rw [List.length_cons] at h; omega)
    | false =>
      cases hpc : p c with
      | false => rw [spreadGo_not _ _ _ _ hb hpc, spreadGo_not _ _ _ _ hb hpc]
      | true =>
        rw [spreadGo_yes _ _ _ _ hb hpc] at h
        dsimp only at h
        rw [spreadGo_yes _ _ _ _ hb hpc, spreadGo_yes _ _ _ _ hb hpc, ih 0 (by rw [List.length_cons] at h; omega)]
theorem spread_cut {p : UInt8 → Bool} (hp : Tok p) {b b' : List UInt8} (hN : Nx b b') (hC : Cut b') (u : List UInt8) (h : (spread p (u ++ b)).2 ≤ u.length) : spread p (u ++ b') = spread p (u ++ b) := by
  cases u with
  | nil =>
    rw [List.nil_append, List.nil_append] at *
    have e1 : spread p b = ([], 0) := by
      cases b with
      | nil => rfl
      | cons c t =>
        cases hc : p c with
        | false => exact spread_not p c t hc
        | true => rw [spread_yes p c t hc] at h; simp at h
    rw [e1]
    cases hb' : b' with
    | nil => rfl
    | cons c t => exact spread_not p c t (hp.cut hC c t hb')
  | cons c u =>
    rw [List.cons_append, List.cons_append] at *
    cases hc : p c with
    | false => rw [spread_not p c _ hc, spread_not p c _ hc]
    | true =>
      rw [spread_yes p c _ hc] at h
      dsimp only at h
      rw [spread_yes p c _ hc, spread_yes p c _ hc, spreadGo_cut hp hN u 0 (by rw [List.length_cons] at h; omega)]
/-- Behind blanks: the bytes of a spread, as far as they lie in the common part. -/
theorem spread_tl_none {p : UInt8 → Bool} (hp : Tok p) {b b' : List UInt8} (hN : Nx b b') (u : List UInt8) (h : (spread p (tl (u ++ b))).1 = []) : (spread p (tl (u ++ b'))).1 = [] := by
  rcases parts u with ⟨v, c, t, rfl, hc, h1, h2⟩ | ⟨h1, h2⟩
  · rw [h2] at h ⊢
    rw [List.cons_append] at h ⊢
    cases hpc : p c with
    | false => rw [spread_not p c _ hpc]
    | true => rw [spread_yes p c _ hpc] at h; cases h
  · rw [h2] at h ⊢
    have h3 : ∀ c t, tl b = c :: t → p c = false := by
      intro c t e
      rw [e] at h
      cases hpc : p c with
      | false => rfl
      | true => rw [spread_yes p c _ hpc] at h; cases h
    have h4 := nx_none hp hN h3
    cases ht : tl b' with
    | nil => rfl
    | cons c t => rw [spread_not p c t (h4 c t ht)]
theorem spread_pos (p : UInt8 → Bool) (l : List UInt8) (h : (spread p l).1 ≠ []) : 1 ≤ (spread p l).2 := by
  cases l with
  | nil => exact absurd rfl h
  | cons c t =>
    cases hc : p c with
    | false => rw [spread_not p c t hc] at h; exact absurd rfl h
    | true => rw [spread_yes p c t hc]; dsimp only; omega
theorem spread_tl_cut {p : UInt8 → Bool} (hp : Tok p) {b b' : List UInt8} (hN : Nx b b') (hC : Cut b') (u : List UInt8) (hne : (spread p (tl (u ++ b))).1 ≠ []) (h : bl (u ++ b) + (spread p (tl (u ++ b))).2 ≤ u.length) :
    spread p (tl (u ++ b')) = spread p (tl (u ++ b)) ∧ bl (u ++ b') = bl (u ++ b) := by
  have hpos := spread_pos p _ hne
  rcases parts u with ⟨v, c, t, rfl, hc, h1, h2⟩ | ⟨h1, h2⟩
  · rw [h1, h2] at h
    rw [h1, h1, h2, h2]
    rw [List.length_append] at h
    exact ⟨spread_cut hp hN hC (c :: t) (by omega), rfl⟩
  · rw [h1] at h; omega
end Sp
end Go.Proofs.YtjghijeblddijaaGreatDoor
