/- A fault lies within the text and has a code; a symbol has a kind from 1 to 8. -/
import Derived.Test.YtjghijeblddijaaGreatDoorStropFactsC
namespace Go.Proofs.YtjghijeblddijaaGreatDoor
namespace Sp
theorem quotedGo_fault (l : List UInt8) : ∀ (i o : Nat) (c : Int), quotedGo l i = .error (o, c) → o ≤ i + l.length ∧ c ≠ 0 := by
  induction hn : l.length using Nat.strongRecOn generalizing l with
  | ind m ih =>
    intro i o c h
    subst hn
    cases l with
    | nil =>
      have h' : (Except.error (0, 16) : Except (Nat × Int) (List UInt8 × Nat)) = .error (o, c) := h
      injection h' with h'; injection h' with h1 h2
      subst h1; subst h2
      exact ⟨by omega, by decide⟩
    | cons a t =>
      rw [List.length_cons] at *
      cases hp : permitted a with
      | false =>
        rw [quotedGo_bad a t i hp] at h
        injection h with h; injection h with h1 h2
        subst h1; subst h2
        exact ⟨by omega, by decide⟩
      | true =>
      by_cases h9 : a = 9 ∨ a = 10
      · rw [quotedGo_line a t i hp h9] at h
        injection h with h; injection h with h1 h2
        subst h1; subst h2
        exact ⟨by omega, by decide⟩
      by_cases h34 : a = 34
      · subst h34
        by_cases ht : t.getD 0 0 = 34
        · cases t with
          | nil => exact absurd ht (by decide)
          | cons d u =>
            have hd : d = 34 := ht
            subst hd
            rw [quotedGo_two] at h
            cases hq : quotedGo u (i + 2) with
            | error f =>
              rw [hq] at h
              have e : f = (o, c) := by
                have h' : (Except.error f : Except (Nat × Int) (List UInt8 × Nat)) = .error (o, c) := h
                injection h'
              have := ih u.length (by simp only [List.length_cons]; omega) u rfl (i + 2) o c (by rw [hq, e])
              simp only [List.length_cons]
              exact ⟨by omega, this.2⟩
            | ok x => rw [hq] at h; cases h
        · rw [quotedGo_end t i ht] at h; cases h
      · rw [quotedGo_any a t i hp h9 h34] at h
        cases hq : quotedGo t (i + 1) with
        | error f =>
          rw [hq] at h
          have e : f = (o, c) := by
            have h' : (Except.error f : Except (Nat × Int) (List UInt8 × Nat)) = .error (o, c) := h
            injection h'
          have := ih t.length (by omega) t rfl (i + 1) o c (by rw [hq, e])
          exact ⟨by omega, this.2⟩
        | ok x => rw [hq] at h; cases h
theorem formatGo_fault (l : List UInt8) : ∀ (i : Nat) (q : Bool) (o : Nat) (c : Int), formatGo l i q = .error (o, c) → o ≤ i + l.length ∧ c ≠ 0 := by
  induction l with
  | nil =>
    intro i q o c h
    simp only [formatGo] at h
    injection h with h; injection h with h1 h2
    subst h1; subst h2
    exact ⟨by omega, by decide⟩
  | cons a t ih =>
    intro i q o c h
    unfold formatGo at h
    rw [List.length_cons]
    split at h
    · injection h with h; injection h with h1 h2
      subst h1; subst h2
      exact ⟨by omega, by decide⟩
    · split at h
      · injection h with h; injection h with h1 h2
        subst h1; subst h2
        exact ⟨by omega, by decide⟩
      · split at h
        · cases h
        · split at h
          · cases h
          · rename_i f he
            injection h with h
            have := ih _ _ o c (by rw [he, h])
            exact ⟨by omega, this.2⟩
theorem commentGo_fault (l : List UInt8) : ∀ (i o : Nat) (c : Int), commentGo l i = .error (o, c) → o ≤ i + l.length ∧ c ≠ 0 := by
  induction l with
  | nil =>
    intro i o c h
    simp only [commentGo] at h
    injection h with h; injection h with h1 h2
    subst h1; subst h2
    exact ⟨by omega, by decide⟩
  | cons a t ih =>
    intro i o c h
    unfold commentGo at h
    rw [List.length_cons]
    split at h
    · injection h with h; injection h with h1 h2
      subst h1; subst h2
      exact ⟨by omega, by decide⟩
    · split at h
      · cases h
      · have := ih _ o c h
        exact ⟨by omega, this.2⟩
theorem untilGo_fault (r : Nat) (w : List UInt8) (l : List UInt8) : ∀ (i s : Nat) (g : Bool) (o : Nat) (c : Int), untilGo r w l i s g = .error (o, c) → o ≤ i + l.length ∧ c ≠ 0 := by
  induction l with
  | nil =>
    intro i s g o c h
    cases s <;>
    · simp only [untilGo] at h
      injection h with h; injection h with h1 h2
      subst h1; subst h2
      exact ⟨by omega, by decide⟩
  | cons a t ih =>
    intro i s g o c h
    rw [List.length_cons]
    cases s with
    | succ s =>
      simp only [untilGo] at h
      split at h
      · cases h
      · rename_i f he
        injection h with h
        have := ih _ _ _ o c (by rw [he, h])
        exact ⟨by omega, this.2⟩
    | zero =>
      simp only [untilGo] at h
      split at h
      · injection h with h; injection h with h1 h2
        subst h1; subst h2
        exact ⟨by omega, by decide⟩
      · split at h
        · split at h
          · cases h
          · split at h
            · cases h
            · rename_i f he
              injection h with h
              have := ih _ _ _ o c (by rw [he, h])
              exact ⟨by omega, this.2⟩
        · split at h
          · cases h
          · rename_i f he
            injection h with h
            have := ih _ _ _ o c (by rw [he, h])
            exact ⟨by omega, this.2⟩
/-- What a step can come to. -/
def Sound (n : Nat) : Step → Prop
  | .sym k _ _ => 1 ≤ k ∧ k ≤ 8
  | .skip _ _ => True
  | .fault o c => o ≤ n ∧ c ≠ 0
theorem word_sound (r : Nat) (w : List UInt8) (n : Nat) (l : List UInt8) (hn : n ≤ l.length) : Sound l.length (word r w n l) := by
  have hd : (l.drop n).length = l.length - n := List.length_drop
  unfold word
  split
  · split
    · trivial
    · rename_i o c he
      have := untilGo_fault _ _ _ _ _ _ _ _ he
      exact ⟨by omega, this.2⟩
  · split
    · split
      · trivial
      · rename_i o c he
        have := untilGo_fault _ _ _ _ _ _ _ _ he
        exact ⟨by omega, this.2⟩
    · split
      · exact ⟨Nat.zero_le _, by decide⟩
      · exact ⟨by decide, by decide⟩
theorem symbol_sound (r : Nat) (l : List UInt8) (hl : l ≠ []) : Sound l.length (symbol r l) := by
  cases l with
  | nil => exact absurd rfl hl
  | cons c t =>
  unfold symbol
  dsimp only
  split
  · exact ⟨Nat.zero_le _, by decide⟩
  · split
    · rename_i w n hb
      exact word_sound r w n _ (bold_bound _ _ _ _ hb).2
    · split
      · unfold tag
        dsimp only
        split
        · exact ⟨Nat.zero_le _, by decide⟩
        · exact ⟨by decide, by decide⟩
      · split
        · unfold number
          dsimp only
          split
          · split
            · exact ⟨Nat.zero_le _, by decide⟩
            · split
              · exact ⟨by decide, by decide⟩
              · exact ⟨Nat.zero_le _, by decide⟩
          · split
            · exact ⟨Nat.zero_le _, by decide⟩
            · split
              · exact ⟨by decide, by decide⟩
              · exact ⟨by decide, by decide⟩
        · split
          · unfold quoted
            split
            · exact ⟨by decide, by decide⟩
            · rename_i o x he
              have := quotedGo_fault _ _ _ _ he
              have e : ((c :: t).drop 1).length = t.length := rfl
              rw [List.length_cons]
              exact ⟨by omega, this.2⟩
          · split
            · unfold format
              split
              · exact ⟨by decide, by decide⟩
              · rename_i o x he
                have := formatGo_fault _ _ _ _ _ he
                have e : ((c :: t).drop 1).length = t.length := rfl
                rw [List.length_cons]
                exact ⟨by omega, this.2⟩
            · split
              · unfold comment
                split
                · trivial
                · rename_i o x he
                  have := commentGo_fault _ _ _ _ he
                  have e : ((c :: t).drop 1).length = t.length := rfl
                  rw [List.length_cons]
                  exact ⟨by omega, this.2⟩
              · unfold sign
                split
                · exact ⟨by decide, by decide⟩
                · exact ⟨Nat.zero_le _, by decide⟩
theorem scan_sound : ∀ (f r : Nat) (l : List UInt8) (pos : Nat), r ≤ 2 → l.length < f →
    (∀ L, scan f r l pos = .ok L → ∀ y ∈ L, 1 ≤ y.kind ∧ y.kind ≤ 8) ∧ (∀ e, scan f r l pos = .error e → 0 ≤ e.1 ∧ e.1 ≤ ((pos + l.length : Nat) : Int) ∧ e.2 ≠ 0) := by
  intro f
  induction f with
  | zero => intro _ _ _ _ h; exact absurd h (Nat.not_lt_zero _)
  | succ f ih =>
    intro r l pos hr hf
    have hb := bl_drop l
    have hm : (l.drop (bl l)).length + bl l = l.length := by have := bl_le l; rw [List.length_drop]; omega
    rw [scan_skip]
    generalize l.drop (bl l) = m at *
    by_cases h0 : m = []
    · rw [h0, scan_end]
      exact ⟨fun L h y hy => (by injection h with h; rw [← h] at hy; simp at hy), fun e h => (by cases h)⟩
    · rw [scan_step f r m _ hb h0]
      have ha := symbol_adv r m hr h0
      have hs := symbol_sound r m h0
      cases hst : symbol r m with
      | sym k t n =>
        rw [hst] at ha hs
        dsimp only
        have ha' : 1 ≤ n ∧ n ≤ m.length := ha
        have hs' : 1 ≤ k ∧ k ≤ 8 := hs
        have hd : (m.drop n).length = m.length - n := List.length_drop
        obtain ⟨i1, i2⟩ := ih r (m.drop n) (pos + bl l + n) hr (by omega)
        cases hx : scan f r (m.drop n) (pos + bl l + n) with
        | error e =>
          refine ⟨fun L h => (by cases h), fun e' h => ?_⟩
          injection h with h
          subst h
          have := i2 e hx
          exact ⟨this.1, by omega, this.2.2⟩
        | ok L' =>
          refine ⟨fun L h y hy => ?_, fun e' h => (by cases h)⟩
          injection h with h
          subst h
          rcases List.mem_cons.1 hy with rfl | hy
          · exact hs'
          · exact i1 L' hx y hy
      | skip n r' =>
        rw [hst] at ha
        dsimp only
        have ha' : 1 ≤ n ∧ n ≤ m.length ∧ r' ≤ 2 := ha
        have hd : (m.drop n).length = m.length - n := List.length_drop
        obtain ⟨i1, i2⟩ := ih r' (m.drop n) (pos + bl l + n) ha'.2.2 (by omega)
        refine ⟨i1, fun e h => ?_⟩
        have := i2 e h
        exact ⟨this.1, by omega, this.2.2⟩
      | fault o c =>
        rw [hst] at hs
        dsimp only
        have hs' : o ≤ m.length ∧ c ≠ 0 := hs
        refine ⟨fun L h => (by cases h), fun e h => ?_⟩
        injection h with h
        subst h
        exact ⟨by dsimp only; omega, by dsimp only; omega, hs'.2⟩
theorem symbols_fault (s : List UInt8) (regime : Int) (e : Int × Int) (h : symbols s regime = .error e) : 0 ≤ e.1 ∧ e.1 ≤ (s.length : Int) ∧ e.2 ≠ 0 := by
  unfold symbols at h
  split at h
  · injection h with h; subst h; exact ⟨by decide, by simp, by decide⟩
  · split at h
    · injection h with h; subst h; exact ⟨by decide, by simp, by decide⟩
    · split at h
      · cases h
      · rename_i f he
        injection h with h
        subst h
        have := (scan_sound (s.length + 1) regime.toNat s 0 (by omega) (by omega)).2 f he
        rw [Nat.zero_add] at this
        exact this
end Sp
end Go.Proofs.YtjghijeblddijaaGreatDoor
