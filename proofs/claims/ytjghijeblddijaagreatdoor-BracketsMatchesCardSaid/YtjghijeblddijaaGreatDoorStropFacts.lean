/- Facts about the pure scanner's numbers: lengths, and which characters. -/
import Derived.Test.YtjghijeblddijaaGreatDoorStropWalkO
namespace Go.Proofs.YtjghijeblddijaaGreatDoor
namespace Sp
theorem spreadGo_mem (p : UInt8 → Bool) (l : List UInt8) (k : Nat) : ∀ x ∈ (spreadGo p l k).1, ∃ c, p c = true ∧ x = low c := by
  induction l generalizing k with
  | nil => simp [spreadGo]
  | cons c t ih =>
    simp only [spreadGo]
    split
    · exact ih _
    · split
      · rename_i hp
        intro x hx
        rcases List.mem_cons.1 hx with rfl | hx
        · exact ⟨c, hp, rfl⟩
        · exact ih _ x hx
      · simp
theorem spread_mem (p : UInt8 → Bool) (l : List UInt8) : ∀ x ∈ (spread p l).1, ∃ c, p c = true ∧ x = low c := by
  cases l with
  | nil => simp [spread]
  | cons c t =>
    simp only [spread]
    split
    · rename_i hp
      intro x hx
      rcases List.mem_cons.1 hx with rfl | hx
      · exact ⟨c, hp, rfl⟩
      · exact spreadGo_mem p t _ x hx
    · simp
theorem ascii256 {P : UInt8 → Prop} (h : ∀ k, k < 256 → P (UInt8.ofNat k)) (c : UInt8) : P c := by
  have := h c.toNat c.toNat_lt
  rwa [show UInt8.ofNat c.toNat = c from by simp] at this
theorem low_digit (c : UInt8) (h : digit c = true) : digit (low c) = true :=
  ascii256 (P := fun c => digit c = true → digit (low c) = true) (by decide +kernel) c h
theorem digit_not_r (c : UInt8) (h : digit c = true) : c ≠ 114 :=
  ascii256 (P := fun c => digit c = true → c ≠ 114) (by decide +kernel) c h
theorem spread_digits (l : List UInt8) : ∀ x ∈ (spread digit l).1, digit x = true := fun x hx => by
  obtain ⟨c, hc, rfl⟩ := spread_mem digit l x hx
  exact low_digit c hc
theorem spread_not_r (l : List UInt8) : (114 : UInt8) ∉ (spread digit l).1 := fun h => digit_not_r _ (spread_digits l _ h) rfl
theorem letter_cap (r : Nat) (c : UInt8) (h : letter r c = true) : (small c || capital c) = true := by
  unfold letter at h
  cases hs : small c <;> simp [hs] at h ⊢
  exact h.2
theorem hexish_low (r : Nat) (c : UInt8) (h : hexish r c = true) : hexc (low c) = true := by
  have h2 : (digit c || ((small c || capital c) && decide (low c ≤ 102))) = true := by
    unfold hexish at h
    cases hd : digit c with
    | true => simp
    | false =>
      rw [hd, Bool.false_or, Bool.and_eq_true] at h
      rw [letter_cap r c h.1, h.2]; rfl
  exact ascii256 (P := fun c => (digit c || ((small c || capital c) && decide (low c ≤ 102))) = true → hexc (low c) = true) (by decide +kernel) c h2
theorem letter0 (r : Nat) : letter r 0 = false := by
  unfold letter
  have h1 : small 0 = false := by decide
  have h2 : capital 0 = false := by decide
  rw [h1, h2]; simp
theorem getD_pos {l : List UInt8} {k : Nat} (h : (l.drop k).getD 0 0 ≠ 0) : k < l.length := by
  apply Classical.byContradiction
  intro hn
  apply h
  simp [List.getD, List.getElem?_drop, List.getElem?_eq_none (show l.length ≤ k by omega)]
theorem radix_facts (r : Nat) (l : List UInt8) : (radix r l).2 ≤ l.length ∧ (radix r l).1.length ≤ l.length + 1 ∧ ((radix r l).1 ≠ [] → ∃ y, (radix r l).1 = 114 :: y ∧ y ≠ [] ∧ ∀ c ∈ y, hexc c = true) := by
  unfold radix
  dsimp only
  split
  · rename_i h
    rw [Bool.and_eq_true] at h
    have hk : bl l < l.length := getD_pos fun h0 => by rw [h0, letter0] at h; cases h.1
    have h2 := bl_le (l.drop (bl l + 1))
    have h3 := spread_le (hexish r) ((l.drop (bl l + 1)).drop (bl (l.drop (bl l + 1))))
    have h4 := spread_mem (hexish r) ((l.drop (bl l + 1)).drop (bl (l.drop (bl l + 1))))
    simp only [List.length_drop] at h2 h3
    split
    · simp
    · rename_i hne
      refine ⟨?_, ?_, fun _ => ⟨_, rfl, hne, fun c hc => ?_⟩⟩
      · omega
      · simp only [List.length_cons]; omega
      · obtain ⟨b, hb, rfl⟩ := h4 c hc
        exact hexish_low r b hb
  · simp
theorem fraction_facts (l : List UInt8) : (fraction l).2 ≤ l.length ∧ (fraction l).1.length ≤ l.length + 1 := by
  unfold fraction
  dsimp only
  split
  · rename_i h
    rw [Bool.and_eq_true, beq_iff_eq] at h
    have hk : bl l < l.length := getD_pos fun h0 => by rw [h0] at h; exact absurd h.1 (by decide)
    have h3 := spread_le digit ((l.drop (bl l)).drop 1)
    simp only [List.length_drop] at h3
    simp only [List.length_cons]
    omega
  · simp
theorem exponent_facts (r : Nat) (l : List UInt8) : (exponent r l).2 ≤ l.length ∧ (exponent r l).1.length ≤ l.length + 2 := by
  unfold exponent
  dsimp only
  split
  · rename_i h
    rw [Bool.and_eq_true] at h
    have hk : bl l < l.length := getD_pos fun h0 => by rw [h0, letter0] at h; cases h.1
    have h2 := bl_le (l.drop (bl l + 1))
    simp only [List.length_drop] at h2
    split
    · rename_i hg
      have hg' : bl (l.drop (bl l + 1)) < (l.drop (bl l + 1)).length := getD_pos fun h0 => by rw [h0] at hg; exact absurd hg (by decide)
      have h5 := bl_le ((l.drop (bl l + 1)).drop (bl (l.drop (bl l + 1)) + 1))
      have h3 := spread_le digit (((l.drop (bl l + 1)).drop (bl (l.drop (bl l + 1)) + 1)).drop (bl ((l.drop (bl l + 1)).drop (bl (l.drop (bl l + 1)) + 1))))
      simp only [List.length_drop] at h3 h5 hg'
      split
      · simp
      · simp only [List.length_cons]; omega
    · have h3 := spread_le digit ((l.drop (bl l + 1)).drop (bl (l.drop (bl l + 1))))
      simp only [List.length_drop] at h3
      split
      · simp
      · simp only [List.length_cons]; omega
  · simp
theorem fraction_none (l : List UInt8) (h : (fraction l).1 = []) : (fraction l).2 = 0 := by
  revert h
  unfold fraction
  dsimp only
  split <;> simp
theorem exponent_none (r : Nat) (l : List UInt8) (h : (exponent r l).1 = []) : (exponent r l).2 = 0 := by
  revert h
  unfold exponent
  dsimp only
  split
  · split
    · split <;> simp
    · split <;> simp
  · simp
end Sp
end Go.Proofs.YtjghijeblddijaaGreatDoor
