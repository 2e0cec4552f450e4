/- What follows a symbol does not matter, if it cannot go on with the symbol: numbers, tags, bold words. -/
import Derived.Test.YtjghijeblddijaaGreatDoorStropCutA
namespace Go.Proofs.YtjghijeblddijaaGreatDoor
namespace Sp
theorem fraction_eq (l : List UInt8) : fraction l = if ((tl l).getD 0 0 == 46 && digit ((tl l).getD 1 0)) = true then (46 :: (spread digit ((tl l).drop 1)).1, bl l + 1 + (spread digit ((tl l).drop 1)).2) else ([], 0) := rfl
theorem tok_digit : Tok digit := ⟨by decide, fun c => ascii256 (P := fun c => blank c = true → digit c = false) (by decide +kernel) c⟩
theorem not_capital (c : UInt8) (h : blank c = true ∨ c = 35) : small c = false ∧ capital c = false ∧ digit c = false ∧ alnum c = false ∧ small (low c) = false ∧ c ≠ 39 ∧ c ≠ 34 ∧ c ≠ 46 ∧ c ≠ 0 :=
  ascii256 (P := fun c => (blank c = true ∨ c = 35) → small c = false ∧ capital c = false ∧ digit c = false ∧ alnum c = false ∧ small (low c) = false ∧ c ≠ 39 ∧ c ≠ 34 ∧ c ≠ 46 ∧ c ≠ 0) (by decide +kernel) c h
theorem letter_cut (r : Nat) (c : UInt8) (h : blank c = true ∨ c = 35) : letter r c = false := by
  unfold letter
  have := not_capital c h
  rw [this.1, this.2.1]; simp
theorem tok_letter (r : Nat) : Tok (fun c => letter r c || digit c) :=
  ⟨by show (letter r 35 || digit 35) = false; rw [letter_cut r 35 (.inr rfl)]; decide, fun c h => by show (letter r c || digit c) = false; rw [letter_cut r c (.inl h), (not_capital c (.inl h)).2.2.1]; rfl⟩
theorem tok_hexish (r : Nat) : Tok (hexish r) :=
  ⟨by unfold hexish; rw [letter_cut r 35 (.inr rfl)]; decide, fun c h => by unfold hexish; rw [letter_cut r c (.inl h), (not_capital c (.inl h)).2.2.1]; rfl⟩
theorem cut_getD {b : List UInt8} (hC : Cut b) : b.getD 0 0 = 0 ∨ blank (b.getD 0 0) = true ∨ b.getD 0 0 = 35 := by
  cases b with
  | nil => exact .inl rfl
  | cons c t => exact .inr (hC c t rfl)
theorem fraction_cut {b b' : List UInt8} (hN : Nx b b') (hC : Cut b') (u : List UInt8) (h : (fraction (u ++ b)).2 ≤ u.length) : fraction (u ++ b') = fraction (u ++ b) := by
  rw [fraction_eq] at h
  rw [fraction_eq, fraction_eq]
  rcases parts u with ⟨v, c, t, rfl, hc, h1, h2⟩ | ⟨h1, h2⟩
  · rw [h1, h2] at h
    rw [h1, h1, h2, h2]
    have g0 : ∀ x, (c :: t ++ x).getD 0 0 = c := fun x => rfl
    have g1 : ∀ x, (c :: t ++ x).getD 1 0 = (t ++ x).getD 0 0 := fun x => rfl
    have g2 : ∀ x, (c :: t ++ x).drop 1 = t ++ x := fun x => rfl
    rw [g0, g1, g2] at h
    rw [g0, g0, g1, g1, g2, g2]
    cases h46 : c == 46 with
    | false => rfl
    | true =>
      rw [h46, Bool.true_and] at h
      rw [Bool.true_and, Bool.true_and]
      cases t with
      | nil =>
        rw [List.nil_append] at h
        rw [List.nil_append, List.nil_append]
        have e1 : digit (b.getD 0 0) = false := by
          cases hd : digit (b.getD 0 0) with
          | false => rfl
          | true =>
            rw [hd, if_pos rfl] at h
            have h5 : 1 ≤ (spread digit b).2 := by
              cases b with
              | nil => exact absurd hd (by decide)
              | cons d s => exact spread_one digit d s hd
            simp only [List.length_append, List.length_cons, List.length_nil] at h
            omega
        have e2 : digit (b'.getD 0 0) = false := by
          rcases cut_getD hC with h' | h' | h'
          · rw [h']; decide
          · exact (not_capital _ (.inl h')).2.2.1
          · exact (not_capital _ (.inr h')).2.2.1
        rw [e1, e2]; rfl
      | cons d s =>
        have g3 : ∀ x, (d :: s ++ x).getD 0 0 = d := fun x => rfl
        rw [g3] at h
        rw [g3, g3]
        cases hd : digit d with
        | false => rfl
        | true =>
          rw [hd, if_pos rfl] at h
          rw [spread_cut tok_digit hN hC (d :: s) (by simp only [List.length_append, List.length_cons] at h ⊢; omega)]
  · rw [h1, h2] at h
    rw [h1, h1, h2, h2]
    have e1 : ((tl b).getD 0 0 == 46 && digit ((tl b).getD 1 0)) = false := by
      cases hd : ((tl b).getD 0 0 == 46 && digit ((tl b).getD 1 0)) with
      | false => rfl
      | true => rw [hd, if_pos rfl] at h; dsimp only at h; omega
    have e2 : ((tl b').getD 0 0 == 46 && digit ((tl b').getD 1 0)) = false := by
      rcases hN with h' | ⟨s, h'⟩ | h'
      · rw [h']; rfl
      · rw [h']; rfl
      · rw [h']; exact e1
    rw [e1, e2]; rfl
theorem drop_one (l : List UInt8) : l.drop (bl l + 1) = (tl l).drop 1 := by unfold tl; rw [List.drop_drop]
theorem radix_eq (r : Nat) (l : List UInt8) : radix r l = if (letter r ((tl l).getD 0 0) && low ((tl l).getD 0 0) == 114) = true then
    (if (spread (hexish r) (tl ((tl l).drop 1))).1 = [] then ([], 0) else (114 :: (spread (hexish r) (tl ((tl l).drop 1))).1, bl l + 1 + bl ((tl l).drop 1) + (spread (hexish r) (tl ((tl l).drop 1))).2)) else ([], 0) := by
  unfold radix
  dsimp only
  rw [drop_one l]
  rfl
theorem radix_cut (r : Nat) {b b' : List UInt8} (hN : Nx b b') (hC : Cut b') (u : List UInt8) (h : (radix r (u ++ b)).2 ≤ u.length) : radix r (u ++ b') = radix r (u ++ b) := by
  rw [radix_eq] at h
  rw [radix_eq, radix_eq]
  rcases parts u with ⟨v, c, t, rfl, hc, h1, h2⟩ | ⟨h1, h2⟩
  · rw [h1, h2] at h
    rw [h1, h1, h2, h2]
    have g0 : ∀ x, (c :: t ++ x).getD 0 0 = c := fun x => rfl
    have g2 : ∀ x, (c :: t ++ x).drop 1 = t ++ x := fun x => rfl
    rw [g0, g2] at h
    rw [g0, g0, g2, g2]
    cases ht : (letter r c && low c == 114) with
    | false => rfl
    | true =>
      rw [ht, if_pos rfl] at h
      rw [if_pos rfl, if_pos rfl]
      by_cases hn : (spread (hexish r) (tl (t ++ b))).1 = []
      · rw [if_pos hn, if_pos (spread_tl_none (tok_hexish r) hN t hn)]
      · rw [if_neg hn] at h
        have := spread_tl_cut (tok_hexish r) hN hC t hn (by simp only [List.length_append, List.length_cons] at h ⊢; omega)
        rw [this.1, this.2]
  · rw [h1, h2] at h
    rw [h1, h1, h2, h2]
    have e0 : ∀ (n : Nat) (x : List UInt8), (letter r (x.getD 0 0) && low (x.getD 0 0) == 114) = true → ¬ (spread (hexish r) (tl (x.drop 1))).1 = [] → x = tl b → ¬ (u.length + bl b + 1 + n ≤ u.length) := fun n x _ _ _ => by omega
    cases ht : (letter r ((tl b).getD 0 0) && low ((tl b).getD 0 0) == 114) with
    | false =>
      have e2 : (letter r ((tl b').getD 0 0) && low ((tl b').getD 0 0) == 114) = false := by
        rcases hN with h' | ⟨s, h'⟩ | h'
        · rw [h']; show (letter r 0 && _) = false; rw [letter0]; rfl
        · rw [h']; show (letter r 35 && _) = false; rw [letter_cut r 35 (.inr rfl)]; rfl
        · rw [h']; exact ht
      rw [e2]; rfl
    | true =>
      rw [ht, if_pos rfl] at h
      rw [if_pos rfl]
      by_cases hn : (spread (hexish r) (tl ((tl b).drop 1))).1 = []
      · rw [if_pos hn]
        rcases hN with h' | ⟨s, h'⟩ | h'
        · rw [h']; show (if (letter r 0 && _) = true then _ else _) = _; rw [letter0]; rfl
        · rw [h']; show (if (letter r 35 && _) = true then _ else _) = _; rw [letter_cut r 35 (.inr rfl)]; rfl
        · rw [h', ht, if_pos rfl, if_pos hn]
      · rw [if_neg hn] at h
        dsimp only at h; omega
def expo (m : List UInt8) : List UInt8 × Nat :=
  if ((tl m).getD 0 0 == 43 || (tl m).getD 0 0 == 45) = true then
    (if (spread digit (tl ((tl m).drop 1))).1 = [] then ([], 0) else (101 :: (tl m).getD 0 0 :: (spread digit (tl ((tl m).drop 1))).1, bl m + 1 + bl ((tl m).drop 1) + (spread digit (tl ((tl m).drop 1))).2))
  else (if (spread digit (tl m)).1 = [] then ([], 0) else (101 :: (spread digit (tl m)).1, bl m + (spread digit (tl m)).2))
theorem exponent_eq (r : Nat) (l : List UInt8) : exponent r l = if (letter r ((tl l).getD 0 0) && low ((tl l).getD 0 0) == 101) = true then
    (if (expo ((tl l).drop 1)).1 = [] then ([], 0) else ((expo ((tl l).drop 1)).1, bl l + 1 + (expo ((tl l).drop 1)).2)) else ([], 0) := by
  unfold exponent
  dsimp only
  rw [drop_one l]
  generalize (tl l).drop 1 = m
  rw [drop_one m]
  unfold expo
  change (if (letter r ((tl l).getD 0 0) && low ((tl l).getD 0 0) == 101) = true then
      if ((tl m).getD 0 0 == 43 || (tl m).getD 0 0 == 45) = true then
        if (spread digit (tl ((tl m).drop 1))).1 = [] then ([], 0) else (101 :: (tl m).getD 0 0 :: (spread digit (tl ((tl m).drop 1))).1, bl l + 1 + bl m + 1 + bl ((tl m).drop 1) + (spread digit (tl ((tl m).drop 1))).2)
      else if (spread digit (tl m)).1 = [] then ([], 0) else (101 :: (spread digit (tl m)).1, bl l + 1 + bl m + (spread digit (tl m)).2)
    else ([], 0)) = _
  split
  · split
    · split
      · simp
      · rw [if_neg (by simp)]
        dsimp only
        congr 1; omega
    · split
      · simp
      · rw [if_neg (by simp)]
        dsimp only
        congr 1; omega
  · rfl
theorem expo_cut {b b' : List UInt8} (hN : Nx b b') (hC : Cut b') (u : List UInt8) (h : (expo (u ++ b)).2 ≤ u.length) : expo (u ++ b') = expo (u ++ b) := by
  unfold expo at h ⊢
  rcases parts u with ⟨v, c, t, hu, hc, h1, h2⟩ | ⟨h1, h2⟩
  · have f1 : ∀ x, bl (u ++ x) = v.length := fun x => by rw [hu]; exact h1 x
    have f2 : ∀ x, tl (u ++ x) = c :: t ++ x := fun x => by rw [hu]; exact h2 x
    have hul : u.length = v.length + 1 + t.length := by rw [hu]; simp only [List.length_append, List.length_cons]; omega
    have g0 : ∀ x, (tl (u ++ x)).getD 0 0 = c := fun x => by rw [f2]; rfl
    have g2 : ∀ x, (tl (u ++ x)).drop 1 = t ++ x := fun x => by rw [f2]; rfl
    rw [g0, g2] at h
    rw [g0, g0, g2, g2]
    cases ht : (c == 43 || c == 45) with
    | true =>
      rw [ht, if_pos rfl] at h
      rw [if_pos rfl, if_pos rfl]
      by_cases hn : (spread digit (tl (t ++ b))).1 = []
      · rw [if_pos hn, if_pos (spread_tl_none tok_digit hN t hn)]
      · rw [if_neg hn] at h
        dsimp only at h
        rw [f1] at h
        have := spread_tl_cut tok_digit hN hC t hn (by omega)
        rw [this.1, this.2, f1, f1]
    | false =>
      rw [ht, if_neg Bool.false_ne_true] at h
      rw [if_neg Bool.false_ne_true, if_neg Bool.false_ne_true]
      by_cases hn : (spread digit (tl (u ++ b))).1 = []
      · rw [if_pos hn, if_pos (spread_tl_none tok_digit hN u hn)]
      · rw [if_neg hn] at h
        dsimp only at h
        have := spread_tl_cut tok_digit hN hC u hn (by omega)
        rw [this.1, this.2]
  · rw [h1, h2] at h
    rw [h1, h1, h2, h2]
    have hfail : (if ((tl b).getD 0 0 == 43 || (tl b).getD 0 0 == 45) = true then (spread digit (tl ((tl b).drop 1))).1 else (spread digit (tl b)).1) = [] := by
      apply Classical.byContradiction
      intro hne
      split at hne
      · rename_i hs
        rw [if_pos hs, if_neg hne] at h; dsimp only at h; omega
      · rename_i hs
        rw [if_neg hs, if_neg hne] at h; dsimp only at h
        have := spread_pos digit _ hne
        omega
    have full : ∀ n m, (if ((tl b).getD 0 0 == 43 || (tl b).getD 0 0 == 45) = true then
        (if (spread digit (tl ((tl b).drop 1))).1 = [] then (([], 0) : List UInt8 × Nat) else (101 :: (tl b).getD 0 0 :: (spread digit (tl ((tl b).drop 1))).1, n))
        else (if (spread digit (tl b)).1 = [] then ([], 0) else (101 :: (spread digit (tl b)).1, m))) = ([], 0) := by
      intro n m
      split at hfail
      · rename_i hs
        rw [if_pos hs, if_pos hfail]
      · rename_i hs
        rw [if_neg hs, if_pos hfail]
    rw [full]
    rcases hN with h' | ⟨s, h'⟩ | h'
    · rw [h']; rfl
    · rw [h']; rfl
    · rw [h', full]
theorem expo_none (m : List UInt8) (h : (expo m).1 = []) : (expo m).2 = 0 := by
  revert h
  unfold expo
  split
  · split <;> simp
  · split <;> simp
theorem exponent_cut (r : Nat) {b b' : List UInt8} (hN : Nx b b') (hC : Cut b') (u : List UInt8) (h : (exponent r (u ++ b)).2 ≤ u.length) : exponent r (u ++ b') = exponent r (u ++ b) := by
  rw [exponent_eq] at h
  rw [exponent_eq, exponent_eq]
  rcases parts u with ⟨v, c, t, rfl, hc, h1, h2⟩ | ⟨h1, h2⟩
  · rw [h1, h2] at h
    rw [h1, h1, h2, h2]
    have g0 : ∀ x, (c :: t ++ x).getD 0 0 = c := fun x => rfl
    have g2 : ∀ x, (c :: t ++ x).drop 1 = t ++ x := fun x => rfl
    rw [g0, g2] at h
    rw [g0, g0, g2, g2]
    cases ht : (letter r c && low c == 101) with
    | false => rfl
    | true =>
      rw [ht, if_pos rfl] at h
      rw [if_pos rfl, if_pos rfl]
      by_cases hn : (expo (t ++ b)).1 = []
      · rw [expo_cut hN hC t (by rw [expo_none _ hn]; exact Nat.zero_le _)]
      · rw [if_neg hn] at h
        rw [expo_cut hN hC t (by simp only [List.length_append, List.length_cons] at h ⊢; omega)]
  · rw [h1, h2] at h
    rw [h1, h1, h2, h2]
    have full : ∀ n, (if (letter r ((tl b).getD 0 0) && low ((tl b).getD 0 0) == 101) = true then
        (if (expo ((tl b).drop 1)).1 = [] then (([], 0) : List UInt8 × Nat) else ((expo ((tl b).drop 1)).1, n)) else ([], 0)) = ([], 0) := by
      intro n
      split
      · rename_i ht
        rw [if_pos ht] at h
        split
        · rfl
        · rename_i hn
          rw [if_neg hn] at h
          dsimp only at h; omega
      · rfl
    rw [full]
    rcases hN with h' | ⟨s, h'⟩ | h'
    · rw [h']; show (if (letter r 0 && _) = true then _ else _) = _; rw [letter0]; rfl
    · rw [h']; show (if (letter r 35 && _) = true then _ else _) = _; rw [letter_cut r 35 (.inr rfl)]; rfl
    · rw [h', full]
theorem radix_none (r : Nat) (l : List UInt8) (h : (radix r l).1 = []) : (radix r l).2 = 0 := by
  revert h
  rw [radix_eq]
  split
  · split <;> simp
  · simp
/-- A step that makes a symbol of its own, or passes by a comment, within n bytes. -/
def Within (n : Nat) : Step → Prop
  | .sym _ _ m => m ≤ n
  | .skip m _ => m ≤ n
  | .fault _ _ => False
theorem drop_app (u b : List UInt8) (n : Nat) (h : n ≤ u.length) : (u ++ b).drop n = u.drop n ++ b := List.drop_append_of_le_length h
theorem tag_cut (r : Nat) {b b' : List UInt8} (hN : Nx b b') (hC : Cut b') (u : List UInt8) (h : Within u.length (tag r (u ++ b))) : tag r (u ++ b') = tag r (u ++ b) := by
  unfold tag at h ⊢
  dsimp only at h ⊢
  split at h
  · exact h.elim
  · rw [spread_cut (tok_letter r) hN hC u h]
theorem number_cut (r : Nat) {b b' : List UInt8} (hN : Nx b b') (hC : Cut b') (u : List UInt8) (h : Within u.length (number r (u ++ b))) : number r (u ++ b') = number r (u ++ b) := by
  unfold number at h ⊢
  dsimp only at h ⊢
  have hd : (spread digit (u ++ b)).2 ≤ u.length := by
    split at h
    · split at h
      · exact h.elim
      · split at h
        · have h' : _ + _ ≤ u.length := h
          omega
        · exact h.elim
    · split at h
      · exact h.elim
      · have h' : _ + _ + _ ≤ u.length := h
        omega
  rw [spread_cut tok_digit hN hC u hd]
  generalize spread digit (u ++ b) = d at *
  rw [drop_app u b _ hd] at h
  rw [drop_app u b _ hd, drop_app u b' _ hd]
  have hul : (u.drop d.2).length = u.length - d.2 := List.length_drop
  by_cases hbits : d.1 ≠ [] ∧ (radix r (u.drop d.2 ++ b)).1 ≠ []
  · rw [if_pos hbits] at h
    have hx : (radix r (u.drop d.2 ++ b)).2 ≤ (u.drop d.2).length := by
      split at h
      · exact h.elim
      · split at h
        · have h' : _ + _ ≤ u.length := h
          omega
        · exact h.elim
    rw [radix_cut r hN hC _ hx, if_pos hbits, if_pos hbits]
  · rw [if_neg hbits] at h
    have hbits' : ¬ (d.1 ≠ [] ∧ (radix r (u.drop d.2 ++ b')).1 ≠ []) := by
      intro hb
      by_cases hx : (radix r (u.drop d.2 ++ b)).1 = []
      · rw [radix_cut r hN hC _ (by rw [radix_none _ _ hx]; exact Nat.zero_le _)] at hb
        exact hb.2 hx
      · exact hbits ⟨hb.1, hx⟩
    rw [if_neg hbits, if_neg hbits']
    have hf : d.2 + (fraction (u.drop d.2 ++ b)).2 + (exponent r ((u ++ b).drop (d.2 + (fraction (u.drop d.2 ++ b)).2))).2 ≤ u.length := by
      split at h
      · exact h.elim
      · exact h
    rw [fraction_cut hN hC _ (by omega)]
    generalize fraction (u.drop d.2 ++ b) = f at *
    rw [drop_app u b _ (by omega)] at hf
    rw [drop_app u b _ (by omega), drop_app u b' _ (by omega)]
    rw [exponent_cut r hN hC _ (by rw [List.length_drop]; omega)]
end Sp
end Go.Proofs.YtjghijeblddijaaGreatDoor
