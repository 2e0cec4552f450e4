/- Walks: exponent. -/
import Derived.Test.YtjghijeblddijaaGreatDoorStropWalkJ
namespace Go.Proofs.YtjghijeblddijaaGreatDoor
open Go.RowKit

/-- An exponent, by places: 'b' blanks, 'k2' blanks behind the e, 'k3' behind the sign. -/
theorem exponent_no (r : Nat) (s : ByteArray) (i b : Nat) (hb : Sp.bl ((bs s).drop i) = b) (h : (Sp.letter r ((bs s).getD (i + b) 0) && Sp.low ((bs s).getD (i + b) 0) == 101) = false) : Sp.exponent r ((bs s).drop i) = ([], 0) := by
  unfold Sp.exponent
  simp only [hb, List.drop_drop, getD_drop', Nat.add_zero, h]
  rfl
theorem exponent_sign (r : Nat) (s : ByteArray) (i b k2 k3 : Nat) (x : List UInt8 × Nat) (hb : Sp.bl ((bs s).drop i) = b) (h : (Sp.letter r ((bs s).getD (i + b) 0) && Sp.low ((bs s).getD (i + b) 0) == 101) = true)
    (hk2 : Sp.bl ((bs s).drop (i + b + 1)) = k2) (hg : (bs s).getD (i + b + 1 + k2) 0 = 43 ∨ (bs s).getD (i + b + 1 + k2) 0 = 45) (hk3 : Sp.bl ((bs s).drop (i + b + 1 + k2 + 1)) = k3) (hx : Sp.spread Sp.digit ((bs s).drop (i + b + 1 + k2 + 1 + k3)) = x) :
    Sp.exponent r ((bs s).drop i) = if x.1 = [] then ([], 0) else (101 :: (bs s).getD (i + b + 1 + k2) 0 :: x.1, b + 1 + k2 + 1 + k3 + x.2) := by
  unfold Sp.exponent
  simp only [hb, List.drop_drop, getD_drop', Nat.add_zero, h]
  rw [show i + (b + 1) = i + b + 1 by omega, hk2]
  have e : ((bs s).getD (i + b + 1 + k2) 0 == 43 || (bs s).getD (i + b + 1 + k2) 0 == 45) = true := by
    rcases hg with hg | hg <;> simp only [hg] <;> decide
  rw [if_pos trivial, if_pos e]
  simp only [show i + b + 1 + (k2 + 1) = i + b + 1 + k2 + 1 by omega, hk3, hx]
theorem exponent_bare (r : Nat) (s : ByteArray) (i b k2 : Nat) (x : List UInt8 × Nat) (hb : Sp.bl ((bs s).drop i) = b) (h : (Sp.letter r ((bs s).getD (i + b) 0) && Sp.low ((bs s).getD (i + b) 0) == 101) = true)
    (hk2 : Sp.bl ((bs s).drop (i + b + 1)) = k2) (hg : ¬ ((bs s).getD (i + b + 1 + k2) 0 = 43 ∨ (bs s).getD (i + b + 1 + k2) 0 = 45)) (hx : Sp.spread Sp.digit ((bs s).drop (i + b + 1 + k2)) = x) :
    Sp.exponent r ((bs s).drop i) = if x.1 = [] then ([], 0) else (101 :: x.1, b + 1 + k2 + x.2) := by
  unfold Sp.exponent
  simp only [hb, List.drop_drop, getD_drop', Nat.add_zero, h]
  rw [show i + (b + 1) = i + b + 1 by omega, hk2]
  have e : ((bs s).getD (i + b + 1 + k2) 0 == 43 || (bs s).getD (i + b + 1 + k2) 0 == 45) = false := by
    rw [not_or] at hg
    rw [beq_eq_false_iff_ne.2 hg.1, beq_eq_false_iff_ne.2 hg.2]; rfl
  rw [if_pos trivial, if_neg (by rw [e]; decide)]
  simp only [hx]

def expE (x : List UInt8 × Nat) (i : Nat) : Ending := .returned (.tuple #[.string ⟨x.1.toArray⟩, .int .i64 ((i + x.2 : Nat) : Int)])

set_option maxRecDepth 100000 in
set_option maxHeartbeats 2000000 in
theorem exponent_none (g : Nat) (s : ByteArray) (at_ rg : Int) (h0 : 0 ≤ rg) (i : Nat) (hi : i ≤ s.size) (hs : s.size ≤ 140737488355328) (w : World) (H : ScnR w g s at_ rg) (h : (Sp.letter rg.toNat ((bs s).getD (i + Sp.bl ((bs s).drop i)) 0) && Sp.low ((bs s).getD (i + Sp.bl ((bs s).drop i)) 0) == 101) = false) :
    Calls Tryz.prog 213 #[.pointer (some ⟨g, 0, none⟩), .int .i64 (i : Int)] w fun e w' => e = expE (Sp.exponent rg.toNat ((bs s).drop i)) i ∧ Below w.heap.size w w' := by
  have R := H
  obtain ⟨c0, c1, c2⟩ := H
  have hfin := exponent_no rg.toNat s i _ rfl h
  have hbl := bl_bound s i hi
  generalize hb : Sp.bl ((bs s).drop i) = b at hbl h
  have Hb := Lib.hid hb
  have Hfin := Lib.hid hfin
  clear hb hfin
  by_cases h1 : i + b < s.size
  · rw [bs_get s (i + b) h1] at h
    by_cases hl : Sp.letter rg.toNat s[i + b] = true
    · have hl2 : (((Sp.low s[i + b]).toNat : Int) != 101) = true := by
        rw [hl, Bool.true_and] at h
        rw [bne_iff_ne]; intro h'
        exact beq_eq_false_iff_ne.1 h ((u8eq _ 101 101 rfl).2 h')
      clear h
      go_enter Tryz.func213, Tryz.ntmps213
      go_wp2_with (first | (go_at_call 80; refine (blanks_i i g s at_ rg _ rfl hi hs _ R).mono ?_; rw [Hb.out]; rintro e w' ⟨rfl, rfl⟩) | (go_at_call 135; refine (letter_c g s at_ rg h0 _ _ R).mono ?_; rintro e w' ⟨rfl, rfl⟩) | (go_at_call 203; refine (low_c _ _).mono ?_; rintro e w' ⟨rfl, rfl⟩))
      go_ret2
      rw [Hfin.out]
      exact ⟨rfl, Below.refl _ _⟩
    · clear h
      go_enter Tryz.func213, Tryz.ntmps213
      go_wp2_with (first | (go_at_call 80; refine (blanks_i i g s at_ rg _ rfl hi hs _ R).mono ?_; rw [Hb.out]; rintro e w' ⟨rfl, rfl⟩) | (go_at_call 135; refine (letter_c g s at_ rg h0 _ _ R).mono ?_; rintro e w' ⟨rfl, rfl⟩) | (go_at_call 203; refine (low_c _ _).mono ?_; rintro e w' ⟨rfl, rfl⟩))
      go_ret2
      rw [Hfin.out]
      exact ⟨rfl, Below.refl _ _⟩
  · clear h
    go_enter Tryz.func213, Tryz.ntmps213
    go_wp2_with (first | (go_at_call 80; refine (blanks_i i g s at_ rg _ rfl hi hs _ R).mono ?_; rw [Hb.out]; rintro e w' ⟨rfl, rfl⟩))
    go_ret2
    rw [Hfin.out]
    exact ⟨rfl, Below.refl _ _⟩

set_option maxRecDepth 100000 in
set_option maxHeartbeats 4000000 in
theorem exponent_yes (g : Nat) (s : ByteArray) (at_ rg : Int) (h0 : 0 ≤ rg) (i b : Nat) (hi : i ≤ s.size) (hs : s.size ≤ 140737488355328) (w : World) (H : ScnR w g s at_ rg) (hb : Sp.bl ((bs s).drop i) = b) (h1 : i + b < s.size)
    (hl : Sp.letter rg.toNat s[i + b] = true) (hl2 : Sp.low s[i + b] = 101) :
    Calls Tryz.prog 213 #[.pointer (some ⟨g, 0, none⟩), .int .i64 (i : Int)] w fun e w' => e = expE (Sp.exponent rg.toNat ((bs s).drop i)) i ∧ Below w.heap.size w w' := by
  have R := H
  obtain ⟨c0, c1, c2⟩ := H
  have hh : (Sp.letter rg.toNat ((bs s).getD (i + b) 0) && Sp.low ((bs s).getD (i + b) 0) == 101) = true := by rw [bs_get s (i + b) h1, hl, hl2]; rfl
  have e1 : (((Sp.low s[i + b]).toNat : Int) != 101) = false := by rw [hl2]; rfl
  have Hl2 := Lib.hid hl2
  clear hl2
  have hp2 := bl_bound s (i + b + 1) (by omega)
  generalize hk2 : Sp.bl ((bs s).drop (i + b + 1)) = k2 at hp2
  have Hb := Lib.hid hb
  have Hk2 := Lib.hid hk2
  by_cases hg : i + b + 1 + k2 < s.size ∧ ((bs s).getD (i + b + 1 + k2) 0 = 43 ∨ (bs s).getD (i + b + 1 + k2) 0 = 45)
  · obtain ⟨hlt, hg⟩ := hg
    have hp3 := bl_bound s (i + b + 1 + k2 + 1) (by omega)
    generalize hk3 : Sp.bl ((bs s).drop (i + b + 1 + k2 + 1)) = k3 at hp3
    have hle := Sp.spread_le Sp.digit ((bs s).drop (i + b + 1 + k2 + 1 + k3))
    rw [List.length_drop, bs_length] at hle
    generalize hx : Sp.spread Sp.digit ((bs s).drop (i + b + 1 + k2 + 1 + k3)) = x at hle
    have hfin := exponent_sign rg.toNat s i b k2 k3 x hb hh hk2 hg hk3 hx
    have hsl := extract_eq s (i + b + 1 + k2) (i + b + 1 + k2 + 1)
    rw [show i + b + 1 + k2 + 1 - (i + b + 1 + k2) = 1 by omega, bs_drop s _ hlt] at hsl
    rw [bs_get s _ hlt] at hg hfin
    have Hk3 := Lib.hid hk3
    have Hx := Lib.hid hx
    have Hfin := Lib.hid hfin
    have Hsl := Lib.hid hsl
    clear hb hk2 hk3 hx hfin hh hsl
    have hgd : (((s[i + b + 1 + k2].toNat : Int) == 43) = true) ∨ (((s[i + b + 1 + k2].toNat : Int) == 43) = false ∧ ((s[i + b + 1 + k2].toNat : Int) == 45) = true) := by
      rcases hg with hg | hg
      · exact .inl (by rw [hg]; rfl)
      · exact .inr ⟨by rw [hg]; rfl, by rw [hg]; rfl⟩
    clear hg
    rcases hgd with e2 | ⟨e2, e3⟩
    · skip
      go_enter Tryz.func213, Tryz.ntmps213
      go_wp2_with fail
      refine (blanks_i i g s at_ rg _ rfl hi hs _ R).mono ?_
      rw [Hb.out]; rintro e w' ⟨rfl, rfl⟩
      go_wp2_with (first | (go_at_call 135; refine (letter_c g s at_ rg h0 _ _ R).mono ?_; rintro e w' ⟨rfl, rfl⟩) | (go_at_call 203; refine (low_c _ _).mono ?_; rintro e w' ⟨rfl, rfl⟩))
      refine (blanks_i (i + b + 1) g s at_ rg _ (by omega) (by omega) hs _ R).mono ?_
      rw [Hk2.out]; rintro e w' ⟨rfl, rfl⟩
      go_wp2_with fail
      refine (blanks_i (i + b + 1 + k2 + 1) g s at_ rg _ (by omega) (by omega) hs _ R).mono ?_
      rw [Hk3.out]; rintro e w' ⟨rfl, rfl⟩
      go_wp2_with (go_at_call 208; refine (spread_i (i + b + 1 + k2 + 1 + k3) g s at_ rg _ (by omega) (by omega) hs _ _ _ _ R (digit_tells _)).mono ?_; rw [Hx.out]; rintro e w' ⟨rfl, hb1⟩)
      · have h : x.1.isEmpty = true := by assumption
        go_ret2
        rw [Hfin.out, if_pos (by simpa using h)]
        exact ⟨rfl, hb1⟩
      · have h : x.1.isEmpty = false := by assumption
        go_ret2
        rw [Hfin.out, if_neg (by intro h'; rw [h'] at h; cases h)]
        refine ⟨?_, hb1⟩
        have e5 : (⟨#[101]⟩ : ByteArray) ++ s.extract (i + b + 1 + k2) (i + b + 1 + k2 + 1) ++ ⟨x.1.toArray⟩ = ⟨(101 :: s[i + b + 1 + k2] :: x.1).toArray⟩ := by
          rw [Hsl.out]
          exact (congrArg (· ++ (⟨x.1.toArray⟩ : ByteArray)) (bcat [101] [s[i + b + 1 + k2]])).trans (bcat _ _)
        have e6 : ((i + (b + 1 + k2 + 1 + k3 + x.2) : Nat) : Int) = (i : Int) + b + 1 + k2 + 1 + k3 + x.2 := by omega
        unfold expE
        rw [e6, ← e5]; rfl
    · skip
      go_enter Tryz.func213, Tryz.ntmps213
      go_wp2_with fail
      refine (blanks_i i g s at_ rg _ rfl hi hs _ R).mono ?_
      rw [Hb.out]; rintro e w' ⟨rfl, rfl⟩
      go_wp2_with (first | (go_at_call 135; refine (letter_c g s at_ rg h0 _ _ R).mono ?_; rintro e w' ⟨rfl, rfl⟩) | (go_at_call 203; refine (low_c _ _).mono ?_; rintro e w' ⟨rfl, rfl⟩))
      refine (blanks_i (i + b + 1) g s at_ rg _ (by omega) (by omega) hs _ R).mono ?_
      rw [Hk2.out]; rintro e w' ⟨rfl, rfl⟩
      go_wp2_with fail
      refine (blanks_i (i + b + 1 + k2 + 1) g s at_ rg _ (by omega) (by omega) hs _ R).mono ?_
      rw [Hk3.out]; rintro e w' ⟨rfl, rfl⟩
      go_wp2_with (go_at_call 208; refine (spread_i (i + b + 1 + k2 + 1 + k3) g s at_ rg _ (by omega) (by omega) hs _ _ _ _ R (digit_tells _)).mono ?_; rw [Hx.out]; rintro e w' ⟨rfl, hb1⟩)
      · have h : x.1.isEmpty = true := by assumption
        go_ret2
        rw [Hfin.out, if_pos (by simpa using h)]
        exact ⟨rfl, hb1⟩
      · have h : x.1.isEmpty = false := by assumption
        go_ret2
        rw [Hfin.out, if_neg (by intro h'; rw [h'] at h; cases h)]
        refine ⟨?_, hb1⟩
        have e5 : (⟨#[101]⟩ : ByteArray) ++ s.extract (i + b + 1 + k2) (i + b + 1 + k2 + 1) ++ ⟨x.1.toArray⟩ = ⟨(101 :: s[i + b + 1 + k2] :: x.1).toArray⟩ := by
          rw [Hsl.out]
          exact (congrArg (· ++ (⟨x.1.toArray⟩ : ByteArray)) (bcat [101] [s[i + b + 1 + k2]])).trans (bcat _ _)
        have e6 : ((i + (b + 1 + k2 + 1 + k3 + x.2) : Nat) : Int) = (i : Int) + b + 1 + k2 + 1 + k3 + x.2 := by omega
        unfold expE
        rw [e6, ← e5]; rfl
  · have hle := Sp.spread_le Sp.digit ((bs s).drop (i + b + 1 + k2))
    rw [List.length_drop, bs_length] at hle
    generalize hx : Sp.spread Sp.digit ((bs s).drop (i + b + 1 + k2)) = x at hle
    have hg' : ¬ ((bs s).getD (i + b + 1 + k2) 0 = 43 ∨ (bs s).getD (i + b + 1 + k2) 0 = 45) := by
      intro h
      by_cases hlt : i + b + 1 + k2 < s.size
      · exact hg ⟨hlt, h⟩
      · rw [bs_getD_none s _ (by omega)] at h; exact absurd h (by decide)
    have hfin := exponent_bare rg.toNat s i b k2 x hb hh hk2 hg' hx
    have Hx := Lib.hid hx
    have Hfin := Lib.hid hfin
    clear hb hk2 hx hfin hh hg
    by_cases hlt : i + b + 1 + k2 < s.size
    · rw [bs_get s _ hlt, not_or] at hg'
      have e2 : ((s[i + b + 1 + k2].toNat : Int) == 43) = false := by rw [beq_eq_false_iff_ne]; intro h; exact hg'.1 ((u8eq _ 43 43 rfl).2 h)
      have e3 : ((s[i + b + 1 + k2].toNat : Int) == 45) = false := by rw [beq_eq_false_iff_ne]; intro h; exact hg'.2 ((u8eq _ 45 45 rfl).2 h)
      clear hg'
      go_enter Tryz.func213, Tryz.ntmps213
      go_wp2_with fail
      refine (blanks_i i g s at_ rg _ rfl hi hs _ R).mono ?_
      rw [Hb.out]; rintro e w' ⟨rfl, rfl⟩
      go_wp2_with (first | (go_at_call 135; refine (letter_c g s at_ rg h0 _ _ R).mono ?_; rintro e w' ⟨rfl, rfl⟩) | (go_at_call 203; refine (low_c _ _).mono ?_; rintro e w' ⟨rfl, rfl⟩))
      refine (blanks_i (i + b + 1) g s at_ rg _ (by omega) (by omega) hs _ R).mono ?_
      rw [Hk2.out]; rintro e w' ⟨rfl, rfl⟩
      go_wp2_with (go_at_call 208; refine (spread_i (i + b + 1 + k2) g s at_ rg _ (by omega) (by omega) hs _ _ _ _ R (digit_tells _)).mono ?_; rw [Hx.out]; rintro e w' ⟨rfl, hb1⟩)
      · have h : x.1.isEmpty = true := by assumption
        go_ret2
        rw [Hfin.out, if_pos (by simpa using h)]
        exact ⟨rfl, hb1⟩
      · have h : x.1.isEmpty = false := by assumption
        go_ret2
        rw [Hfin.out, if_neg (by intro h'; rw [h'] at h; cases h)]
        refine ⟨?_, hb1⟩
        have e5 : (⟨#[101]⟩ : ByteArray) ++ ⟨x.1.toArray⟩ = ⟨(101 :: x.1).toArray⟩ := bcat [101] _
        have e6 : ((i + (b + 1 + k2 + x.2) : Nat) : Int) = (i : Int) + b + 1 + k2 + x.2 := by omega
        unfold expE
        rw [e6, ← e5]; rfl
    · clear hg'
      go_enter Tryz.func213, Tryz.ntmps213
      go_wp2_with fail
      refine (blanks_i i g s at_ rg _ rfl hi hs _ R).mono ?_
      rw [Hb.out]; rintro e w' ⟨rfl, rfl⟩
      go_wp2_with (first | (go_at_call 135; refine (letter_c g s at_ rg h0 _ _ R).mono ?_; rintro e w' ⟨rfl, rfl⟩) | (go_at_call 203; refine (low_c _ _).mono ?_; rintro e w' ⟨rfl, rfl⟩))
      refine (blanks_i (i + b + 1) g s at_ rg _ (by omega) (by omega) hs _ R).mono ?_
      rw [Hk2.out]; rintro e w' ⟨rfl, rfl⟩
      go_wp2_with (go_at_call 208; refine (spread_i (i + b + 1 + k2) g s at_ rg _ (by omega) (by omega) hs _ _ _ _ R (digit_tells _)).mono ?_; rw [Hx.out]; rintro e w' ⟨rfl, hb1⟩)
      · have h : x.1.isEmpty = true := by assumption
        go_ret2
        rw [Hfin.out, if_pos (by simpa using h)]
        exact ⟨rfl, hb1⟩
      · have h : x.1.isEmpty = false := by assumption
        go_ret2
        rw [Hfin.out, if_neg (by intro h'; rw [h'] at h; cases h)]
        refine ⟨?_, hb1⟩
        have e5 : (⟨#[101]⟩ : ByteArray) ++ ⟨x.1.toArray⟩ = ⟨(101 :: x.1).toArray⟩ := bcat [101] _
        have e6 : ((i + (b + 1 + k2 + x.2) : Nat) : Int) = (i : Int) + b + 1 + k2 + x.2 := by omega
        unfold expE
        rw [e6, ← e5]; rfl

theorem exponent_c (g : Nat) (s : ByteArray) (at_ rg : Int) (h0 : 0 ≤ rg) (i : Nat) (hi : i ≤ s.size) (hs : s.size ≤ 140737488355328) (w : World) (H : ScnR w g s at_ rg) :
    Calls Tryz.prog 213 #[.pointer (some ⟨g, 0, none⟩), .int .i64 (i : Int)] w fun e w' => e = expE (Sp.exponent rg.toNat ((bs s).drop i)) i ∧ Below w.heap.size w w' := by
  cases h : (Sp.letter rg.toNat ((bs s).getD (i + Sp.bl ((bs s).drop i)) 0) && Sp.low ((bs s).getD (i + Sp.bl ((bs s).drop i)) 0) == 101) with
  | false => exact exponent_none g s at_ rg h0 i hi hs w H h
  | true =>
    have h1 : i + Sp.bl ((bs s).drop i) < s.size := by
      rcases Nat.lt_or_ge (i + Sp.bl ((bs s).drop i)) s.size with h1 | h1
      · exact h1
      · rw [bs_getD_none s _ h1, Bool.and_eq_true] at h
        exact absurd h.2 (by decide)
    rw [bs_get s _ h1, Bool.and_eq_true] at h
    exact exponent_yes g s at_ rg h0 i _ hi hs w H rfl h1 h.1 (by simpa using h.2)
end Go.Proofs.YtjghijeblddijaaGreatDoor
