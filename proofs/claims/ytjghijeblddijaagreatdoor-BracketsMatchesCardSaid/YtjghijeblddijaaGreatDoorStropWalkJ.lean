/- Walks: fraction. -/
import Derived.Test.YtjghijeblddijaaGreatDoorStropWalkB
import Derived.Shelf.Abstract
namespace Go.Proofs.YtjghijeblddijaaGreatDoor
open Go.RowKit

theorem digit_tells (w : World) : Tells w 137 #[] Sp.digit := by
  refine ⟨enters_of Tryz.func137 (by kernel_rfl) rfl, fun W c hW => ?_⟩
  exact digit_c c W
theorem spread_i (n : Nat) (g : Nat) (s : ByteArray) (at_ rg : Int) (i : Int) (hn : i = n) (hi : n ≤ s.size) (hs : s.size ≤ 140737488355328) (f : Nat) (cap : Array Value) (p : UInt8 → Bool) (w : World) (H : ScnR w g s at_ rg) (HT : Tells w f cap p) :
    Calls Tryz.prog 208 #[.pointer (some ⟨g, 0, none⟩), .int .i64 i, .func (.func f) #[] cap] w fun e w' =>
      e = .returned (.tuple #[.string ⟨(Sp.spread p ((bs s).drop n)).1.toArray⟩, .int .i64 ((n + (Sp.spread p ((bs s).drop n)).2 : Nat) : Int)]) ∧ Below w.heap.size w w' := by
  subst hn; exact spread_c g s at_ rg n hi hs f cap p w H HT
theorem getD_drop' (s : ByteArray) (i j : Nat) : ((bs s).drop i).getD j 0 = (bs s).getD (i + j) 0 := by
  simp [List.getD_eq_getElem?_getD, List.getElem?_drop]
theorem bs_getD_none (s : ByteArray) (k : Nat) (h : s.size ≤ k) : (bs s).getD k 0 = 0 := by
  rw [List.getD_eq_getElem?_getD, List.getElem?_eq_none (by simpa using h)]; rfl
theorem bcat (a b : List UInt8) : (⟨a.toArray⟩ : ByteArray) ++ ⟨b.toArray⟩ = ⟨(a ++ b).toArray⟩ := by
  apply ByteArray.ext
  simp
theorem fraction_eq (s : ByteArray) (i b : Nat) (hb : Sp.bl ((bs s).drop i) = b) : Sp.fraction ((bs s).drop i) =
    if ((bs s).getD (i + b) 0 == 46 && Sp.digit ((bs s).getD (i + b + 1) 0)) = true then (46 :: (Sp.spread Sp.digit ((bs s).drop (i + b + 1))).1, b + 1 + (Sp.spread Sp.digit ((bs s).drop (i + b + 1))).2) else ([], 0) := by
  unfold Sp.fraction
  simp only [hb, List.drop_drop, getD_drop']
  rfl
theorem u8eq (c : UInt8) (n : Nat) (d : UInt8) (hd : d.toNat = n) : c = d ↔ (c.toNat : Int) = n := by
  rw [← UInt8.toNat_inj, hd]; omega

set_option maxRecDepth 100000 in
set_option maxHeartbeats 2000000 in
theorem fraction_c (g : Nat) (s : ByteArray) (at_ rg : Int) (i : Nat) (hi : i ≤ s.size) (hs : s.size ≤ 140737488355328) (w : World) (H : ScnR w g s at_ rg) :
    Calls Tryz.prog 212 #[.pointer (some ⟨g, 0, none⟩), .int .i64 (i : Int)] w fun e w' =>
      e = .returned (.tuple #[.string ⟨(Sp.fraction ((bs s).drop i)).1.toArray⟩, .int .i64 ((i + (Sp.fraction ((bs s).drop i)).2 : Nat) : Int)]) ∧ Below w.heap.size w w' := by
  have R := H
  obtain ⟨c0, c1, c2⟩ := H
  have hbl := bl_bound s i hi
  generalize hb : Sp.bl ((bs s).drop i) = b at hbl
  have Hb := Lib.hid hb
  have hfe := fraction_eq s i b hb
  clear hb
  by_cases h1 : i + b + 1 < s.size
  · rw [bs_get s (i + b) (by omega), bs_get s (i + b + 1) h1] at hfe
    by_cases h2 : s[i + b] = 46
    · have e2 : ((s[i + b].toNat : Int) != 46) = false := by rw [h2]; rfl
      by_cases h3 : Sp.digit s[i + b + 1] = true
      · rw [if_pos (by simp [h2, h3])] at hfe
        have hle := (Sp.spread_le Sp.digit ((bs s).drop (i + b + 1))).2
        rw [List.length_drop, bs_length] at hle
        generalize hx : Sp.spread Sp.digit ((bs s).drop (i + b + 1)) = x at hfe hle
        have Hx := Lib.hid hx
        have Hfe := Lib.hid hfe
        clear hfe h2 hx
        go_enter Tryz.func212, Tryz.ntmps212
        go_wp2_with (first | (go_at_call 80; refine (blanks_i i g s at_ rg _ rfl hi hs _ R).mono ?_; rw [Hb.out]; rintro e w' ⟨rfl, rfl⟩) | (go_at_call 137; refine (digit_c _ _).mono ?_; rintro e w' ⟨rfl, rfl⟩) | (go_at_call 208; refine (spread_i (i + b + 1) g s at_ rg _ (by omega) (by omega) hs _ _ _ _ R (digit_tells _)).mono ?_; rw [Hx.out]; rintro e w' ⟨rfl, hb1⟩))
        have e3 : (⟨#[46]⟩ : ByteArray) ++ ⟨x.1.toArray⟩ = ⟨(46 :: x.1).toArray⟩ := bcat [46] x.1
        go_ret2
        rw [Hfe.out]
        refine ⟨?_, hb1⟩
        have e4 : (((i + (b + 1 + x.2) : Nat)) : Int) = (i : Int) + b + 1 + x.2 := by omega
        rw [e4, ← e3]; rfl
      · rw [if_neg (by simp [h3])] at hfe
        have Hfe := Lib.hid hfe
        clear hfe h2
        go_enter Tryz.func212, Tryz.ntmps212
        go_wp2_with (first | (go_at_call 80; refine (blanks_i i g s at_ rg _ rfl hi hs _ R).mono ?_; rw [Hb.out]; rintro e w' ⟨rfl, rfl⟩) | (go_at_call 137; refine (digit_c _ _).mono ?_; rintro e w' ⟨rfl, rfl⟩))
        go_ret2
        rw [Hfe.out]
        exact ⟨rfl, Below.refl _ _⟩
    · have e2 : ((s[i + b].toNat : Int) != 46) = true := by rw [bne_iff_ne]; intro h; exact h2 ((u8eq _ 46 46 rfl).2 h)
      rw [if_neg (by simp [h2])] at hfe
      have Hfe := Lib.hid hfe
      clear hfe h2
      go_enter Tryz.func212, Tryz.ntmps212
      go_wp2_with (first | (go_at_call 80; refine (blanks_i i g s at_ rg _ rfl hi hs _ R).mono ?_; rw [Hb.out]; rintro e w' ⟨rfl, rfl⟩))
      go_ret2
      rw [Hfe.out]
      exact ⟨rfl, Below.refl _ _⟩
  · rw [bs_getD_none s (i + b + 1) (by omega), if_neg (by simp [Sp.digit])] at hfe
    have Hfe := Lib.hid hfe
    clear hfe
    go_enter Tryz.func212, Tryz.ntmps212
    go_wp2_with (first | (go_at_call 80; refine (blanks_i i g s at_ rg _ rfl hi hs _ R).mono ?_; rw [Hb.out]; rintro e w' ⟨rfl, rfl⟩))
    go_ret2
    rw [Hfe.out]
    exact ⟨rfl, Below.refl _ _⟩
end Go.Proofs.YtjghijeblddijaaGreatDoor
