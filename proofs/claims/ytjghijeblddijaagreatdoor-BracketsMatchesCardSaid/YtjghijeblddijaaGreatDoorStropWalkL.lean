/- Walks: radix. -/
import Derived.Test.YtjghijeblddijaaGreatDoorStropWalkK
import Derived.Test.YtjghijeblddijaaGreatDoorStropWalkD
namespace Go.Proofs.YtjghijeblddijaaGreatDoor
open Go.RowKit

theorem radix_no (r : Nat) (s : ByteArray) (i b : Nat) (hb : Sp.bl ((bs s).drop i) = b) (h : (Sp.letter r ((bs s).getD (i + b) 0) && Sp.low ((bs s).getD (i + b) 0) == 114) = false) : Sp.radix r ((bs s).drop i) = ([], 0) := by
  unfold Sp.radix
  simp only [hb, List.drop_drop, getD_drop', Nat.add_zero, h]
  rfl
theorem radix_at (r : Nat) (s : ByteArray) (i b k2 : Nat) (x : List UInt8 × Nat) (hb : Sp.bl ((bs s).drop i) = b) (h : (Sp.letter r ((bs s).getD (i + b) 0) && Sp.low ((bs s).getD (i + b) 0) == 114) = true)
    (hk2 : Sp.bl ((bs s).drop (i + b + 1)) = k2) (hx : Sp.spread (Sp.hexish r) ((bs s).drop (i + b + 1 + k2)) = x) :
    Sp.radix r ((bs s).drop i) = if x.1 = [] then ([], 0) else (114 :: x.1, b + 1 + k2 + x.2) := by
  unfold Sp.radix
  simp only [hb, List.drop_drop, getD_drop', Nat.add_zero, h]
  rw [if_pos trivial]
  simp only [show i + (b + 1) = i + b + 1 by omega, hk2, hx]

theorem ScnR.drewN {w : World} {g : Nat} {s : ByteArray} {at_ rg : Int} (h : ScnR w g s at_ rg) (n : Nat) : ScnR (w.drewN n) g s at_ rg := ⟨h.c0, h.c1, h.c2⟩
theorem bdrewN {B : Nat} {w W : World} (h : Below B w W) (n : Nat) : Below B w (W.drewN n) := ⟨h.os, h.tape, h.output, h.size, h.block⟩
theorem low_le (c : UInt8) : decide (Sp.low c ≤ 102) = decide (((Sp.low c).toNat : Int) ≤ 102) := by
  rw [decide_eq_decide, UInt8.le_iff_toNat_le]
  have : (102 : UInt8).toNat = 102 := rfl
  omega
theorem radix1_tells (g q : Nat) (s : ByteArray) (at_ rg : Int) (hr : 0 ≤ rg) (w : World) (H : ScnR w g s at_ rg) (hq : w.cell? ⟨q, 0, none⟩ = some (.pointer (some ⟨g, 0, none⟩))) :
    Tells w 261 #[.pointer (some ⟨q, 0, none⟩)] (Sp.hexish rg.toNat) := by
  refine ⟨enters_of Tryz.func261 (by kernel_rfl) rfl, fun W c hW => ?_⟩
  have H1 := H.later hW
  have hq1 := cell_later hW hq
  have hl := Lib.hid (low_le c)
  go_enter Tryz.func261, Tryz.ntmps261
  go_wp2_with (first | (go_at_call 135; refine (letter_c g s at_ rg hr _ _ H1).mono ?_; rintro e w' ⟨rfl, rfl⟩) | (go_at_call 137; refine (digit_c _ _).mono ?_; rintro e w' ⟨rfl, rfl⟩) | (go_at_call 203; refine (low_c _ _).mono ?_; rintro e w' ⟨rfl, rfl⟩))
  all_goals (go_ret; exact ⟨ret_bool (by simp [Sp.hexish, hl.out, *]), rfl⟩)

set_option maxRecDepth 100000 in
set_option maxHeartbeats 2000000 in
theorem radix_none (g : Nat) (s : ByteArray) (at_ rg : Int) (h0 : 0 ≤ rg) (i : Nat) (hi : i ≤ s.size) (hs : s.size ≤ 140737488355328) (w : World) (H : ScnR w g s at_ rg) (h : (Sp.letter rg.toNat ((bs s).getD (i + Sp.bl ((bs s).drop i)) 0) && Sp.low ((bs s).getD (i + Sp.bl ((bs s).drop i)) 0) == 114) = false) :
    Calls Tryz.prog 210 #[.pointer (some ⟨g, 0, none⟩), .int .i64 (i : Int)] w fun e w' => e = expE (Sp.radix rg.toNat ((bs s).drop i)) i ∧ Below w.heap.size w w' := by
  have hg := H.lt
  have hfin := radix_no rg.toNat s i _ rfl h
  have hbl := bl_bound s i hi
  generalize hb : Sp.bl ((bs s).drop i) = b at hbl h
  have Hb := Lib.hid hb
  have Hfin := Lib.hid hfin
  clear hb hfin
  have hB1 : Below w.heap.size w (w.alloc (.cells #[.pointer (some ⟨g, 0, none⟩)] 115)) := (below_alloc0 (Below.refl _ w) (.cells #[.pointer (some ⟨g, 0, none⟩)] 115))
  have R := H.later hB1
  have hq : (w.alloc (.cells #[.pointer (some ⟨g, 0, none⟩)] 115)).cell? ⟨w.heap.size, 0, none⟩ = some (.pointer (some ⟨g, 0, none⟩)) := by
    have := heap_alloc_new w (.cells #[.pointer (some ⟨g, 0, none⟩)] 115)
    exact (cell_of_blk this 0).trans rfl
  obtain ⟨c0, c1, c2⟩ := H
  by_cases h1 : i + b < s.size
  · rw [bs_get s (i + b) h1] at h
    by_cases hl : Sp.letter rg.toNat s[i + b] = true
    · have hl2 : (((Sp.low s[i + b]).toNat : Int) != 114) = true := by
        rw [hl, Bool.true_and] at h
        rw [bne_iff_ne]; intro h'
        exact beq_eq_false_iff_ne.1 h ((u8eq _ 114 114 rfl).2 h')
      clear h
      have x1 : (i : Int) + b < s.size := by omega
      have x0 : (0 : Int) ≤ (i : Int) + b := by omega
      have x3 : ((i : Int) + b).toNat = i + b := by omega
      have x2 : decide ((s.size : Int) ≤ (i : Int) + b) = false := by simp; omega
      go_enter Tryz.func210, Tryz.ntmps210
      go_wp2_with (first | (go_at_call 80; refine (blanks_i i g s at_ rg _ rfl hi hs _ R).mono ?_; rw [Hb.out]; rintro e w' ⟨rfl, rfl⟩))
      go_quiet (first | (go_at_call 135; exact Calls.quiet_of_same ((letter_c g s at_ rg h0 _ _ (R.drewN _)).mono fun _ _ h => ⟨h.1, h.2.symm⟩)) | (go_at_call 203; exact Calls.quiet_of_same ((low_c _ _).mono fun _ _ h => ⟨h.1, h.2.symm⟩)))
      go_wp2
      go_ret2
      rw [Hfin.out]
      exact ⟨rfl, bdrewN hB1 _⟩
    · have hl' : Sp.letter rg.toNat s[i + b] = false := by simpa using hl
      clear h hl
      have x1 : (i : Int) + b < s.size := by omega
      have x0 : (0 : Int) ≤ (i : Int) + b := by omega
      have x3 : ((i : Int) + b).toNat = i + b := by omega
      have x2 : decide ((s.size : Int) ≤ (i : Int) + b) = false := by simp; omega
      go_enter Tryz.func210, Tryz.ntmps210
      go_wp2_with (first | (go_at_call 80; refine (blanks_i i g s at_ rg _ rfl hi hs _ R).mono ?_; rw [Hb.out]; rintro e w' ⟨rfl, rfl⟩))
      go_quiet (first | (go_at_call 135; exact Calls.quiet_of_same ((letter_c g s at_ rg h0 _ _ (R.drewN _)).mono fun _ _ h => ⟨h.1, h.2.symm⟩)) | (go_at_call 203; exact Calls.quiet_of_same ((low_c _ _).mono fun _ _ h => ⟨h.1, h.2.symm⟩)))
      go_wp2
      go_ret2
      rw [Hfin.out]
      exact ⟨rfl, bdrewN hB1 _⟩
  · clear h
    have x2 : decide ((s.size : Int) ≤ (i : Int) + b) = true := by simp; omega
    go_enter Tryz.func210, Tryz.ntmps210
    go_wp2_with (first | (go_at_call 80; refine (blanks_i i g s at_ rg _ rfl hi hs _ R).mono ?_; rw [Hb.out]; rintro e w' ⟨rfl, rfl⟩))
    go_quiet (first | (go_at_call 135; exact Calls.quiet_of_same ((letter_c g s at_ rg h0 _ _ (R.drewN _)).mono fun _ _ h => ⟨h.1, h.2.symm⟩)) | (go_at_call 203; exact Calls.quiet_of_same ((low_c _ _).mono fun _ _ h => ⟨h.1, h.2.symm⟩)))
    go_wp2
    go_ret2
    rw [Hfin.out]
    exact ⟨rfl, bdrewN hB1 _⟩

set_option maxRecDepth 100000 in
set_option maxHeartbeats 4000000 in
theorem radix_yes (g : Nat) (s : ByteArray) (at_ rg : Int) (h0 : 0 ≤ rg) (i b : Nat) (hi : i ≤ s.size) (hs : s.size ≤ 140737488355328) (w : World) (H : ScnR w g s at_ rg) (hb : Sp.bl ((bs s).drop i) = b) (h1 : i + b < s.size)
    (hl : Sp.letter rg.toNat s[i + b] = true) (hl2 : Sp.low s[i + b] = 114) :
    Calls Tryz.prog 210 #[.pointer (some ⟨g, 0, none⟩), .int .i64 (i : Int)] w fun e w' => e = expE (Sp.radix rg.toNat ((bs s).drop i)) i ∧ Below w.heap.size w w' := by
  have hg := H.lt
  have hh : (Sp.letter rg.toNat ((bs s).getD (i + b) 0) && Sp.low ((bs s).getD (i + b) 0) == 114) = true := by rw [bs_get s (i + b) h1, hl, hl2]; rfl
  have hp2 := bl_bound s (i + b + 1) (by omega)
  generalize hk2 : Sp.bl ((bs s).drop (i + b + 1)) = k2 at hp2
  have hle := Sp.spread_le (Sp.hexish rg.toNat) ((bs s).drop (i + b + 1 + k2))
  rw [List.length_drop, bs_length] at hle
  generalize hx : Sp.spread (Sp.hexish rg.toNat) ((bs s).drop (i + b + 1 + k2)) = x at hle
  have hfin := radix_at rg.toNat s i b k2 x hb hh hk2 hx
  have e1 : (((Sp.low s[i + b]).toNat : Int) != 114) = false := by rw [hl2]; rfl
  have Hl2 := Lib.hid hl2
  have Hb := Lib.hid hb
  have Hk2 := Lib.hid hk2
  have Hx := Lib.hid hx
  have Hfin := Lib.hid hfin
  clear hb hfin hk2 hx hl2 hh
  have hB1 : Below w.heap.size w (w.alloc (.cells #[.pointer (some ⟨g, 0, none⟩)] 115)) := (below_alloc0 (Below.refl _ w) (.cells #[.pointer (some ⟨g, 0, none⟩)] 115))
  have R := H.later hB1
  have hq : (w.alloc (.cells #[.pointer (some ⟨g, 0, none⟩)] 115)).cell? ⟨w.heap.size, 0, none⟩ = some (.pointer (some ⟨g, 0, none⟩)) := by
    have := heap_alloc_new w (.cells #[.pointer (some ⟨g, 0, none⟩)] 115)
    exact (cell_of_blk this 0).trans rfl
  obtain ⟨c0, c1, c2⟩ := H
  have x1 : (i : Int) + b < s.size := by omega
  have x0 : (0 : Int) ≤ (i : Int) + b := by omega
  have x3 : ((i : Int) + b).toNat = i + b := by omega
  have x2 : decide ((s.size : Int) ≤ (i : Int) + b) = false := by simp; omega
  have hmf := run_makeFunc
  have x4 : IntKind.i64.wrap ((i : Int) + b + 1) = (i : Int) + b + 1 := IntWalk.i64_in _ (by omega)
  go_enter Tryz.func210, Tryz.ntmps210
  go_wp2_with (first | (go_at_call 80; refine (blanks_i i g s at_ rg _ rfl hi hs _ R).mono ?_; rw [Hb.out]; rintro e w' ⟨rfl, rfl⟩))
  go_quiet (first | (go_at_call 135; exact Calls.quiet_of_same ((letter_c g s at_ rg h0 _ _ (R.drewN _)).mono fun _ _ h => ⟨h.1, h.2.symm⟩)) | (go_at_call 203; exact Calls.quiet_of_same ((low_c _ _).mono fun _ _ h => ⟨h.1, h.2.symm⟩)))
  generalize hW : (w.alloc (.cells #[.pointer (some ⟨g, 0, none⟩)] 115)).drewN nq = W
  have hBW : Below w.heap.size w W := by rw [← hW]; exact bdrewN hB1 _
  have RW : ScnR W g s at_ rg := by rw [← hW]; exact R.drewN _
  have hqW : W.cell? ⟨w.heap.size, 0, none⟩ = some (.pointer (some ⟨g, 0, none⟩)) := by rw [← hW]; exact hq
  have HT := radix1_tells g w.heap.size s at_ rg h0 W.drew ⟨RW.c0, RW.c1, RW.c2⟩ hqW
  have RD : ScnR W.drew g s at_ rg := ⟨RW.c0, RW.c1, RW.c2⟩
  have hqD : W.drew.cell? ⟨w.heap.size, 0, none⟩ = some (.pointer (some ⟨g, 0, none⟩)) := hqW
  clear hW hq
  go_wp2
  go_region_held3 (fun w' => w'.cell? ⟨w.heap.size, 0, none⟩ = some (.pointer (some ⟨g, 0, none⟩))) (first | exact hqW | exact hqD | exact cell_later (w := W.drew) (by assumption) hqD) (first | (go_at_call 80; refine (blanks_i (i + b + 1) g s at_ rg _ (by omega) (by omega) hs _ RD).mono ?_; rw [Hk2.out]; rintro e w' ⟨rfl, rfl⟩) | (go_at_call 208; refine (spread_i (i + b + 1 + k2) g s at_ rg _ (by omega) (by omega) hs _ _ _ _ RD HT).mono ?_; rw [Hx.out]; rintro e w' ⟨rfl, hb1⟩))
  all_goals
    have hB2 : Below w.heap.size w w' := bjoin hBW.drew hBW.drew.size hb1
    clear hmf HT RD RW R hqW hqD hb1
    go_wp2
    · have h : x.1.isEmpty = true := by assumption
      go_ret2
      rw [Hfin.out, if_pos (by simpa using h)]
      exact ⟨rfl, hB2⟩
    · have h : x.1.isEmpty = false := by assumption
      go_ret2
      rw [Hfin.out, if_neg (by intro h'; rw [h'] at h; cases h)]
      refine ⟨?_, hB2⟩
      have e5 : (⟨#[114]⟩ : ByteArray) ++ ⟨x.1.toArray⟩ = ⟨(114 :: x.1).toArray⟩ := bcat [114] _
      have e6 : ((i + (b + 1 + k2 + x.2) : Nat) : Int) = (i : Int) + b + 1 + k2 + x.2 := by omega
      unfold expE
      rw [e6, ← e5]; rfl
theorem radix_c (g : Nat) (s : ByteArray) (at_ rg : Int) (h0 : 0 ≤ rg) (i : Nat) (hi : i ≤ s.size) (hs : s.size ≤ 140737488355328) (w : World) (H : ScnR w g s at_ rg) :
    Calls Tryz.prog 210 #[.pointer (some ⟨g, 0, none⟩), .int .i64 (i : Int)] w fun e w' => e = expE (Sp.radix rg.toNat ((bs s).drop i)) i ∧ Below w.heap.size w w' := by
  cases h : (Sp.letter rg.toNat ((bs s).getD (i + Sp.bl ((bs s).drop i)) 0) && Sp.low ((bs s).getD (i + Sp.bl ((bs s).drop i)) 0) == 114) with
  | false => exact radix_none g s at_ rg h0 i hi hs w H h
  | true =>
    have h1 : i + Sp.bl ((bs s).drop i) < s.size := by
      rcases Nat.lt_or_ge (i + Sp.bl ((bs s).drop i)) s.size with h1 | h1
      · exact h1
      · rw [bs_getD_none s _ h1, Bool.and_eq_true] at h
        exact absurd h.2 (by decide)
    rw [bs_get s _ h1, Bool.and_eq_true] at h
    exact radix_yes g s at_ rg h0 i _ hi hs w H rfl h1 h.1 (by simpa using h.2)
end Go.Proofs.YtjghijeblddijaaGreatDoor
