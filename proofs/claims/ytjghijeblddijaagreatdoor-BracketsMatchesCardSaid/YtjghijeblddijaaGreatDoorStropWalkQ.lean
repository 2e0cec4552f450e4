/- Walks: number, without a radix. -/
import Derived.Test.YtjghijeblddijaaGreatDoorStropWalkP
set_option linter.unusedVariables false
namespace Go.Proofs.YtjghijeblddijaaGreatDoor
open Go.RowKit

set_option maxRecDepth 100000 in
set_option maxHeartbeats 4000000 in
theorem numberB_E00 (B g : Nat) (s : ByteArray) (i : Nat) (rg : Int) (hr : 0 ≤ rg) (out : List Sp.Sym) (A : Option Addr) (c : Nat) (w : World) (H : Scn B w g s i rg out A c) (hi : i ≤ s.size) (hs : s.size ≤ 1000000000) (hl : out.length ≤ 1000000)
    (d x f e : List UInt8 × Nat) (hdE : Sp.spread Sp.digit ((bs s).drop i) = d) (hxE : Sp.radix rg.toNat ((bs s).drop (i + d.2)) = x) (hfE : Sp.fraction ((bs s).drop (i + d.2)) = f) (heE : Sp.exponent rg.toNat ((bs s).drop (i + d.2 + f.2)) = e)
    (e1 : d.1.isEmpty = true) (e3 : f.1.isEmpty = true) (e4 : e.1.isEmpty = true) :
    Calls Tryz.prog 138 #[.pointer (some ⟨g, 0, none⟩)] w (StepPost B w g s i rg out (Sp.number rg.toNat ((bs s).drop i))) := by
  have hfin := number_eq rg.toNat (bs s) i
  dsimp only at hfin
  simp only [hdE, hxE, hfE, heE] at hfin
  rw [if_neg (fun h => h.1 (by simpa using e1))] at hfin
  have f0 : f.1 = [] := by simpa using e3
  have f2 : f.2 = 0 := by rw [← hfE] at f0 ⊢; exact Sp.fraction_none _ f0
  have g0 : e.1 = [] := by simpa using e4
  have g2 : e.2 = 0 := by rw [← heE] at g0 ⊢; exact Sp.exponent_none _ _ g0
  rw [if_pos (show f.1 = [] ∧ e.1 = [] from ⟨f0, g0⟩)] at hfin
  have hcat : (⟨d.1.toArray⟩ : ByteArray) = ⟨(d.1 ++ f.1 ++ e.1).toArray⟩ := by simp only [bcat, f0, g0, List.append_nil]
  have hd := Sp.spread_le Sp.digit ((bs s).drop i)
  have hx := Sp.radix_facts rg.toNat ((bs s).drop (i + d.2))
  have hf := Sp.fraction_facts ((bs s).drop (i + d.2))
  have he := Sp.exponent_facts rg.toNat ((bs s).drop (i + d.2 + f.2))
  rw [List.length_drop, bs_length] at hd hx hf he
  rw [hdE] at hd
  rw [hxE] at hx
  rw [hfE] at hf
  rw [heE] at he
  have c1 := H.R.c1
  have HdE := Lib.hid hdE
  have HxE := Lib.hid hxE
  have HfE := Lib.hid hfE
  have HeE := Lib.hid heE
  have Hfin := Lib.hid hfin
  have Hcat := Lib.hid hcat
  have hx1 := hx.1
  have hlen : (d.1 ++ f.1 ++ e.1).length ≤ 140737488355328 := by simp only [List.length_append]; omega
  have Hlen := Lib.hid hlen
  have Hd := Lib.hid hd
  have Hf := Lib.hid hf
  have He := Lib.hid he
  have hd2 := hd.2
  have hf2 := hf.2
  have he2 := he.2
  have k1 : i + d.2 ≤ s.size := by omega
  have k2 : i + d.2 + f.2 ≤ s.size := by omega
  have hbase := H.base
  have hlt := H.lt
  have hBw : B ≤ w.heap.size := by omega
  have HBw := Lib.hid hBw
  clear hdE hxE hfE heE hfin hcat hx hf he hlen hbase hlt hBw f0 g0 hd
  by_cases hc : 100 < Sp.count (d.1 ++ f.1 ++ e.1)
  · rw [Hfin.out, if_pos hc]
    have Hc := Lib.hid hc
    clear hc Hfin
    go_enter Tryz.func138, Tryz.ntmps138
    go_wp2_with (first
      | (go_at_call 208; refine (spread_i i g s i rg _ rfl hi (by omega) _ _ _ _ H.R (digit_tells _)).mono ?_; rw [HdE.out]; rintro e w1 ⟨rfl, hb1⟩; have H1 := H.later hb1; clear c1; have c1 := H1.R.c1)
      | (go_at_call 210; refine (radix_i (i + d.2) g s i rg hr _ (by omega) (by omega) (by omega) _ H1.R).mono ?_; rw [HxE.out]; rintro e w2 ⟨rfl, hb2⟩; have H2 := H1.later hb2; have hB2 := bjoin hb1 hb1.size hb2; clear c1 H1; have c1 := H2.R.c1)
      | (go_at_call 212; refine (fraction_i (i + d.2) g s i rg _ (by omega) (by omega) (by omega) _ H2.R).mono ?_; rw [HfE.out]; rintro e w3 ⟨rfl, hb3⟩; have H3 := H2.later hb3; have hB3 := bjoin hB2 hB2.size hb3; clear c1 H2 hB2; have c1 := H3.R.c1)
      | (go_at_call 213; refine (exponent_i (i + d.2 + f.2) g s i rg hr _ (by omega) (by omega) (by omega) _ H3.R).mono ?_; rw [HeE.out]; rintro e w4 ⟨rfl, hb4⟩; have H4 := H3.later hb4; have hB4 := bjoin hB3 hB3.size hb4; clear c1 H3 hB3; have c1 := H4.R.c1)
      | (go_at_call 207; refine (limited_bad_l (d.1 ++ f.1 ++ e.1) _ _ Hcat.out _ _ Hlen.out _ (by have := Hc.out; omega)).mono ?_; rintro e w5 ⟨rfl, hb5⟩))
    exact ⟨rfl, rfl, (bjoin hB4 hB4.size hb5).mono HBw.out⟩
  · rw [Hfin.out, if_neg hc]
    have Hc := Lib.hid hc
    clear hc Hfin
    go_enter Tryz.func138, Tryz.ntmps138
    go_wp2_with (first
      | (go_at_call 208; refine (spread_i i g s i rg _ rfl hi (by omega) _ _ _ _ H.R (digit_tells _)).mono ?_; rw [HdE.out]; rintro e w1 ⟨rfl, hb1⟩; have H1 := H.later hb1; clear c1; have c1 := H1.R.c1)
      | (go_at_call 210; refine (radix_i (i + d.2) g s i rg hr _ (by omega) (by omega) (by omega) _ H1.R).mono ?_; rw [HxE.out]; rintro e w2 ⟨rfl, hb2⟩; have H2 := H1.later hb2; have hB2 := bjoin hb1 hb1.size hb2; clear c1 H1; have c1 := H2.R.c1)
      | (go_at_call 212; refine (fraction_i (i + d.2) g s i rg _ (by omega) (by omega) (by omega) _ H2.R).mono ?_; rw [HfE.out]; rintro e w3 ⟨rfl, hb3⟩; have H3 := H2.later hb3; have hB3 := bjoin hB2 hB2.size hb3; clear c1 H2 hB2; have c1 := H3.R.c1)
      | (go_at_call 213; refine (exponent_i (i + d.2 + f.2) g s i rg hr _ (by omega) (by omega) (by omega) _ H3.R).mono ?_; rw [HeE.out]; rintro e w4 ⟨rfl, hb4⟩; have H4 := H3.later hb4; have hB4 := bjoin hB3 hB3.size hb4; clear c1 H3 hB3; have c1 := H4.R.c1)
      | (go_at_call 207; refine (limited_ok_l (d.1 ++ f.1 ++ e.1) _ _ Hcat.out _ _ Hlen.out _ (by have := Hc.out; omega)).mono ?_; rintro e w5 ⟨rfl, hb5⟩; have H5 := H4.later hb5; have hB5 := bjoin hB4 hB4.size hb5; clear c1 H4 hB4; have c1 := H5.R.c1)
      | (go_at_call 143; refine (add_l (d.1 ++ f.1 ++ e.1) (i + (d.2 + f.2 + e.2)) B g s i rg out A c _ _ Hcat.out _ (by omega) _ H5 hl).mono ?_; rintro e w6 ⟨rfl, hs6, hb6⟩))
    go_end0
    exact ⟨rfl, hs6, (hB5.mono HBw.out).trans hb6⟩

set_option maxRecDepth 100000 in
set_option maxHeartbeats 4000000 in
theorem numberB_E01 (B g : Nat) (s : ByteArray) (i : Nat) (rg : Int) (hr : 0 ≤ rg) (out : List Sp.Sym) (A : Option Addr) (c : Nat) (w : World) (H : Scn B w g s i rg out A c) (hi : i ≤ s.size) (hs : s.size ≤ 1000000000) (hl : out.length ≤ 1000000)
    (d x f e : List UInt8 × Nat) (hdE : Sp.spread Sp.digit ((bs s).drop i) = d) (hxE : Sp.radix rg.toNat ((bs s).drop (i + d.2)) = x) (hfE : Sp.fraction ((bs s).drop (i + d.2)) = f) (heE : Sp.exponent rg.toNat ((bs s).drop (i + d.2 + f.2)) = e)
    (e1 : d.1.isEmpty = true) (e3 : f.1.isEmpty = true) (e4 : e.1.isEmpty = false) :
    Calls Tryz.prog 138 #[.pointer (some ⟨g, 0, none⟩)] w (StepPost B w g s i rg out (Sp.number rg.toNat ((bs s).drop i))) := by
  have hfin := number_eq rg.toNat (bs s) i
  dsimp only at hfin
  simp only [hdE, hxE, hfE, heE] at hfin
  rw [if_neg (fun h => h.1 (by simpa using e1))] at hfin
  have f0 : f.1 = [] := by simpa using e3
  have f2 : f.2 = 0 := by rw [← hfE] at f0 ⊢; exact Sp.fraction_none _ f0
  have g0 : e.1 ≠ [] := by simpa using e4
  rw [if_neg (fun h : f.1 = [] ∧ e.1 = [] => g0 h.2)] at hfin
  have hcat : (⟨d.1.toArray⟩ : ByteArray) ++ ⟨e.1.toArray⟩ = ⟨(d.1 ++ f.1 ++ e.1).toArray⟩ := by simp only [bcat, f0, List.append_nil]
  have hd := Sp.spread_le Sp.digit ((bs s).drop i)
  have hx := Sp.radix_facts rg.toNat ((bs s).drop (i + d.2))
  have hf := Sp.fraction_facts ((bs s).drop (i + d.2))
  have he := Sp.exponent_facts rg.toNat ((bs s).drop (i + d.2 + f.2))
  rw [List.length_drop, bs_length] at hd hx hf he
  rw [hdE] at hd
  rw [hxE] at hx
  rw [hfE] at hf
  rw [heE] at he
  have c1 := H.R.c1
  have HdE := Lib.hid hdE
  have HxE := Lib.hid hxE
  have HfE := Lib.hid hfE
  have HeE := Lib.hid heE
  have Hfin := Lib.hid hfin
  have Hcat := Lib.hid hcat
  have hx1 := hx.1
  have hlen : (d.1 ++ f.1 ++ e.1).length ≤ 140737488355328 := by simp only [List.length_append]; omega
  have Hlen := Lib.hid hlen
  have Hd := Lib.hid hd
  have Hf := Lib.hid hf
  have He := Lib.hid he
  have hd2 := hd.2
  have hf2 := hf.2
  have he2 := he.2
  have k1 : i + d.2 ≤ s.size := by omega
  have k2 : i + d.2 + f.2 ≤ s.size := by omega
  have hbase := H.base
  have hlt := H.lt
  have hBw : B ≤ w.heap.size := by omega
  have HBw := Lib.hid hBw
  clear hdE hxE hfE heE hfin hcat hx hf he hlen hbase hlt hBw f0 g0 hd
  by_cases hc : 100 < Sp.count (d.1 ++ f.1 ++ e.1)
  · rw [Hfin.out, if_pos hc]
    have Hc := Lib.hid hc
    clear hc Hfin
    go_enter Tryz.func138, Tryz.ntmps138
    go_wp2_with (first
      | (go_at_call 208; refine (spread_i i g s i rg _ rfl hi (by omega) _ _ _ _ H.R (digit_tells _)).mono ?_; rw [HdE.out]; rintro e w1 ⟨rfl, hb1⟩; have H1 := H.later hb1; clear c1; have c1 := H1.R.c1)
      | (go_at_call 210; refine (radix_i (i + d.2) g s i rg hr _ (by omega) (by omega) (by omega) _ H1.R).mono ?_; rw [HxE.out]; rintro e w2 ⟨rfl, hb2⟩; have H2 := H1.later hb2; have hB2 := bjoin hb1 hb1.size hb2; clear c1 H1; have c1 := H2.R.c1)
      | (go_at_call 212; refine (fraction_i (i + d.2) g s i rg _ (by omega) (by omega) (by omega) _ H2.R).mono ?_; rw [HfE.out]; rintro e w3 ⟨rfl, hb3⟩; have H3 := H2.later hb3; have hB3 := bjoin hB2 hB2.size hb3; clear c1 H2 hB2; have c1 := H3.R.c1)
      | (go_at_call 213; refine (exponent_i (i + d.2 + f.2) g s i rg hr _ (by omega) (by omega) (by omega) _ H3.R).mono ?_; rw [HeE.out]; rintro e w4 ⟨rfl, hb4⟩; have H4 := H3.later hb4; have hB4 := bjoin hB3 hB3.size hb4; clear c1 H3 hB3; have c1 := H4.R.c1)
      | (go_at_call 207; refine (limited_bad_l (d.1 ++ f.1 ++ e.1) _ _ Hcat.out _ _ Hlen.out _ (by have := Hc.out; omega)).mono ?_; rintro e w5 ⟨rfl, hb5⟩))
    exact ⟨rfl, rfl, (bjoin hB4 hB4.size hb5).mono HBw.out⟩
  · rw [Hfin.out, if_neg hc]
    have Hc := Lib.hid hc
    clear hc Hfin
    go_enter Tryz.func138, Tryz.ntmps138
    go_wp2_with (first
      | (go_at_call 208; refine (spread_i i g s i rg _ rfl hi (by omega) _ _ _ _ H.R (digit_tells _)).mono ?_; rw [HdE.out]; rintro e w1 ⟨rfl, hb1⟩; have H1 := H.later hb1; clear c1; have c1 := H1.R.c1)
      | (go_at_call 210; refine (radix_i (i + d.2) g s i rg hr _ (by omega) (by omega) (by omega) _ H1.R).mono ?_; rw [HxE.out]; rintro e w2 ⟨rfl, hb2⟩; have H2 := H1.later hb2; have hB2 := bjoin hb1 hb1.size hb2; clear c1 H1; have c1 := H2.R.c1)
      | (go_at_call 212; refine (fraction_i (i + d.2) g s i rg _ (by omega) (by omega) (by omega) _ H2.R).mono ?_; rw [HfE.out]; rintro e w3 ⟨rfl, hb3⟩; have H3 := H2.later hb3; have hB3 := bjoin hB2 hB2.size hb3; clear c1 H2 hB2; have c1 := H3.R.c1)
      | (go_at_call 213; refine (exponent_i (i + d.2 + f.2) g s i rg hr _ (by omega) (by omega) (by omega) _ H3.R).mono ?_; rw [HeE.out]; rintro e w4 ⟨rfl, hb4⟩; have H4 := H3.later hb4; have hB4 := bjoin hB3 hB3.size hb4; clear c1 H3 hB3; have c1 := H4.R.c1)
      | (go_at_call 207; refine (limited_ok_l (d.1 ++ f.1 ++ e.1) _ _ Hcat.out _ _ Hlen.out _ (by have := Hc.out; omega)).mono ?_; rintro e w5 ⟨rfl, hb5⟩; have H5 := H4.later hb5; have hB5 := bjoin hB4 hB4.size hb5; clear c1 H4 hB4; have c1 := H5.R.c1)
      | (go_at_call 143; refine (add_l (d.1 ++ f.1 ++ e.1) (i + (d.2 + f.2 + e.2)) B g s i rg out A c _ _ Hcat.out _ (by omega) _ H5 hl).mono ?_; rintro e w6 ⟨rfl, hs6, hb6⟩))
    go_end0
    exact ⟨rfl, hs6, (hB5.mono HBw.out).trans hb6⟩

set_option maxRecDepth 100000 in
set_option maxHeartbeats 4000000 in
theorem numberB_E10 (B g : Nat) (s : ByteArray) (i : Nat) (rg : Int) (hr : 0 ≤ rg) (out : List Sp.Sym) (A : Option Addr) (c : Nat) (w : World) (H : Scn B w g s i rg out A c) (hi : i ≤ s.size) (hs : s.size ≤ 1000000000) (hl : out.length ≤ 1000000)
    (d x f e : List UInt8 × Nat) (hdE : Sp.spread Sp.digit ((bs s).drop i) = d) (hxE : Sp.radix rg.toNat ((bs s).drop (i + d.2)) = x) (hfE : Sp.fraction ((bs s).drop (i + d.2)) = f) (heE : Sp.exponent rg.toNat ((bs s).drop (i + d.2 + f.2)) = e)
    (e1 : d.1.isEmpty = true) (e3 : f.1.isEmpty = false) (e4 : e.1.isEmpty = true) :
    Calls Tryz.prog 138 #[.pointer (some ⟨g, 0, none⟩)] w (StepPost B w g s i rg out (Sp.number rg.toNat ((bs s).drop i))) := by
  have hfin := number_eq rg.toNat (bs s) i
  dsimp only at hfin
  simp only [hdE, hxE, hfE, heE] at hfin
  rw [if_neg (fun h => h.1 (by simpa using e1))] at hfin
  have f0 : f.1 ≠ [] := by simpa using e3
  have g0 : e.1 = [] := by simpa using e4
  have g2 : e.2 = 0 := by rw [← heE] at g0 ⊢; exact Sp.exponent_none _ _ g0
  rw [if_neg (fun h : f.1 = [] ∧ e.1 = [] => f0 h.1)] at hfin
  have hcat : (⟨d.1.toArray⟩ : ByteArray) ++ ⟨f.1.toArray⟩ = ⟨(d.1 ++ f.1 ++ e.1).toArray⟩ := by simp only [bcat, g0, List.append_nil]
  have hd := Sp.spread_le Sp.digit ((bs s).drop i)
  have hx := Sp.radix_facts rg.toNat ((bs s).drop (i + d.2))
  have hf := Sp.fraction_facts ((bs s).drop (i + d.2))
  have he := Sp.exponent_facts rg.toNat ((bs s).drop (i + d.2 + f.2))
  rw [List.length_drop, bs_length] at hd hx hf he
  rw [hdE] at hd
  rw [hxE] at hx
  rw [hfE] at hf
  rw [heE] at he
  have c1 := H.R.c1
  have HdE := Lib.hid hdE
  have HxE := Lib.hid hxE
  have HfE := Lib.hid hfE
  have HeE := Lib.hid heE
  have Hfin := Lib.hid hfin
  have Hcat := Lib.hid hcat
  have hx1 := hx.1
  have hlen : (d.1 ++ f.1 ++ e.1).length ≤ 140737488355328 := by simp only [List.length_append]; omega
  have Hlen := Lib.hid hlen
  have Hd := Lib.hid hd
  have Hf := Lib.hid hf
  have He := Lib.hid he
  have hd2 := hd.2
  have hf2 := hf.2
  have he2 := he.2
  have k1 : i + d.2 ≤ s.size := by omega
  have k2 : i + d.2 + f.2 ≤ s.size := by omega
  have hbase := H.base
  have hlt := H.lt
  have hBw : B ≤ w.heap.size := by omega
  have HBw := Lib.hid hBw
  clear hdE hxE hfE heE hfin hcat hx hf he hlen hbase hlt hBw f0 g0 hd
  by_cases hc : 100 < Sp.count (d.1 ++ f.1 ++ e.1)
  · rw [Hfin.out, if_pos hc]
    have Hc := Lib.hid hc
    clear hc Hfin
    go_enter Tryz.func138, Tryz.ntmps138
    go_wp2_with (first
      | (go_at_call 208; refine (spread_i i g s i rg _ rfl hi (by omega) _ _ _ _ H.R (digit_tells _)).mono ?_; rw [HdE.out]; rintro e w1 ⟨rfl, hb1⟩; have H1 := H.later hb1; clear c1; have c1 := H1.R.c1)
      | (go_at_call 210; refine (radix_i (i + d.2) g s i rg hr _ (by omega) (by omega) (by omega) _ H1.R).mono ?_; rw [HxE.out]; rintro e w2 ⟨rfl, hb2⟩; have H2 := H1.later hb2; have hB2 := bjoin hb1 hb1.size hb2; clear c1 H1; have c1 := H2.R.c1)
      | (go_at_call 212; refine (fraction_i (i + d.2) g s i rg _ (by omega) (by omega) (by omega) _ H2.R).mono ?_; rw [HfE.out]; rintro e w3 ⟨rfl, hb3⟩; have H3 := H2.later hb3; have hB3 := bjoin hB2 hB2.size hb3; clear c1 H2 hB2; have c1 := H3.R.c1)
      | (go_at_call 213; refine (exponent_i (i + d.2 + f.2) g s i rg hr _ (by omega) (by omega) (by omega) _ H3.R).mono ?_; rw [HeE.out]; rintro e w4 ⟨rfl, hb4⟩; have H4 := H3.later hb4; have hB4 := bjoin hB3 hB3.size hb4; clear c1 H3 hB3; have c1 := H4.R.c1)
      | (go_at_call 207; refine (limited_bad_l (d.1 ++ f.1 ++ e.1) _ _ Hcat.out _ _ Hlen.out _ (by have := Hc.out; omega)).mono ?_; rintro e w5 ⟨rfl, hb5⟩))
    exact ⟨rfl, rfl, (bjoin hB4 hB4.size hb5).mono HBw.out⟩
  · rw [Hfin.out, if_neg hc]
    have Hc := Lib.hid hc
    clear hc Hfin
    go_enter Tryz.func138, Tryz.ntmps138
    go_wp2_with (first
      | (go_at_call 208; refine (spread_i i g s i rg _ rfl hi (by omega) _ _ _ _ H.R (digit_tells _)).mono ?_; rw [HdE.out]; rintro e w1 ⟨rfl, hb1⟩; have H1 := H.later hb1; clear c1; have c1 := H1.R.c1)
      | (go_at_call 210; refine (radix_i (i + d.2) g s i rg hr _ (by omega) (by omega) (by omega) _ H1.R).mono ?_; rw [HxE.out]; rintro e w2 ⟨rfl, hb2⟩; have H2 := H1.later hb2; have hB2 := bjoin hb1 hb1.size hb2; clear c1 H1; have c1 := H2.R.c1)
      | (go_at_call 212; refine (fraction_i (i + d.2) g s i rg _ (by omega) (by omega) (by omega) _ H2.R).mono ?_; rw [HfE.out]; rintro e w3 ⟨rfl, hb3⟩; have H3 := H2.later hb3; have hB3 := bjoin hB2 hB2.size hb3; clear c1 H2 hB2; have c1 := H3.R.c1)
      | (go_at_call 213; refine (exponent_i (i + d.2 + f.2) g s i rg hr _ (by omega) (by omega) (by omega) _ H3.R).mono ?_; rw [HeE.out]; rintro e w4 ⟨rfl, hb4⟩; have H4 := H3.later hb4; have hB4 := bjoin hB3 hB3.size hb4; clear c1 H3 hB3; have c1 := H4.R.c1)
      | (go_at_call 207; refine (limited_ok_l (d.1 ++ f.1 ++ e.1) _ _ Hcat.out _ _ Hlen.out _ (by have := Hc.out; omega)).mono ?_; rintro e w5 ⟨rfl, hb5⟩; have H5 := H4.later hb5; have hB5 := bjoin hB4 hB4.size hb5; clear c1 H4 hB4; have c1 := H5.R.c1)
      | (go_at_call 143; refine (add_l (d.1 ++ f.1 ++ e.1) (i + (d.2 + f.2 + e.2)) B g s i rg out A c _ _ Hcat.out _ (by omega) _ H5 hl).mono ?_; rintro e w6 ⟨rfl, hs6, hb6⟩))
    go_end0
    exact ⟨rfl, hs6, (hB5.mono HBw.out).trans hb6⟩

set_option maxRecDepth 100000 in
set_option maxHeartbeats 4000000 in
theorem numberB_E11 (B g : Nat) (s : ByteArray) (i : Nat) (rg : Int) (hr : 0 ≤ rg) (out : List Sp.Sym) (A : Option Addr) (c : Nat) (w : World) (H : Scn B w g s i rg out A c) (hi : i ≤ s.size) (hs : s.size ≤ 1000000000) (hl : out.length ≤ 1000000)
    (d x f e : List UInt8 × Nat) (hdE : Sp.spread Sp.digit ((bs s).drop i) = d) (hxE : Sp.radix rg.toNat ((bs s).drop (i + d.2)) = x) (hfE : Sp.fraction ((bs s).drop (i + d.2)) = f) (heE : Sp.exponent rg.toNat ((bs s).drop (i + d.2 + f.2)) = e)
    (e1 : d.1.isEmpty = true) (e3 : f.1.isEmpty = false) (e4 : e.1.isEmpty = false) :
    Calls Tryz.prog 138 #[.pointer (some ⟨g, 0, none⟩)] w (StepPost B w g s i rg out (Sp.number rg.toNat ((bs s).drop i))) := by
  have hfin := number_eq rg.toNat (bs s) i
  dsimp only at hfin
  simp only [hdE, hxE, hfE, heE] at hfin
  rw [if_neg (fun h => h.1 (by simpa using e1))] at hfin
  have f0 : f.1 ≠ [] := by simpa using e3
  have g0 : e.1 ≠ [] := by simpa using e4
  rw [if_neg (fun h : f.1 = [] ∧ e.1 = [] => f0 h.1)] at hfin
  have hcat : (⟨d.1.toArray⟩ : ByteArray) ++ ⟨f.1.toArray⟩ ++ ⟨e.1.toArray⟩ = ⟨(d.1 ++ f.1 ++ e.1).toArray⟩ := by simp only [bcat, List.append_nil]
  have hd := Sp.spread_le Sp.digit ((bs s).drop i)
  have hx := Sp.radix_facts rg.toNat ((bs s).drop (i + d.2))
  have hf := Sp.fraction_facts ((bs s).drop (i + d.2))
  have he := Sp.exponent_facts rg.toNat ((bs s).drop (i + d.2 + f.2))
  rw [List.length_drop, bs_length] at hd hx hf he
  rw [hdE] at hd
  rw [hxE] at hx
  rw [hfE] at hf
  rw [heE] at he
  have c1 := H.R.c1
  have HdE := Lib.hid hdE
  have HxE := Lib.hid hxE
  have HfE := Lib.hid hfE
  have HeE := Lib.hid heE
  have Hfin := Lib.hid hfin
  have Hcat := Lib.hid hcat
  have hx1 := hx.1
  have hlen : (d.1 ++ f.1 ++ e.1).length ≤ 140737488355328 := by simp only [List.length_append]; omega
  have Hlen := Lib.hid hlen
  have Hd := Lib.hid hd
  have Hf := Lib.hid hf
  have He := Lib.hid he
  have hd2 := hd.2
  have hf2 := hf.2
  have he2 := he.2
  have k1 : i + d.2 ≤ s.size := by omega
  have k2 : i + d.2 + f.2 ≤ s.size := by omega
  have hbase := H.base
  have hlt := H.lt
  have hBw : B ≤ w.heap.size := by omega
  have HBw := Lib.hid hBw
  clear hdE hxE hfE heE hfin hcat hx hf he hlen hbase hlt hBw f0 g0 hd
  by_cases hc : 100 < Sp.count (d.1 ++ f.1 ++ e.1)
  · rw [Hfin.out, if_pos hc]
    have Hc := Lib.hid hc
    clear hc Hfin
    go_enter Tryz.func138, Tryz.ntmps138
    go_wp2_with (first
      | (go_at_call 208; refine (spread_i i g s i rg _ rfl hi (by omega) _ _ _ _ H.R (digit_tells _)).mono ?_; rw [HdE.out]; rintro e w1 ⟨rfl, hb1⟩; have H1 := H.later hb1; clear c1; have c1 := H1.R.c1)
      | (go_at_call 210; refine (radix_i (i + d.2) g s i rg hr _ (by omega) (by omega) (by omega) _ H1.R).mono ?_; rw [HxE.out]; rintro e w2 ⟨rfl, hb2⟩; have H2 := H1.later hb2; have hB2 := bjoin hb1 hb1.size hb2; clear c1 H1; have c1 := H2.R.c1)
      | (go_at_call 212; refine (fraction_i (i + d.2) g s i rg _ (by omega) (by omega) (by omega) _ H2.R).mono ?_; rw [HfE.out]; rintro e w3 ⟨rfl, hb3⟩; have H3 := H2.later hb3; have hB3 := bjoin hB2 hB2.size hb3; clear c1 H2 hB2; have c1 := H3.R.c1)
      | (go_at_call 213; refine (exponent_i (i + d.2 + f.2) g s i rg hr _ (by omega) (by omega) (by omega) _ H3.R).mono ?_; rw [HeE.out]; rintro e w4 ⟨rfl, hb4⟩; have H4 := H3.later hb4; have hB4 := bjoin hB3 hB3.size hb4; clear c1 H3 hB3; have c1 := H4.R.c1)
      | (go_at_call 207; refine (limited_bad_l (d.1 ++ f.1 ++ e.1) _ _ Hcat.out _ _ Hlen.out _ (by have := Hc.out; omega)).mono ?_; rintro e w5 ⟨rfl, hb5⟩))
    exact ⟨rfl, rfl, (bjoin hB4 hB4.size hb5).mono HBw.out⟩
  · rw [Hfin.out, if_neg hc]
    have Hc := Lib.hid hc
    clear hc Hfin
    go_enter Tryz.func138, Tryz.ntmps138
    go_wp2_with (first
      | (go_at_call 208; refine (spread_i i g s i rg _ rfl hi (by omega) _ _ _ _ H.R (digit_tells _)).mono ?_; rw [HdE.out]; rintro e w1 ⟨rfl, hb1⟩; have H1 := H.later hb1; clear c1; have c1 := H1.R.c1)
      | (go_at_call 210; refine (radix_i (i + d.2) g s i rg hr _ (by omega) (by omega) (by omega) _ H1.R).mono ?_; rw [HxE.out]; rintro e w2 ⟨rfl, hb2⟩; have H2 := H1.later hb2; have hB2 := bjoin hb1 hb1.size hb2; clear c1 H1; have c1 := H2.R.c1)
      | (go_at_call 212; refine (fraction_i (i + d.2) g s i rg _ (by omega) (by omega) (by omega) _ H2.R).mono ?_; rw [HfE.out]; rintro e w3 ⟨rfl, hb3⟩; have H3 := H2.later hb3; have hB3 := bjoin hB2 hB2.size hb3; clear c1 H2 hB2; have c1 := H3.R.c1)
      | (go_at_call 213; refine (exponent_i (i + d.2 + f.2) g s i rg hr _ (by omega) (by omega) (by omega) _ H3.R).mono ?_; rw [HeE.out]; rintro e w4 ⟨rfl, hb4⟩; have H4 := H3.later hb4; have hB4 := bjoin hB3 hB3.size hb4; clear c1 H3 hB3; have c1 := H4.R.c1)
      | (go_at_call 207; refine (limited_ok_l (d.1 ++ f.1 ++ e.1) _ _ Hcat.out _ _ Hlen.out _ (by have := Hc.out; omega)).mono ?_; rintro e w5 ⟨rfl, hb5⟩; have H5 := H4.later hb5; have hB5 := bjoin hB4 hB4.size hb5; clear c1 H4 hB4; have c1 := H5.R.c1)
      | (go_at_call 143; refine (add_l (d.1 ++ f.1 ++ e.1) (i + (d.2 + f.2 + e.2)) B g s i rg out A c _ _ Hcat.out _ (by omega) _ H5 hl).mono ?_; rintro e w6 ⟨rfl, hs6, hb6⟩))
    go_end0
    exact ⟨rfl, hs6, (hB5.mono HBw.out).trans hb6⟩

set_option maxRecDepth 100000 in
set_option maxHeartbeats 4000000 in
theorem numberB_N00 (B g : Nat) (s : ByteArray) (i : Nat) (rg : Int) (hr : 0 ≤ rg) (out : List Sp.Sym) (A : Option Addr) (c : Nat) (w : World) (H : Scn B w g s i rg out A c) (hi : i ≤ s.size) (hs : s.size ≤ 1000000000) (hl : out.length ≤ 1000000)
    (d x f e : List UInt8 × Nat) (hdE : Sp.spread Sp.digit ((bs s).drop i) = d) (hxE : Sp.radix rg.toNat ((bs s).drop (i + d.2)) = x) (hfE : Sp.fraction ((bs s).drop (i + d.2)) = f) (heE : Sp.exponent rg.toNat ((bs s).drop (i + d.2 + f.2)) = e)
    (e1 : d.1.isEmpty = false) (e2 : x.1.isEmpty = true) (e3 : f.1.isEmpty = true) (e4 : e.1.isEmpty = true) :
    Calls Tryz.prog 138 #[.pointer (some ⟨g, 0, none⟩)] w (StepPost B w g s i rg out (Sp.number rg.toNat ((bs s).drop i))) := by
  have hfin := number_eq rg.toNat (bs s) i
  dsimp only at hfin
  simp only [hdE, hxE, hfE, heE] at hfin
  rw [if_neg (fun h => h.2 (by simpa using e2))] at hfin
  have f0 : f.1 = [] := by simpa using e3
  have f2 : f.2 = 0 := by rw [← hfE] at f0 ⊢; exact Sp.fraction_none _ f0
  have g0 : e.1 = [] := by simpa using e4
  have g2 : e.2 = 0 := by rw [← heE] at g0 ⊢; exact Sp.exponent_none _ _ g0
  rw [if_pos (show f.1 = [] ∧ e.1 = [] from ⟨f0, g0⟩)] at hfin
  have hcat : (⟨d.1.toArray⟩ : ByteArray) = ⟨(d.1 ++ f.1 ++ e.1).toArray⟩ := by simp only [bcat, f0, g0, List.append_nil]
  have hd := Sp.spread_le Sp.digit ((bs s).drop i)
  have hx := Sp.radix_facts rg.toNat ((bs s).drop (i + d.2))
  have hf := Sp.fraction_facts ((bs s).drop (i + d.2))
  have he := Sp.exponent_facts rg.toNat ((bs s).drop (i + d.2 + f.2))
  rw [List.length_drop, bs_length] at hd hx hf he
  rw [hdE] at hd
  rw [hxE] at hx
  rw [hfE] at hf
  rw [heE] at he
  have c1 := H.R.c1
  have HdE := Lib.hid hdE
  have HxE := Lib.hid hxE
  have HfE := Lib.hid hfE
  have HeE := Lib.hid heE
  have Hfin := Lib.hid hfin
  have Hcat := Lib.hid hcat
  have hx1 := hx.1
  have hlen : (d.1 ++ f.1 ++ e.1).length ≤ 140737488355328 := by simp only [List.length_append]; omega
  have Hlen := Lib.hid hlen
  have Hd := Lib.hid hd
  have Hf := Lib.hid hf
  have He := Lib.hid he
  have hd2 := hd.2
  have hf2 := hf.2
  have he2 := he.2
  have k1 : i + d.2 ≤ s.size := by omega
  have k2 : i + d.2 + f.2 ≤ s.size := by omega
  have hbase := H.base
  have hlt := H.lt
  have hBw : B ≤ w.heap.size := by omega
  have HBw := Lib.hid hBw
  clear hdE hxE hfE heE hfin hcat hx hf he hlen hbase hlt hBw f0 g0 hd
  by_cases hc : 100 < Sp.count (d.1 ++ f.1 ++ e.1)
  · rw [Hfin.out, if_pos hc]
    have Hc := Lib.hid hc
    clear hc Hfin
    go_enter Tryz.func138, Tryz.ntmps138
    go_wp2_with (first
      | (go_at_call 208; refine (spread_i i g s i rg _ rfl hi (by omega) _ _ _ _ H.R (digit_tells _)).mono ?_; rw [HdE.out]; rintro e w1 ⟨rfl, hb1⟩; have H1 := H.later hb1; clear c1; have c1 := H1.R.c1)
      | (go_at_call 210; refine (radix_i (i + d.2) g s i rg hr _ (by omega) (by omega) (by omega) _ H1.R).mono ?_; rw [HxE.out]; rintro e w2 ⟨rfl, hb2⟩; have H2 := H1.later hb2; have hB2 := bjoin hb1 hb1.size hb2; clear c1 H1; have c1 := H2.R.c1)
      | (go_at_call 212; refine (fraction_i (i + d.2) g s i rg _ (by omega) (by omega) (by omega) _ H2.R).mono ?_; rw [HfE.out]; rintro e w3 ⟨rfl, hb3⟩; have H3 := H2.later hb3; have hB3 := bjoin hB2 hB2.size hb3; clear c1 H2 hB2; have c1 := H3.R.c1)
      | (go_at_call 213; refine (exponent_i (i + d.2 + f.2) g s i rg hr _ (by omega) (by omega) (by omega) _ H3.R).mono ?_; rw [HeE.out]; rintro e w4 ⟨rfl, hb4⟩; have H4 := H3.later hb4; have hB4 := bjoin hB3 hB3.size hb4; clear c1 H3 hB3; have c1 := H4.R.c1)
      | (go_at_call 207; refine (limited_bad_l (d.1 ++ f.1 ++ e.1) _ _ Hcat.out _ _ Hlen.out _ (by have := Hc.out; omega)).mono ?_; rintro e w5 ⟨rfl, hb5⟩))
    exact ⟨rfl, rfl, (bjoin hB4 hB4.size hb5).mono HBw.out⟩
  · rw [Hfin.out, if_neg hc]
    have Hc := Lib.hid hc
    clear hc Hfin
    go_enter Tryz.func138, Tryz.ntmps138
    go_wp2_with (first
      | (go_at_call 208; refine (spread_i i g s i rg _ rfl hi (by omega) _ _ _ _ H.R (digit_tells _)).mono ?_; rw [HdE.out]; rintro e w1 ⟨rfl, hb1⟩; have H1 := H.later hb1; clear c1; have c1 := H1.R.c1)
      | (go_at_call 210; refine (radix_i (i + d.2) g s i rg hr _ (by omega) (by omega) (by omega) _ H1.R).mono ?_; rw [HxE.out]; rintro e w2 ⟨rfl, hb2⟩; have H2 := H1.later hb2; have hB2 := bjoin hb1 hb1.size hb2; clear c1 H1; have c1 := H2.R.c1)
      | (go_at_call 212; refine (fraction_i (i + d.2) g s i rg _ (by omega) (by omega) (by omega) _ H2.R).mono ?_; rw [HfE.out]; rintro e w3 ⟨rfl, hb3⟩; have H3 := H2.later hb3; have hB3 := bjoin hB2 hB2.size hb3; clear c1 H2 hB2; have c1 := H3.R.c1)
      | (go_at_call 213; refine (exponent_i (i + d.2 + f.2) g s i rg hr _ (by omega) (by omega) (by omega) _ H3.R).mono ?_; rw [HeE.out]; rintro e w4 ⟨rfl, hb4⟩; have H4 := H3.later hb4; have hB4 := bjoin hB3 hB3.size hb4; clear c1 H3 hB3; have c1 := H4.R.c1)
      | (go_at_call 207; refine (limited_ok_l (d.1 ++ f.1 ++ e.1) _ _ Hcat.out _ _ Hlen.out _ (by have := Hc.out; omega)).mono ?_; rintro e w5 ⟨rfl, hb5⟩; have H5 := H4.later hb5; have hB5 := bjoin hB4 hB4.size hb5; clear c1 H4 hB4; have c1 := H5.R.c1)
      | (go_at_call 143; refine (add_l (d.1 ++ f.1 ++ e.1) (i + (d.2 + f.2 + e.2)) B g s i rg out A c _ _ Hcat.out _ (by omega) _ H5 hl).mono ?_; rintro e w6 ⟨rfl, hs6, hb6⟩))
    go_end0
    exact ⟨rfl, hs6, (hB5.mono HBw.out).trans hb6⟩

set_option maxRecDepth 100000 in
set_option maxHeartbeats 4000000 in
theorem numberB_N01 (B g : Nat) (s : ByteArray) (i : Nat) (rg : Int) (hr : 0 ≤ rg) (out : List Sp.Sym) (A : Option Addr) (c : Nat) (w : World) (H : Scn B w g s i rg out A c) (hi : i ≤ s.size) (hs : s.size ≤ 1000000000) (hl : out.length ≤ 1000000)
    (d x f e : List UInt8 × Nat) (hdE : Sp.spread Sp.digit ((bs s).drop i) = d) (hxE : Sp.radix rg.toNat ((bs s).drop (i + d.2)) = x) (hfE : Sp.fraction ((bs s).drop (i + d.2)) = f) (heE : Sp.exponent rg.toNat ((bs s).drop (i + d.2 + f.2)) = e)
    (e1 : d.1.isEmpty = false) (e2 : x.1.isEmpty = true) (e3 : f.1.isEmpty = true) (e4 : e.1.isEmpty = false) :
    Calls Tryz.prog 138 #[.pointer (some ⟨g, 0, none⟩)] w (StepPost B w g s i rg out (Sp.number rg.toNat ((bs s).drop i))) := by
  have hfin := number_eq rg.toNat (bs s) i
  dsimp only at hfin
  simp only [hdE, hxE, hfE, heE] at hfin
  rw [if_neg (fun h => h.2 (by simpa using e2))] at hfin
  have f0 : f.1 = [] := by simpa using e3
  have f2 : f.2 = 0 := by rw [← hfE] at f0 ⊢; exact Sp.fraction_none _ f0
  have g0 : e.1 ≠ [] := by simpa using e4
  rw [if_neg (fun h : f.1 = [] ∧ e.1 = [] => g0 h.2)] at hfin
  have hcat : (⟨d.1.toArray⟩ : ByteArray) ++ ⟨e.1.toArray⟩ = ⟨(d.1 ++ f.1 ++ e.1).toArray⟩ := by simp only [bcat, f0, List.append_nil]
  have hd := Sp.spread_le Sp.digit ((bs s).drop i)
  have hx := Sp.radix_facts rg.toNat ((bs s).drop (i + d.2))
  have hf := Sp.fraction_facts ((bs s).drop (i + d.2))
  have he := Sp.exponent_facts rg.toNat ((bs s).drop (i + d.2 + f.2))
  rw [List.length_drop, bs_length] at hd hx hf he
  rw [hdE] at hd
  rw [hxE] at hx
  rw [hfE] at hf
  rw [heE] at he
  have c1 := H.R.c1
  have HdE := Lib.hid hdE
  have HxE := Lib.hid hxE
  have HfE := Lib.hid hfE
  have HeE := Lib.hid heE
  have Hfin := Lib.hid hfin
  have Hcat := Lib.hid hcat
  have hx1 := hx.1
  have hlen : (d.1 ++ f.1 ++ e.1).length ≤ 140737488355328 := by simp only [List.length_append]; omega
  have Hlen := Lib.hid hlen
  have Hd := Lib.hid hd
  have Hf := Lib.hid hf
  have He := Lib.hid he
  have hd2 := hd.2
  have hf2 := hf.2
  have he2 := he.2
  have k1 : i + d.2 ≤ s.size := by omega
  have k2 : i + d.2 + f.2 ≤ s.size := by omega
  have hbase := H.base
  have hlt := H.lt
  have hBw : B ≤ w.heap.size := by omega
  have HBw := Lib.hid hBw
  clear hdE hxE hfE heE hfin hcat hx hf he hlen hbase hlt hBw f0 g0 hd
  by_cases hc : 100 < Sp.count (d.1 ++ f.1 ++ e.1)
  · rw [Hfin.out, if_pos hc]
    have Hc := Lib.hid hc
    clear hc Hfin
    go_enter Tryz.func138, Tryz.ntmps138
    go_wp2_with (first
      | (go_at_call 208; refine (spread_i i g s i rg _ rfl hi (by omega) _ _ _ _ H.R (digit_tells _)).mono ?_; rw [HdE.out]; rintro e w1 ⟨rfl, hb1⟩; have H1 := H.later hb1; clear c1; have c1 := H1.R.c1)
      | (go_at_call 210; refine (radix_i (i + d.2) g s i rg hr _ (by omega) (by omega) (by omega) _ H1.R).mono ?_; rw [HxE.out]; rintro e w2 ⟨rfl, hb2⟩; have H2 := H1.later hb2; have hB2 := bjoin hb1 hb1.size hb2; clear c1 H1; have c1 := H2.R.c1)
      | (go_at_call 212; refine (fraction_i (i + d.2) g s i rg _ (by omega) (by omega) (by omega) _ H2.R).mono ?_; rw [HfE.out]; rintro e w3 ⟨rfl, hb3⟩; have H3 := H2.later hb3; have hB3 := bjoin hB2 hB2.size hb3; clear c1 H2 hB2; have c1 := H3.R.c1)
      | (go_at_call 213; refine (exponent_i (i + d.2 + f.2) g s i rg hr _ (by omega) (by omega) (by omega) _ H3.R).mono ?_; rw [HeE.out]; rintro e w4 ⟨rfl, hb4⟩; have H4 := H3.later hb4; have hB4 := bjoin hB3 hB3.size hb4; clear c1 H3 hB3; have c1 := H4.R.c1)
      | (go_at_call 207; refine (limited_bad_l (d.1 ++ f.1 ++ e.1) _ _ Hcat.out _ _ Hlen.out _ (by have := Hc.out; omega)).mono ?_; rintro e w5 ⟨rfl, hb5⟩))
    exact ⟨rfl, rfl, (bjoin hB4 hB4.size hb5).mono HBw.out⟩
  · rw [Hfin.out, if_neg hc]
    have Hc := Lib.hid hc
    clear hc Hfin
    go_enter Tryz.func138, Tryz.ntmps138
    go_wp2_with (first
      | (go_at_call 208; refine (spread_i i g s i rg _ rfl hi (by omega) _ _ _ _ H.R (digit_tells _)).mono ?_; rw [HdE.out]; rintro e w1 ⟨rfl, hb1⟩; have H1 := H.later hb1; clear c1; have c1 := H1.R.c1)
      | (go_at_call 210; refine (radix_i (i + d.2) g s i rg hr _ (by omega) (by omega) (by omega) _ H1.R).mono ?_; rw [HxE.out]; rintro e w2 ⟨rfl, hb2⟩; have H2 := H1.later hb2; have hB2 := bjoin hb1 hb1.size hb2; clear c1 H1; have c1 := H2.R.c1)
      | (go_at_call 212; refine (fraction_i (i + d.2) g s i rg _ (by omega) (by omega) (by omega) _ H2.R).mono ?_; rw [HfE.out]; rintro e w3 ⟨rfl, hb3⟩; have H3 := H2.later hb3; have hB3 := bjoin hB2 hB2.size hb3; clear c1 H2 hB2; have c1 := H3.R.c1)
      | (go_at_call 213; refine (exponent_i (i + d.2 + f.2) g s i rg hr _ (by omega) (by omega) (by omega) _ H3.R).mono ?_; rw [HeE.out]; rintro e w4 ⟨rfl, hb4⟩; have H4 := H3.later hb4; have hB4 := bjoin hB3 hB3.size hb4; clear c1 H3 hB3; have c1 := H4.R.c1)
      | (go_at_call 207; refine (limited_ok_l (d.1 ++ f.1 ++ e.1) _ _ Hcat.out _ _ Hlen.out _ (by have := Hc.out; omega)).mono ?_; rintro e w5 ⟨rfl, hb5⟩; have H5 := H4.later hb5; have hB5 := bjoin hB4 hB4.size hb5; clear c1 H4 hB4; have c1 := H5.R.c1)
      | (go_at_call 143; refine (add_l (d.1 ++ f.1 ++ e.1) (i + (d.2 + f.2 + e.2)) B g s i rg out A c _ _ Hcat.out _ (by omega) _ H5 hl).mono ?_; rintro e w6 ⟨rfl, hs6, hb6⟩))
    go_end0
    exact ⟨rfl, hs6, (hB5.mono HBw.out).trans hb6⟩

set_option maxRecDepth 100000 in
set_option maxHeartbeats 4000000 in
theorem numberB_N10 (B g : Nat) (s : ByteArray) (i : Nat) (rg : Int) (hr : 0 ≤ rg) (out : List Sp.Sym) (A : Option Addr) (c : Nat) (w : World) (H : Scn B w g s i rg out A c) (hi : i ≤ s.size) (hs : s.size ≤ 1000000000) (hl : out.length ≤ 1000000)
    (d x f e : List UInt8 × Nat) (hdE : Sp.spread Sp.digit ((bs s).drop i) = d) (hxE : Sp.radix rg.toNat ((bs s).drop (i + d.2)) = x) (hfE : Sp.fraction ((bs s).drop (i + d.2)) = f) (heE : Sp.exponent rg.toNat ((bs s).drop (i + d.2 + f.2)) = e)
    (e1 : d.1.isEmpty = false) (e2 : x.1.isEmpty = true) (e3 : f.1.isEmpty = false) (e4 : e.1.isEmpty = true) :
    Calls Tryz.prog 138 #[.pointer (some ⟨g, 0, none⟩)] w (StepPost B w g s i rg out (Sp.number rg.toNat ((bs s).drop i))) := by
  have hfin := number_eq rg.toNat (bs s) i
  dsimp only at hfin
  simp only [hdE, hxE, hfE, heE] at hfin
  rw [if_neg (fun h => h.2 (by simpa using e2))] at hfin
  have f0 : f.1 ≠ [] := by simpa using e3
  have g0 : e.1 = [] := by simpa using e4
  have g2 : e.2 = 0 := by rw [← heE] at g0 ⊢; exact Sp.exponent_none _ _ g0
  rw [if_neg (fun h : f.1 = [] ∧ e.1 = [] => f0 h.1)] at hfin
  have hcat : (⟨d.1.toArray⟩ : ByteArray) ++ ⟨f.1.toArray⟩ = ⟨(d.1 ++ f.1 ++ e.1).toArray⟩ := by simp only [bcat, g0, List.append_nil]
  have hd := Sp.spread_le Sp.digit ((bs s).drop i)
  have hx := Sp.radix_facts rg.toNat ((bs s).drop (i + d.2))
  have hf := Sp.fraction_facts ((bs s).drop (i + d.2))
  have he := Sp.exponent_facts rg.toNat ((bs s).drop (i + d.2 + f.2))
  rw [List.length_drop, bs_length] at hd hx hf he
  rw [hdE] at hd
  rw [hxE] at hx
  rw [hfE] at hf
  rw [heE] at he
  have c1 := H.R.c1
  have HdE := Lib.hid hdE
  have HxE := Lib.hid hxE
  have HfE := Lib.hid hfE
  have HeE := Lib.hid heE
  have Hfin := Lib.hid hfin
  have Hcat := Lib.hid hcat
  have hx1 := hx.1
  have hlen : (d.1 ++ f.1 ++ e.1).length ≤ 140737488355328 := by simp only [List.length_append]; omega
  have Hlen := Lib.hid hlen
  have Hd := Lib.hid hd
  have Hf := Lib.hid hf
  have He := Lib.hid he
  have hd2 := hd.2
  have hf2 := hf.2
  have he2 := he.2
  have k1 : i + d.2 ≤ s.size := by omega
  have k2 : i + d.2 + f.2 ≤ s.size := by omega
  have hbase := H.base
  have hlt := H.lt
  have hBw : B ≤ w.heap.size := by omega
  have HBw := Lib.hid hBw
  clear hdE hxE hfE heE hfin hcat hx hf he hlen hbase hlt hBw f0 g0 hd
  by_cases hc : 100 < Sp.count (d.1 ++ f.1 ++ e.1)
  · rw [Hfin.out, if_pos hc]
    have Hc := Lib.hid hc
    clear hc Hfin
    go_enter Tryz.func138, Tryz.ntmps138
    go_wp2_with (first
      | (go_at_call 208; refine (spread_i i g s i rg _ rfl hi (by omega) _ _ _ _ H.R (digit_tells _)).mono ?_; rw [HdE.out]; rintro e w1 ⟨rfl, hb1⟩; have H1 := H.later hb1; clear c1; have c1 := H1.R.c1)
      | (go_at_call 210; refine (radix_i (i + d.2) g s i rg hr _ (by omega) (by omega) (by omega) _ H1.R).mono ?_; rw [HxE.out]; rintro e w2 ⟨rfl, hb2⟩; have H2 := H1.later hb2; have hB2 := bjoin hb1 hb1.size hb2; clear c1 H1; have c1 := H2.R.c1)
      | (go_at_call 212; refine (fraction_i (i + d.2) g s i rg _ (by omega) (by omega) (by omega) _ H2.R).mono ?_; rw [HfE.out]; rintro e w3 ⟨rfl, hb3⟩; have H3 := H2.later hb3; have hB3 := bjoin hB2 hB2.size hb3; clear c1 H2 hB2; have c1 := H3.R.c1)
      | (go_at_call 213; refine (exponent_i (i + d.2 + f.2) g s i rg hr _ (by omega) (by omega) (by omega) _ H3.R).mono ?_; rw [HeE.out]; rintro e w4 ⟨rfl, hb4⟩; have H4 := H3.later hb4; have hB4 := bjoin hB3 hB3.size hb4; clear c1 H3 hB3; have c1 := H4.R.c1)
      | (go_at_call 207; refine (limited_bad_l (d.1 ++ f.1 ++ e.1) _ _ Hcat.out _ _ Hlen.out _ (by have := Hc.out; omega)).mono ?_; rintro e w5 ⟨rfl, hb5⟩))
    exact ⟨rfl, rfl, (bjoin hB4 hB4.size hb5).mono HBw.out⟩
  · rw [Hfin.out, if_neg hc]
    have Hc := Lib.hid hc
    clear hc Hfin
    go_enter Tryz.func138, Tryz.ntmps138
    go_wp2_with (first
      | (go_at_call 208; refine (spread_i i g s i rg _ rfl hi (by omega) _ _ _ _ H.R (digit_tells _)).mono ?_; rw [HdE.out]; rintro e w1 ⟨rfl, hb1⟩; have H1 := H.later hb1; clear c1; have c1 := H1.R.c1)
      | (go_at_call 210; refine (radix_i (i + d.2) g s i rg hr _ (by omega) (by omega) (by omega) _ H1.R).mono ?_; rw [HxE.out]; rintro e w2 ⟨rfl, hb2⟩; have H2 := H1.later hb2; have hB2 := bjoin hb1 hb1.size hb2; clear c1 H1; have c1 := H2.R.c1)
      | (go_at_call 212; refine (fraction_i (i + d.2) g s i rg _ (by omega) (by omega) (by omega) _ H2.R).mono ?_; rw [HfE.out]; rintro e w3 ⟨rfl, hb3⟩; have H3 := H2.later hb3; have hB3 := bjoin hB2 hB2.size hb3; clear c1 H2 hB2; have c1 := H3.R.c1)
      | (go_at_call 213; refine (exponent_i (i + d.2 + f.2) g s i rg hr _ (by omega) (by omega) (by omega) _ H3.R).mono ?_; rw [HeE.out]; rintro e w4 ⟨rfl, hb4⟩; have H4 := H3.later hb4; have hB4 := bjoin hB3 hB3.size hb4; clear c1 H3 hB3; have c1 := H4.R.c1)
      | (go_at_call 207; refine (limited_ok_l (d.1 ++ f.1 ++ e.1) _ _ Hcat.out _ _ Hlen.out _ (by have := Hc.out; omega)).mono ?_; rintro e w5 ⟨rfl, hb5⟩; have H5 := H4.later hb5; have hB5 := bjoin hB4 hB4.size hb5; clear c1 H4 hB4; have c1 := H5.R.c1)
      | (go_at_call 143; refine (add_l (d.1 ++ f.1 ++ e.1) (i + (d.2 + f.2 + e.2)) B g s i rg out A c _ _ Hcat.out _ (by omega) _ H5 hl).mono ?_; rintro e w6 ⟨rfl, hs6, hb6⟩))
    go_end0
    exact ⟨rfl, hs6, (hB5.mono HBw.out).trans hb6⟩

set_option maxRecDepth 100000 in
set_option maxHeartbeats 4000000 in
theorem numberB_N11 (B g : Nat) (s : ByteArray) (i : Nat) (rg : Int) (hr : 0 ≤ rg) (out : List Sp.Sym) (A : Option Addr) (c : Nat) (w : World) (H : Scn B w g s i rg out A c) (hi : i ≤ s.size) (hs : s.size ≤ 1000000000) (hl : out.length ≤ 1000000)
    (d x f e : List UInt8 × Nat) (hdE : Sp.spread Sp.digit ((bs s).drop i) = d) (hxE : Sp.radix rg.toNat ((bs s).drop (i + d.2)) = x) (hfE : Sp.fraction ((bs s).drop (i + d.2)) = f) (heE : Sp.exponent rg.toNat ((bs s).drop (i + d.2 + f.2)) = e)
    (e1 : d.1.isEmpty = false) (e2 : x.1.isEmpty = true) (e3 : f.1.isEmpty = false) (e4 : e.1.isEmpty = false) :
    Calls Tryz.prog 138 #[.pointer (some ⟨g, 0, none⟩)] w (StepPost B w g s i rg out (Sp.number rg.toNat ((bs s).drop i))) := by
  have hfin := number_eq rg.toNat (bs s) i
  dsimp only at hfin
  simp only [hdE, hxE, hfE, heE] at hfin
  rw [if_neg (fun h => h.2 (by simpa using e2))] at hfin
  have f0 : f.1 ≠ [] := by simpa using e3
  have g0 : e.1 ≠ [] := by simpa using e4
  rw [if_neg (fun h : f.1 = [] ∧ e.1 = [] => f0 h.1)] at hfin
  have hcat : (⟨d.1.toArray⟩ : ByteArray) ++ ⟨f.1.toArray⟩ ++ ⟨e.1.toArray⟩ = ⟨(d.1 ++ f.1 ++ e.1).toArray⟩ := by simp only [bcat, List.append_nil]
  have hd := Sp.spread_le Sp.digit ((bs s).drop i)
  have hx := Sp.radix_facts rg.toNat ((bs s).drop (i + d.2))
  have hf := Sp.fraction_facts ((bs s).drop (i + d.2))
  have he := Sp.exponent_facts rg.toNat ((bs s).drop (i + d.2 + f.2))
  rw [List.length_drop, bs_length] at hd hx hf he
  rw [hdE] at hd
  rw [hxE] at hx
  rw [hfE] at hf
  rw [heE] at he
  have c1 := H.R.c1
  have HdE := Lib.hid hdE
  have HxE := Lib.hid hxE
  have HfE := Lib.hid hfE
  have HeE := Lib.hid heE
  have Hfin := Lib.hid hfin
  have Hcat := Lib.hid hcat
  have hx1 := hx.1
  have hlen : (d.1 ++ f.1 ++ e.1).length ≤ 140737488355328 := by simp only [List.length_append]; omega
  have Hlen := Lib.hid hlen
  have Hd := Lib.hid hd
  have Hf := Lib.hid hf
  have He := Lib.hid he
  have hd2 := hd.2
  have hf2 := hf.2
  have he2 := he.2
  have k1 : i + d.2 ≤ s.size := by omega
  have k2 : i + d.2 + f.2 ≤ s.size := by omega
  have hbase := H.base
  have hlt := H.lt
  have hBw : B ≤ w.heap.size := by omega
  have HBw := Lib.hid hBw
  clear hdE hxE hfE heE hfin hcat hx hf he hlen hbase hlt hBw f0 g0 hd
  by_cases hc : 100 < Sp.count (d.1 ++ f.1 ++ e.1)
  · rw [Hfin.out, if_pos hc]
    have Hc := Lib.hid hc
    clear hc Hfin
    go_enter Tryz.func138, Tryz.ntmps138
    go_wp2_with (first
      | (go_at_call 208; refine (spread_i i g s i rg _ rfl hi (by omega) _ _ _ _ H.R (digit_tells _)).mono ?_; rw [HdE.out]; rintro e w1 ⟨rfl, hb1⟩; have H1 := H.later hb1; clear c1; have c1 := H1.R.c1)
      | (go_at_call 210; refine (radix_i (i + d.2) g s i rg hr _ (by omega) (by omega) (by omega) _ H1.R).mono ?_; rw [HxE.out]; rintro e w2 ⟨rfl, hb2⟩; have H2 := H1.later hb2; have hB2 := bjoin hb1 hb1.size hb2; clear c1 H1; have c1 := H2.R.c1)
      | (go_at_call 212; refine (fraction_i (i + d.2) g s i rg _ (by omega) (by omega) (by omega) _ H2.R).mono ?_; rw [HfE.out]; rintro e w3 ⟨rfl, hb3⟩; have H3 := H2.later hb3; have hB3 := bjoin hB2 hB2.size hb3; clear c1 H2 hB2; have c1 := H3.R.c1)
      | (go_at_call 213; refine (exponent_i (i + d.2 + f.2) g s i rg hr _ (by omega) (by omega) (by omega) _ H3.R).mono ?_; rw [HeE.out]; rintro e w4 ⟨rfl, hb4⟩; have H4 := H3.later hb4; have hB4 := bjoin hB3 hB3.size hb4; clear c1 H3 hB3; have c1 := H4.R.c1)
      | (go_at_call 207; refine (limited_bad_l (d.1 ++ f.1 ++ e.1) _ _ Hcat.out _ _ Hlen.out _ (by have := Hc.out; omega)).mono ?_; rintro e w5 ⟨rfl, hb5⟩))
    exact ⟨rfl, rfl, (bjoin hB4 hB4.size hb5).mono HBw.out⟩
  · rw [Hfin.out, if_neg hc]
    have Hc := Lib.hid hc
    clear hc Hfin
    go_enter Tryz.func138, Tryz.ntmps138
    go_wp2_with (first
      | (go_at_call 208; refine (spread_i i g s i rg _ rfl hi (by omega) _ _ _ _ H.R (digit_tells _)).mono ?_; rw [HdE.out]; rintro e w1 ⟨rfl, hb1⟩; have H1 := H.later hb1; clear c1; have c1 := H1.R.c1)
      | (go_at_call 210; refine (radix_i (i + d.2) g s i rg hr _ (by omega) (by omega) (by omega) _ H1.R).mono ?_; rw [HxE.out]; rintro e w2 ⟨rfl, hb2⟩; have H2 := H1.later hb2; have hB2 := bjoin hb1 hb1.size hb2; clear c1 H1; have c1 := H2.R.c1)
      | (go_at_call 212; refine (fraction_i (i + d.2) g s i rg _ (by omega) (by omega) (by omega) _ H2.R).mono ?_; rw [HfE.out]; rintro e w3 ⟨rfl, hb3⟩; have H3 := H2.later hb3; have hB3 := bjoin hB2 hB2.size hb3; clear c1 H2 hB2; have c1 := H3.R.c1)
      | (go_at_call 213; refine (exponent_i (i + d.2 + f.2) g s i rg hr _ (by omega) (by omega) (by omega) _ H3.R).mono ?_; rw [HeE.out]; rintro e w4 ⟨rfl, hb4⟩; have H4 := H3.later hb4; have hB4 := bjoin hB3 hB3.size hb4; clear c1 H3 hB3; have c1 := H4.R.c1)
      | (go_at_call 207; refine (limited_ok_l (d.1 ++ f.1 ++ e.1) _ _ Hcat.out _ _ Hlen.out _ (by have := Hc.out; omega)).mono ?_; rintro e w5 ⟨rfl, hb5⟩; have H5 := H4.later hb5; have hB5 := bjoin hB4 hB4.size hb5; clear c1 H4 hB4; have c1 := H5.R.c1)
      | (go_at_call 143; refine (add_l (d.1 ++ f.1 ++ e.1) (i + (d.2 + f.2 + e.2)) B g s i rg out A c _ _ Hcat.out _ (by omega) _ H5 hl).mono ?_; rintro e w6 ⟨rfl, hs6, hb6⟩))
    go_end0
    exact ⟨rfl, hs6, (hB5.mono HBw.out).trans hb6⟩

theorem nox {a b : List UInt8} (h : ¬ (a ≠ [] ∧ b ≠ [])) (ha : a.isEmpty = false) : b.isEmpty = true := by
  have ha' : a ≠ [] := by simpa using ha
  apply Classical.byContradiction
  intro hb
  exact h ⟨ha', by simpa using hb⟩
theorem number_c (B g : Nat) (s : ByteArray) (i : Nat) (rg : Int) (hr : 0 ≤ rg) (out : List Sp.Sym) (A : Option Addr) (c : Nat) (w : World) (H : Scn B w g s i rg out A c) (hi : i ≤ s.size) (hs : s.size ≤ 1000000000) (hl : out.length ≤ 1000000) :
    Calls Tryz.prog 138 #[.pointer (some ⟨g, 0, none⟩)] w (StepPost B w g s i rg out (Sp.number rg.toNat ((bs s).drop i))) := by
  by_cases hA : (Sp.spread Sp.digit ((bs s).drop i)).1 ≠ [] ∧ (Sp.radix rg.toNat ((bs s).drop (i + (Sp.spread Sp.digit ((bs s).drop i)).2))).1 ≠ []
  · exact numberA B g s i rg hr out A c w H hi hs hl hA
  cases e1 : (Sp.spread Sp.digit ((bs s).drop i)).1.isEmpty <;>
  cases e3 : (Sp.fraction ((bs s).drop (i + (Sp.spread Sp.digit ((bs s).drop i)).2))).1.isEmpty <;>
  cases e4 : (Sp.exponent rg.toNat ((bs s).drop (i + (Sp.spread Sp.digit ((bs s).drop i)).2 + (Sp.fraction ((bs s).drop (i + (Sp.spread Sp.digit ((bs s).drop i)).2))).2))).1.isEmpty
  case false.false.false => exact numberB_N11 B g s i rg hr out A c w H hi hs hl _ _ _ _ rfl rfl rfl rfl e1 (nox hA e1) e3 e4
  case false.false.true => exact numberB_N10 B g s i rg hr out A c w H hi hs hl _ _ _ _ rfl rfl rfl rfl e1 (nox hA e1) e3 e4
  case false.true.false => exact numberB_N01 B g s i rg hr out A c w H hi hs hl _ _ _ _ rfl rfl rfl rfl e1 (nox hA e1) e3 e4
  case false.true.true => exact numberB_N00 B g s i rg hr out A c w H hi hs hl _ _ _ _ rfl rfl rfl rfl e1 (nox hA e1) e3 e4
  case true.false.false => exact numberB_E11 B g s i rg hr out A c w H hi hs hl _ _ _ _ rfl rfl rfl rfl e1 e3 e4
  case true.false.true => exact numberB_E10 B g s i rg hr out A c w H hi hs hl _ _ _ _ rfl rfl rfl rfl e1 e3 e4
  case true.true.false => exact numberB_E01 B g s i rg hr out A c w H hi hs hl _ _ _ _ rfl rfl rfl rfl e1 e3 e4
  case true.true.true => exact numberB_E00 B g s i rg hr out A c w H hi hs hl _ _ _ _ rfl rfl rfl rfl e1 e3 e4
end Go.Proofs.YtjghijeblddijaaGreatDoor
