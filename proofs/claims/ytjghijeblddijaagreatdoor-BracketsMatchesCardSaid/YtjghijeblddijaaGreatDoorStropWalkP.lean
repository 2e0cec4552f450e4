/- Walks: number. -/
import Derived.Test.YtjghijeblddijaaGreatDoorStropFacts
namespace Go.Proofs.YtjghijeblddijaaGreatDoor
open Go.RowKit

theorem limited_ok_l (t : List UInt8) (p : Value) (text : ByteArray) (ht : text = ⟨t.toArray⟩) (most at_ : Int) (hs : t.length ≤ 140737488355328) (w : World) (h : (Sp.count t : Int) ≤ most) :
    Calls Tryz.prog 207 #[p, .string text, .int .i64 most, .int .i64 at_] w fun e w' => e = .returned (.tuple #[]) ∧ Below w.heap.size w w' := by
  subst ht; exact limited_ok p _ most at_ (by rw [size_of]; exact hs) w h
theorem limited_bad_l (t : List UInt8) (p : Value) (text : ByteArray) (ht : text = ⟨t.toArray⟩) (most at_ : Int) (hs : t.length ≤ 140737488355328) (w : World) (h : most < (Sp.count t : Int)) :
    Calls Tryz.prog 207 #[p, .string text, .int .i64 most, .int .i64 at_] w fun e w' => e = .panicked (flt at_ 3) ∧ Below w.heap.size w w' := by
  subst ht; exact limited_bad p _ most at_ (by rw [size_of]; exact hs) w h
theorem add_l (t : List UInt8) (n : Nat) (B g : Nat) (s : ByteArray) (i : Nat) (rg : Int) (out : List Sp.Sym) (A : Option Addr) (c : Nat) (kind : Int) (text : ByteArray) (ht : text = ⟨t.toArray⟩) (to_ : Int) (hn : to_ = (n : Int)) (w : World) (H : Scn B w g s (i : Int) rg out A c) (hl : out.length ≤ 1000000) :
    Calls Tryz.prog 143 #[.pointer (some ⟨g, 0, none⟩), .int .i64 kind, .string text, .int .i64 (i : Int), .int .i64 to_] w fun e w' =>
      e = .returned (.tuple #[]) ∧ (∃ A' c', Scn B w' g s (n : Int) rg (out ++ [⟨kind, t, (i : Int)⟩]) A' c') ∧ Below B w w' := by
  subst ht; subst hn
  exact (add_c B g s i rg out A c kind _ _ _ w H hl).mono fun e w' h => by simpa [bs_of] using h
theorem radix_i (n : Nat) (g : Nat) (s : ByteArray) (at_ rg : Int) (h0 : 0 ≤ rg) (i : Int) (hn : i = n) (hi : n ≤ s.size) (hs : s.size ≤ 140737488355328) (w : World) (H : ScnR w g s at_ rg) :
    Calls Tryz.prog 210 #[.pointer (some ⟨g, 0, none⟩), .int .i64 i] w fun e w' => e = .returned (.tuple #[.string ⟨(Sp.radix rg.toNat ((bs s).drop n)).1.toArray⟩, .int .i64 ((n + (Sp.radix rg.toNat ((bs s).drop n)).2 : Nat) : Int)]) ∧ Below w.heap.size w w' := by
  subst hn; exact radix_c g s at_ rg h0 n hi hs w H
theorem fraction_i (n : Nat) (g : Nat) (s : ByteArray) (at_ rg : Int) (i : Int) (hn : i = n) (hi : n ≤ s.size) (hs : s.size ≤ 140737488355328) (w : World) (H : ScnR w g s at_ rg) :
    Calls Tryz.prog 212 #[.pointer (some ⟨g, 0, none⟩), .int .i64 i] w fun e w' => e = .returned (.tuple #[.string ⟨(Sp.fraction ((bs s).drop n)).1.toArray⟩, .int .i64 ((n + (Sp.fraction ((bs s).drop n)).2 : Nat) : Int)]) ∧ Below w.heap.size w w' := by
  subst hn; exact fraction_c g s at_ rg n hi hs w H
theorem exponent_i (n : Nat) (g : Nat) (s : ByteArray) (at_ rg : Int) (h0 : 0 ≤ rg) (i : Int) (hn : i = n) (hi : n ≤ s.size) (hs : s.size ≤ 140737488355328) (w : World) (H : ScnR w g s at_ rg) :
    Calls Tryz.prog 213 #[.pointer (some ⟨g, 0, none⟩), .int .i64 i] w fun e w' => e = .returned (.tuple #[.string ⟨(Sp.exponent rg.toNat ((bs s).drop n)).1.toArray⟩, .int .i64 ((n + (Sp.exponent rg.toNat ((bs s).drop n)).2 : Nat) : Int)]) ∧ Below w.heap.size w w' := by
  subst hn; exact exponent_c g s at_ rg h0 n hi hs w H

theorem bits_l (d x y : List UInt8) (text : ByteArray) (ht : text = ⟨(d ++ x).toArray⟩) (hd : (114 : UInt8) ∉ d) (hxy : x = 114 :: y) (hx : ∀ c ∈ y, hexc c = true) (hne : y ≠ []) (hs : (d ++ x).length ≤ 140737488355328) (w : World) :
    Calls Tryz.prog 211 #[.string text] w fun e w' => e = .returned (.bool (Sp.rightBits d y)) ∧ Below w.heap.size w w' := by
  subst ht; subst hxy
  refine rightBits_c d y hd hx hne ?_ w
  simp only [List.length_append, List.length_cons] at hs; omega

theorem number_eq (r : Nat) (l : List UInt8) (i : Nat) : Sp.number r (l.drop i) =
    (let d := Sp.spread Sp.digit (l.drop i)
     let x := Sp.radix r (l.drop (i + d.2))
     let f := Sp.fraction (l.drop (i + d.2))
     let e := Sp.exponent r (l.drop (i + d.2 + f.2))
     if d.1 ≠ [] ∧ x.1 ≠ [] then
       if 100 < Sp.count (d.1 ++ x.1) then .fault 0 3
       else if Sp.rightBits d.1 (x.1.drop 1) then .sym 5 (d.1 ++ x.1) (d.2 + x.2) else .fault 0 11
     else if 100 < Sp.count (d.1 ++ f.1 ++ e.1) then .fault 0 3
       else .sym (if f.1 = [] ∧ e.1 = [] then 3 else 4) (d.1 ++ f.1 ++ e.1) (d.2 + f.2 + e.2)) := by
  unfold Sp.number
  simp only [List.drop_drop, Nat.add_assoc]

set_option maxRecDepth 100000 in
set_option maxHeartbeats 4000000 in
theorem numberA (B g : Nat) (s : ByteArray) (i : Nat) (rg : Int) (hr : 0 ≤ rg) (out : List Sp.Sym) (A : Option Addr) (c : Nat) (w : World) (H : Scn B w g s i rg out A c) (hi : i ≤ s.size) (hs : s.size ≤ 1000000000) (hl : out.length ≤ 1000000)
    (hA : (Sp.spread Sp.digit ((bs s).drop i)).1 ≠ [] ∧ (Sp.radix rg.toNat ((bs s).drop (i + (Sp.spread Sp.digit ((bs s).drop i)).2))).1 ≠ []) :
    Calls Tryz.prog 138 #[.pointer (some ⟨g, 0, none⟩)] w (StepPost B w g s i rg out (Sp.number rg.toNat ((bs s).drop i))) := by
  have hfin := number_eq rg.toNat (bs s) i
  dsimp only at hfin
  rw [if_pos hA] at hfin
  have hd := Sp.spread_le Sp.digit ((bs s).drop i)
  have hd3 := Sp.spread_not_r ((bs s).drop i)
  have hx := Sp.radix_facts rg.toNat ((bs s).drop (i + (Sp.spread Sp.digit ((bs s).drop i)).2))
  rw [List.length_drop, bs_length] at hd hx
  generalize hdE : Sp.spread Sp.digit ((bs s).drop i) = d at *
  generalize hxE : Sp.radix rg.toNat ((bs s).drop (i + d.2)) = x at *
  have e1 : d.1.isEmpty = false := by simpa using hA.1
  have e2 : x.1.isEmpty = false := by simpa using hA.2
  obtain ⟨y, hy, hy0, hyh⟩ := hx.2.2 hA.2
  have hdr : x.1.drop 1 = y := by rw [hy]; rfl
  rw [hdr] at hfin
  have c1 := H.R.c1
  have HdE := Lib.hid hdE
  have HxE := Lib.hid hxE
  have Hfin := Lib.hid hfin
  have Hy := Lib.hid hy
  have Hy0 := Lib.hid hy0
  have Hyh := Lib.hid hyh
  have Hd3 := Lib.hid hd3
  have Hx2 := Lib.hid hx.2.1
  have Hx1 := Lib.hid hx.1
  clear hdE hxE hfin hy hy0 hyh hd3 hx hdr hA
  have hcat := bcat d.1 x.1
  have Hcat := Lib.hid hcat
  have hlen : (d.1 ++ x.1).length ≤ 140737488355328 := by rw [List.length_append]; have := Hx2.out; omega
  have Hlen := Lib.hid hlen
  have hsum : d.1.length + x.1.length ≤ 9223372036854775807 := by have := Hx2.out; omega
  clear hcat hlen
  have hbase := H.base
  have hlt := H.lt
  have hBw : B ≤ w.heap.size := by omega
  have HBw := Lib.hid hBw
  clear hbase hlt hBw
  by_cases hc : 100 < Sp.count (d.1 ++ x.1)
  · rw [Hfin.out, if_pos hc]
    have Hc := Lib.hid hc
    clear hc Hfin
    go_enter Tryz.func138, Tryz.ntmps138
    go_wp2_with (first
      | (go_at_call 208; refine (spread_i i g s i rg _ rfl hi (by omega) _ _ _ _ H.R (digit_tells _)).mono ?_; rw [HdE.out]; rintro e w1 ⟨rfl, hb1⟩; have H1 := H.later hb1; clear c1; have c1 := H1.R.c1)
      | (go_at_call 210; refine (radix_i (i + d.2) g s i rg hr _ (by omega) (by omega) (by omega) _ H1.R).mono ?_; rw [HxE.out]; rintro e w2 ⟨rfl, hb2⟩; have H2 := H1.later hb2; have hB2 := bjoin hb1 hb1.size hb2; clear c1 H1; have c1 := H2.R.c1)
      | (go_at_call 207; refine (limited_bad_l (d.1 ++ x.1) _ _ Hcat.out _ _ Hlen.out _ (by have := Hc.out; omega)).mono ?_; rintro e w3 ⟨rfl, hb3⟩))
    exact ⟨rfl, rfl, (bjoin hB2 hB2.size hb3).mono HBw.out⟩
  · rw [Hfin.out, if_neg hc]
    have Hc := Lib.hid hc
    clear hc Hfin
    cases hrb : Sp.rightBits d.1 y with
    | false =>
      rw [if_neg (by decide)]
      have Hrb := Lib.hid hrb
      clear hrb
      go_enter Tryz.func138, Tryz.ntmps138
      go_wp2_with (first
        | (go_at_call 208; refine (spread_i i g s i rg _ rfl hi (by omega) _ _ _ _ H.R (digit_tells _)).mono ?_; rw [HdE.out]; rintro e w1 ⟨rfl, hb1⟩; have H1 := H.later hb1; clear c1; have c1 := H1.R.c1)
        | (go_at_call 210; refine (radix_i (i + d.2) g s i rg hr _ (by omega) (by omega) (by omega) _ H1.R).mono ?_; rw [HxE.out]; rintro e w2 ⟨rfl, hb2⟩; have H2 := H1.later hb2; have hB2 := bjoin hb1 hb1.size hb2; clear c1 H1; have c1 := H2.R.c1)
        | (go_at_call 207; refine (limited_ok_l (d.1 ++ x.1) _ _ Hcat.out _ _ Hlen.out _ (by have := Hc.out; omega)).mono ?_; rintro e w3 ⟨rfl, hb3⟩; have H3 := H2.later hb3; have hB3 := bjoin hB2 hB2.size hb3; clear c1 H2 hB2; have c1 := H3.R.c1)
        | (go_at_call 211; refine (bits_l d.1 x.1 y _ Hcat.out Hd3.out Hy.out Hyh.out Hy0.out Hlen.out _).mono ?_; rw [Hrb.out]; rintro e w4 ⟨rfl, hb4⟩; have H4 := H3.later hb4; have hB4 := bjoin hB3 hB3.size hb4; clear c1 H3 hB3; have c1 := H4.R.c1)
        | (go_at_call 144; refine (stop_c _ _ _ _).mono ?_; rintro e w5 ⟨rfl, rfl⟩))
      exact ⟨rfl, rfl, hB4.mono HBw.out⟩
    | true =>
      rw [if_pos rfl]
      have Hrb := Lib.hid hrb
      clear hrb
      go_enter Tryz.func138, Tryz.ntmps138
      go_wp2_with (first
        | (go_at_call 208; refine (spread_i i g s i rg _ rfl hi (by omega) _ _ _ _ H.R (digit_tells _)).mono ?_; rw [HdE.out]; rintro e w1 ⟨rfl, hb1⟩; have H1 := H.later hb1; clear c1; have c1 := H1.R.c1)
        | (go_at_call 210; refine (radix_i (i + d.2) g s i rg hr _ (by omega) (by omega) (by omega) _ H1.R).mono ?_; rw [HxE.out]; rintro e w2 ⟨rfl, hb2⟩; have H2 := H1.later hb2; have hB2 := bjoin hb1 hb1.size hb2; clear c1 H1; have c1 := H2.R.c1)
        | (go_at_call 207; refine (limited_ok_l (d.1 ++ x.1) _ _ Hcat.out _ _ Hlen.out _ (by have := Hc.out; omega)).mono ?_; rintro e w3 ⟨rfl, hb3⟩; have H3 := H2.later hb3; have hB3 := bjoin hB2 hB2.size hb3; clear c1 H2 hB2; have c1 := H3.R.c1)
        | (go_at_call 211; refine (bits_l d.1 x.1 y _ Hcat.out Hd3.out Hy.out Hyh.out Hy0.out Hlen.out _).mono ?_; rw [Hrb.out]; rintro e w4 ⟨rfl, hb4⟩; have H4 := H3.later hb4; have hB4 := bjoin hB3 hB3.size hb4; clear c1 H3 hB3; have c1 := H4.R.c1)
        | (go_at_call 143; refine (add_l (d.1 ++ x.1) (i + (d.2 + x.2)) B g s i rg out A c _ _ Hcat.out _ (by omega) _ H4 hl).mono ?_; rintro e w5 ⟨rfl, hs5, hb5⟩))
      go_end0
      exact ⟨rfl, hs5, (hB4.mono HBw.out).trans hb5⟩
end Go.Proofs.YtjghijeblddijaaGreatDoor
