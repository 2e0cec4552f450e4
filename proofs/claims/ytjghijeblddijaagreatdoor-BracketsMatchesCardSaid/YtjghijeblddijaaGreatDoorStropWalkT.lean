/- Walks: symbol, behind the test for a digit. -/
import Derived.Test.YtjghijeblddijaaGreatDoorStropWalkS
set_option linter.unusedVariables false
namespace Go.Proofs.YtjghijeblddijaaGreatDoor
open Go.RowKit

set_option maxRecDepth 100000 in
set_option maxHeartbeats 4000000 in
theorem symbol_num2 (B g : Nat) (s : ByteArray) (i : Nat) (rg : Int) (h0 : 0 ≤ rg) (h2 : rg ≤ 2) (out : List Sp.Sym) (A : Option Addr) (c : Nat) (w : World) (H : Scn B w g s i rg out A c) (hi : i < s.size) (hs : s.size ≤ 1000000000) (hl : out.length ≤ 1000000) (hp : Sp.permitted s[i] = true) (hbo : Sp.bold rg.toNat ((bs s).drop i) = none) (hle : Sp.letter rg.toNat s[i] = false) (hdi : Sp.digit s[i] = false) (h46 : s[i] = 46) (hi1 : i + 1 < s.size) (hd1 : Sp.digit s[i + 1] = true) :
    Calls Tryz.prog 81 #[.pointer (some ⟨g, 0, none⟩)] w (StepPost B w g s i rg out (Sp.symbol rg.toNat ((bs s).drop i))) := by
  have hfin := symbol_eq rg.toNat s i hi
  rw [if_neg (by simp [hp]), hbo] at hfin
  dsimp only at hfin
  have h46' : (s[i] == 46) = true := by rw [h46]; rfl
  have hd1' : Sp.digit ((bs s).getD (i + 1) 0) = true := by rw [bs_get s (i + 1) hi1]; exact hd1
  rw [if_neg (by simp [hle]), if_pos (by rw [h46', hd1']; simp)] at hfin
  rw [hfin]
  generalize hst : Sp.number rg.toNat ((bs s).drop i) = st
  have Hst := Lib.hid hst
  have Hp := Lib.hid hp
  have Hbo := Lib.hid hbo
  have Hle := Lib.hid hle
  have Hdi := Lib.hid hdi
  have Hd1 := Lib.hid hd1
  have R := H.R
  have c0 := R.c0
  have c1 := R.c1
  have hBw : B ≤ w.heap.size := Nat.le_trans H.base (Nat.le_of_lt H.lt)
  have HBw := Lib.hid hBw
  clear hBw
  have e46 : ((s[i].toNat : Int) == 46) = true := by rw [h46]; rfl
  have x1 : (i : Int) + 1 < s.size := by omega
  have x0 : (0 : Int) ≤ (i : Int) + 1 := by omega
  have x3 : ((i : Int) + 1).toNat = i + 1 := by omega
  have x2 : decide ((i : Int) + 1 < (s.size : Int)) = true := by simp; omega
  have x4 : IntKind.i64.wrap ((i : Int) + 1) = (i : Int) + 1 := IntWalk.i64_in _ (by omega)
  clear hfin hst hp hbo hle hdi h46 hd1 h46' hd1'
  cases st with
  | sym k t m =>
    go_enter Tryz.func81, Tryz.ntmps81
    go_wp2_with (first | (go_at_call 132; refine (byte_ok g s i rg i hi Hp.out _ R).mono ?_; rintro e w1 ⟨rfl, rfl⟩) | (go_at_call 133; refine (bold_no g s i rg h0 h2 i (by omega) _ R Hbo.out).mono ?_; rintro e w2 ⟨rfl, hb2⟩; have H2 := H.later hb2; have R2 := H2.R; clear c0 c1; have c0 := R2.c0; have c1 := R2.c1) | (go_at_call 135; refine (letter_c g s i rg h0 _ _ R2).mono ?_; rw [Hle.out]; rintro e w3 ⟨rfl, rfl⟩) | (go_at_call 137; refine (digit_c _ _).mono ?_; rw [Hdi.out]; rintro e w4 ⟨rfl, rfl⟩))
    go_quiet (first | (go_at_call 137; exact Calls.quiet_of_same ((digit_c _ _).mono fun _ _ h => ⟨h.1.trans (congrArg (fun b => Ending.returned (Value.bool b)) Hd1.out), h.2.symm⟩)))
    have H3 := H2.later (bdrewN (Below.refl _ _) nq)
    go_wp2_with (first | (go_at_call 138; refine (number_c B g s i rg h0 out A c _ H3 (by omega) hs hl).mono ?_; rw [Hst.out]; rintro e w5 ⟨rfl, hx⟩))
    go_end0
    exact StepPost.from (w1 := w2.drewN nq) ⟨rfl, hx⟩ ((bdrewN hb2 nq).mono HBw.out)
  | skip m r =>
    go_enter Tryz.func81, Tryz.ntmps81
    go_wp2_with (first | (go_at_call 132; refine (byte_ok g s i rg i hi Hp.out _ R).mono ?_; rintro e w1 ⟨rfl, rfl⟩) | (go_at_call 133; refine (bold_no g s i rg h0 h2 i (by omega) _ R Hbo.out).mono ?_; rintro e w2 ⟨rfl, hb2⟩; have H2 := H.later hb2; have R2 := H2.R; clear c0 c1; have c0 := R2.c0; have c1 := R2.c1) | (go_at_call 135; refine (letter_c g s i rg h0 _ _ R2).mono ?_; rw [Hle.out]; rintro e w3 ⟨rfl, rfl⟩) | (go_at_call 137; refine (digit_c _ _).mono ?_; rw [Hdi.out]; rintro e w4 ⟨rfl, rfl⟩))
    go_quiet (first | (go_at_call 137; exact Calls.quiet_of_same ((digit_c _ _).mono fun _ _ h => ⟨h.1.trans (congrArg (fun b => Ending.returned (Value.bool b)) Hd1.out), h.2.symm⟩)))
    have H3 := H2.later (bdrewN (Below.refl _ _) nq)
    go_wp2_with (first | (go_at_call 138; refine (number_c B g s i rg h0 out A c _ H3 (by omega) hs hl).mono ?_; rw [Hst.out]; rintro e w5 ⟨rfl, hx⟩))
    go_end0
    exact StepPost.from (w1 := w2.drewN nq) ⟨rfl, hx⟩ ((bdrewN hb2 nq).mono HBw.out)
  | fault o cd =>
    go_enter Tryz.func81, Tryz.ntmps81
    go_wp2_with (first | (go_at_call 132; refine (byte_ok g s i rg i hi Hp.out _ R).mono ?_; rintro e w1 ⟨rfl, rfl⟩) | (go_at_call 133; refine (bold_no g s i rg h0 h2 i (by omega) _ R Hbo.out).mono ?_; rintro e w2 ⟨rfl, hb2⟩; have H2 := H.later hb2; have R2 := H2.R; clear c0 c1; have c0 := R2.c0; have c1 := R2.c1) | (go_at_call 135; refine (letter_c g s i rg h0 _ _ R2).mono ?_; rw [Hle.out]; rintro e w3 ⟨rfl, rfl⟩) | (go_at_call 137; refine (digit_c _ _).mono ?_; rw [Hdi.out]; rintro e w4 ⟨rfl, rfl⟩))
    go_quiet (first | (go_at_call 137; exact Calls.quiet_of_same ((digit_c _ _).mono fun _ _ h => ⟨h.1.trans (congrArg (fun b => Ending.returned (Value.bool b)) Hd1.out), h.2.symm⟩)))
    have H3 := H2.later (bdrewN (Below.refl _ _) nq)
    go_wp2_with (first | (go_at_call 138; refine (number_c B g s i rg h0 out A c _ H3 (by omega) hs hl).mono ?_; rw [Hst.out]; rintro e w5 ⟨rfl, hx⟩))
    exact ⟨rfl, StepPost.from (w1 := w2.drewN nq) (st := .fault o cd) ⟨rfl, hx⟩ ((bdrewN hb2 nq).mono HBw.out)⟩
set_option maxRecDepth 100000 in
set_option maxHeartbeats 4000000 in
theorem symbol_quoted (B g : Nat) (s : ByteArray) (i : Nat) (rg : Int) (h0 : 0 ≤ rg) (h2 : rg ≤ 2) (out : List Sp.Sym) (A : Option Addr) (c : Nat) (w : World) (H : Scn B w g s i rg out A c) (hi : i < s.size) (hs : s.size ≤ 1000000000) (hl : out.length ≤ 1000000) (hp : Sp.permitted s[i] = true) (hbo : Sp.bold rg.toNat ((bs s).drop i) = none) (hle : Sp.letter rg.toNat s[i] = false) (hdi : Sp.digit s[i] = false) (hv : s[i] = 34) :
    Calls Tryz.prog 81 #[.pointer (some ⟨g, 0, none⟩)] w (StepPost B w g s i rg out (Sp.symbol rg.toNat ((bs s).drop i))) := by
  have hfin := symbol_eq rg.toNat s i hi
  rw [if_neg (by simp [hp]), hbo] at hfin
  dsimp only at hfin
  have h46' : (s[i] == 46) = false := by rw [hv]; rfl
  rw [if_neg (by simp [hle]), if_neg (by rw [hdi, h46']; simp), if_pos (by rw [hv]; rfl)] at hfin
  rw [hfin]
  generalize hst : Sp.quoted ((bs s).drop i) = st
  have Hst := Lib.hid hst
  have Hp := Lib.hid hp
  have Hbo := Lib.hid hbo
  have Hle := Lib.hid hle
  have Hdi := Lib.hid hdi
  have R := H.R
  have c0 := R.c0
  have c1 := R.c1
  have hBw : B ≤ w.heap.size := Nat.le_trans H.base (Nat.le_of_lt H.lt)
  have HBw := Lib.hid hBw
  clear hBw
  have e46 : ((s[i].toNat : Int) == 46) = false := by rw [hv]; rfl
  have e34 : ((s[i].toNat : Int) == 34) = true := by rw [hv]; rfl
  clear hfin hst hp hbo hle hdi hv h46'
  cases st with
  | sym k t m =>
    go_enter Tryz.func81, Tryz.ntmps81
    go_wp2_with (first | (go_at_call 132; refine (byte_ok g s i rg i hi Hp.out _ R).mono ?_; rintro e w1 ⟨rfl, rfl⟩) | (go_at_call 133; refine (bold_no g s i rg h0 h2 i (by omega) _ R Hbo.out).mono ?_; rintro e w2 ⟨rfl, hb2⟩; have H2 := H.later hb2; have R2 := H2.R; clear c0 c1; have c0 := R2.c0; have c1 := R2.c1) | (go_at_call 135; refine (letter_c g s i rg h0 _ _ R2).mono ?_; rw [Hle.out]; rintro e w3 ⟨rfl, rfl⟩) | (go_at_call 137; refine (digit_c _ _).mono ?_; rw [Hdi.out]; rintro e w4 ⟨rfl, rfl⟩))
    go_quiet (first | (go_at_call 137; exact Calls.quiet_of_same ((digit_c _ _).mono fun _ _ h => ⟨h.1, h.2.symm⟩)))
    have H3 := H2.later (bdrewN (Below.refl _ _) nq)
    go_wp2_with (first | (go_at_call 139; refine (quoted_c B g s i rg out A c _ H3 hi (by omega) hl).mono ?_; rw [Hst.out]; rintro e w5 ⟨rfl, hx⟩))
    go_end0
    exact StepPost.from (w1 := w2.drewN nq) ⟨rfl, hx⟩ ((bdrewN hb2 nq).mono HBw.out)
  | skip m r =>
    go_enter Tryz.func81, Tryz.ntmps81
    go_wp2_with (first | (go_at_call 132; refine (byte_ok g s i rg i hi Hp.out _ R).mono ?_; rintro e w1 ⟨rfl, rfl⟩) | (go_at_call 133; refine (bold_no g s i rg h0 h2 i (by omega) _ R Hbo.out).mono ?_; rintro e w2 ⟨rfl, hb2⟩; have H2 := H.later hb2; have R2 := H2.R; clear c0 c1; have c0 := R2.c0; have c1 := R2.c1) | (go_at_call 135; refine (letter_c g s i rg h0 _ _ R2).mono ?_; rw [Hle.out]; rintro e w3 ⟨rfl, rfl⟩) | (go_at_call 137; refine (digit_c _ _).mono ?_; rw [Hdi.out]; rintro e w4 ⟨rfl, rfl⟩))
    go_quiet (first | (go_at_call 137; exact Calls.quiet_of_same ((digit_c _ _).mono fun _ _ h => ⟨h.1, h.2.symm⟩)))
    have H3 := H2.later (bdrewN (Below.refl _ _) nq)
    go_wp2_with (first | (go_at_call 139; refine (quoted_c B g s i rg out A c _ H3 hi (by omega) hl).mono ?_; rw [Hst.out]; rintro e w5 ⟨rfl, hx⟩))
    go_end0
    exact StepPost.from (w1 := w2.drewN nq) ⟨rfl, hx⟩ ((bdrewN hb2 nq).mono HBw.out)
  | fault o cd =>
    go_enter Tryz.func81, Tryz.ntmps81
    go_wp2_with (first | (go_at_call 132; refine (byte_ok g s i rg i hi Hp.out _ R).mono ?_; rintro e w1 ⟨rfl, rfl⟩) | (go_at_call 133; refine (bold_no g s i rg h0 h2 i (by omega) _ R Hbo.out).mono ?_; rintro e w2 ⟨rfl, hb2⟩; have H2 := H.later hb2; have R2 := H2.R; clear c0 c1; have c0 := R2.c0; have c1 := R2.c1) | (go_at_call 135; refine (letter_c g s i rg h0 _ _ R2).mono ?_; rw [Hle.out]; rintro e w3 ⟨rfl, rfl⟩) | (go_at_call 137; refine (digit_c _ _).mono ?_; rw [Hdi.out]; rintro e w4 ⟨rfl, rfl⟩))
    go_quiet (first | (go_at_call 137; exact Calls.quiet_of_same ((digit_c _ _).mono fun _ _ h => ⟨h.1, h.2.symm⟩)))
    have H3 := H2.later (bdrewN (Below.refl _ _) nq)
    go_wp2_with (first | (go_at_call 139; refine (quoted_c B g s i rg out A c _ H3 hi (by omega) hl).mono ?_; rw [Hst.out]; rintro e w5 ⟨rfl, hx⟩))
    exact ⟨rfl, StepPost.from (w1 := w2.drewN nq) (st := .fault o cd) ⟨rfl, hx⟩ ((bdrewN hb2 nq).mono HBw.out)⟩
set_option maxRecDepth 100000 in
set_option maxHeartbeats 4000000 in
theorem symbol_format (B g : Nat) (s : ByteArray) (i : Nat) (rg : Int) (h0 : 0 ≤ rg) (h2 : rg ≤ 2) (out : List Sp.Sym) (A : Option Addr) (c : Nat) (w : World) (H : Scn B w g s i rg out A c) (hi : i < s.size) (hs : s.size ≤ 1000000000) (hl : out.length ≤ 1000000) (hp : Sp.permitted s[i] = true) (hbo : Sp.bold rg.toNat ((bs s).drop i) = none) (hle : Sp.letter rg.toNat s[i] = false) (hdi : Sp.digit s[i] = false) (hv : s[i] = 36) :
    Calls Tryz.prog 81 #[.pointer (some ⟨g, 0, none⟩)] w (StepPost B w g s i rg out (Sp.symbol rg.toNat ((bs s).drop i))) := by
  have hfin := symbol_eq rg.toNat s i hi
  rw [if_neg (by simp [hp]), hbo] at hfin
  dsimp only at hfin
  have h46' : (s[i] == 46) = false := by rw [hv]; rfl
  rw [if_neg (by simp [hle]), if_neg (by rw [hdi, h46']; simp), if_neg (by rw [hv]; decide), if_pos (by rw [hv]; rfl)] at hfin
  rw [hfin]
  generalize hst : Sp.format ((bs s).drop i) = st
  have Hst := Lib.hid hst
  have Hp := Lib.hid hp
  have Hbo := Lib.hid hbo
  have Hle := Lib.hid hle
  have Hdi := Lib.hid hdi
  have R := H.R
  have c0 := R.c0
  have c1 := R.c1
  have hBw : B ≤ w.heap.size := Nat.le_trans H.base (Nat.le_of_lt H.lt)
  have HBw := Lib.hid hBw
  clear hBw
  have e46 : ((s[i].toNat : Int) == 46) = false := by rw [hv]; rfl
  have e34 : ((s[i].toNat : Int) == 34) = false := by rw [hv]; rfl
  have e36 : ((s[i].toNat : Int) == 36) = true := by rw [hv]; rfl
  clear hfin hst hp hbo hle hdi hv h46'
  cases st with
  | sym k t m =>
    go_enter Tryz.func81, Tryz.ntmps81
    go_wp2_with (first | (go_at_call 132; refine (byte_ok g s i rg i hi Hp.out _ R).mono ?_; rintro e w1 ⟨rfl, rfl⟩) | (go_at_call 133; refine (bold_no g s i rg h0 h2 i (by omega) _ R Hbo.out).mono ?_; rintro e w2 ⟨rfl, hb2⟩; have H2 := H.later hb2; have R2 := H2.R; clear c0 c1; have c0 := R2.c0; have c1 := R2.c1) | (go_at_call 135; refine (letter_c g s i rg h0 _ _ R2).mono ?_; rw [Hle.out]; rintro e w3 ⟨rfl, rfl⟩) | (go_at_call 137; refine (digit_c _ _).mono ?_; rw [Hdi.out]; rintro e w4 ⟨rfl, rfl⟩))
    go_quiet (first | (go_at_call 137; exact Calls.quiet_of_same ((digit_c _ _).mono fun _ _ h => ⟨h.1, h.2.symm⟩)))
    have H3 := H2.later (bdrewN (Below.refl _ _) nq)
    go_wp2_with (first | (go_at_call 140; refine (format_c B g s i rg out A c _ H3 hi (by omega) hl).mono ?_; rw [Hst.out]; rintro e w5 ⟨rfl, hx⟩))
    go_end0
    exact StepPost.from (w1 := w2.drewN nq) ⟨rfl, hx⟩ ((bdrewN hb2 nq).mono HBw.out)
  | skip m r =>
    go_enter Tryz.func81, Tryz.ntmps81
    go_wp2_with (first | (go_at_call 132; refine (byte_ok g s i rg i hi Hp.out _ R).mono ?_; rintro e w1 ⟨rfl, rfl⟩) | (go_at_call 133; refine (bold_no g s i rg h0 h2 i (by omega) _ R Hbo.out).mono ?_; rintro e w2 ⟨rfl, hb2⟩; have H2 := H.later hb2; have R2 := H2.R; clear c0 c1; have c0 := R2.c0; have c1 := R2.c1) | (go_at_call 135; refine (letter_c g s i rg h0 _ _ R2).mono ?_; rw [Hle.out]; rintro e w3 ⟨rfl, rfl⟩) | (go_at_call 137; refine (digit_c _ _).mono ?_; rw [Hdi.out]; rintro e w4 ⟨rfl, rfl⟩))
    go_quiet (first | (go_at_call 137; exact Calls.quiet_of_same ((digit_c _ _).mono fun _ _ h => ⟨h.1, h.2.symm⟩)))
    have H3 := H2.later (bdrewN (Below.refl _ _) nq)
    go_wp2_with (first | (go_at_call 140; refine (format_c B g s i rg out A c _ H3 hi (by omega) hl).mono ?_; rw [Hst.out]; rintro e w5 ⟨rfl, hx⟩))
    go_end0
    exact StepPost.from (w1 := w2.drewN nq) ⟨rfl, hx⟩ ((bdrewN hb2 nq).mono HBw.out)
  | fault o cd =>
    go_enter Tryz.func81, Tryz.ntmps81
    go_wp2_with (first | (go_at_call 132; refine (byte_ok g s i rg i hi Hp.out _ R).mono ?_; rintro e w1 ⟨rfl, rfl⟩) | (go_at_call 133; refine (bold_no g s i rg h0 h2 i (by omega) _ R Hbo.out).mono ?_; rintro e w2 ⟨rfl, hb2⟩; have H2 := H.later hb2; have R2 := H2.R; clear c0 c1; have c0 := R2.c0; have c1 := R2.c1) | (go_at_call 135; refine (letter_c g s i rg h0 _ _ R2).mono ?_; rw [Hle.out]; rintro e w3 ⟨rfl, rfl⟩) | (go_at_call 137; refine (digit_c _ _).mono ?_; rw [Hdi.out]; rintro e w4 ⟨rfl, rfl⟩))
    go_quiet (first | (go_at_call 137; exact Calls.quiet_of_same ((digit_c _ _).mono fun _ _ h => ⟨h.1, h.2.symm⟩)))
    have H3 := H2.later (bdrewN (Below.refl _ _) nq)
    go_wp2_with (first | (go_at_call 140; refine (format_c B g s i rg out A c _ H3 hi (by omega) hl).mono ?_; rw [Hst.out]; rintro e w5 ⟨rfl, hx⟩))
    exact ⟨rfl, StepPost.from (w1 := w2.drewN nq) (st := .fault o cd) ⟨rfl, hx⟩ ((bdrewN hb2 nq).mono HBw.out)⟩
set_option maxRecDepth 100000 in
set_option maxHeartbeats 4000000 in
theorem symbol_comment (B g : Nat) (s : ByteArray) (i : Nat) (rg : Int) (h0 : 0 ≤ rg) (h2 : rg ≤ 2) (out : List Sp.Sym) (A : Option Addr) (c : Nat) (w : World) (H : Scn B w g s i rg out A c) (hi : i < s.size) (hs : s.size ≤ 1000000000) (hl : out.length ≤ 1000000) (hp : Sp.permitted s[i] = true) (hbo : Sp.bold rg.toNat ((bs s).drop i) = none) (hle : Sp.letter rg.toNat s[i] = false) (hdi : Sp.digit s[i] = false) (hv : s[i] = 35) :
    Calls Tryz.prog 81 #[.pointer (some ⟨g, 0, none⟩)] w (StepPost B w g s i rg out (Sp.symbol rg.toNat ((bs s).drop i))) := by
  have hfin := symbol_eq rg.toNat s i hi
  rw [if_neg (by simp [hp]), hbo] at hfin
  dsimp only at hfin
  have h46' : (s[i] == 46) = false := by rw [hv]; rfl
  rw [if_neg (by simp [hle]), if_neg (by rw [hdi, h46']; simp), if_neg (by rw [hv]; decide), if_neg (by rw [hv]; decide), if_pos (by rw [hv]; rfl)] at hfin
  rw [hfin]
  generalize hst : Sp.comment rg.toNat ((bs s).drop i) = st
  have Hst := Lib.hid hst
  have Hp := Lib.hid hp
  have Hbo := Lib.hid hbo
  have Hle := Lib.hid hle
  have Hdi := Lib.hid hdi
  have R := H.R
  have c0 := R.c0
  have c1 := R.c1
  have hBw : B ≤ w.heap.size := Nat.le_trans H.base (Nat.le_of_lt H.lt)
  have HBw := Lib.hid hBw
  clear hBw
  have e46 : ((s[i].toNat : Int) == 46) = false := by rw [hv]; rfl
  have e34 : ((s[i].toNat : Int) == 34) = false := by rw [hv]; rfl
  have e36 : ((s[i].toNat : Int) == 36) = false := by rw [hv]; rfl
  have e35 : ((s[i].toNat : Int) == 35) = true := by rw [hv]; rfl
  clear hfin hst hp hbo hle hdi hv h46'
  cases st with
  | sym k t m =>
    go_enter Tryz.func81, Tryz.ntmps81
    go_wp2_with (first | (go_at_call 132; refine (byte_ok g s i rg i hi Hp.out _ R).mono ?_; rintro e w1 ⟨rfl, rfl⟩) | (go_at_call 133; refine (bold_no g s i rg h0 h2 i (by omega) _ R Hbo.out).mono ?_; rintro e w2 ⟨rfl, hb2⟩; have H2 := H.later hb2; have R2 := H2.R; clear c0 c1; have c0 := R2.c0; have c1 := R2.c1) | (go_at_call 135; refine (letter_c g s i rg h0 _ _ R2).mono ?_; rw [Hle.out]; rintro e w3 ⟨rfl, rfl⟩) | (go_at_call 137; refine (digit_c _ _).mono ?_; rw [Hdi.out]; rintro e w4 ⟨rfl, rfl⟩))
    go_quiet (first | (go_at_call 137; exact Calls.quiet_of_same ((digit_c _ _).mono fun _ _ h => ⟨h.1, h.2.symm⟩)))
    have H3 := H2.later (bdrewN (Below.refl _ _) nq)
    go_wp2_with (first | (go_at_call 141; refine (comment_c B g s i rg h0 out A c _ H3 hi (by omega)).mono ?_; rw [Hst.out]; rintro e w5 ⟨rfl, hx⟩))
    go_end0
    exact StepPost.from (w1 := w2.drewN nq) ⟨rfl, hx⟩ ((bdrewN hb2 nq).mono HBw.out)
  | skip m r =>
    go_enter Tryz.func81, Tryz.ntmps81
    go_wp2_with (first | (go_at_call 132; refine (byte_ok g s i rg i hi Hp.out _ R).mono ?_; rintro e w1 ⟨rfl, rfl⟩) | (go_at_call 133; refine (bold_no g s i rg h0 h2 i (by omega) _ R Hbo.out).mono ?_; rintro e w2 ⟨rfl, hb2⟩; have H2 := H.later hb2; have R2 := H2.R; clear c0 c1; have c0 := R2.c0; have c1 := R2.c1) | (go_at_call 135; refine (letter_c g s i rg h0 _ _ R2).mono ?_; rw [Hle.out]; rintro e w3 ⟨rfl, rfl⟩) | (go_at_call 137; refine (digit_c _ _).mono ?_; rw [Hdi.out]; rintro e w4 ⟨rfl, rfl⟩))
    go_quiet (first | (go_at_call 137; exact Calls.quiet_of_same ((digit_c _ _).mono fun _ _ h => ⟨h.1, h.2.symm⟩)))
    have H3 := H2.later (bdrewN (Below.refl _ _) nq)
    go_wp2_with (first | (go_at_call 141; refine (comment_c B g s i rg h0 out A c _ H3 hi (by omega)).mono ?_; rw [Hst.out]; rintro e w5 ⟨rfl, hx⟩))
    go_end0
    exact StepPost.from (w1 := w2.drewN nq) ⟨rfl, hx⟩ ((bdrewN hb2 nq).mono HBw.out)
  | fault o cd =>
    go_enter Tryz.func81, Tryz.ntmps81
    go_wp2_with (first | (go_at_call 132; refine (byte_ok g s i rg i hi Hp.out _ R).mono ?_; rintro e w1 ⟨rfl, rfl⟩) | (go_at_call 133; refine (bold_no g s i rg h0 h2 i (by omega) _ R Hbo.out).mono ?_; rintro e w2 ⟨rfl, hb2⟩; have H2 := H.later hb2; have R2 := H2.R; clear c0 c1; have c0 := R2.c0; have c1 := R2.c1) | (go_at_call 135; refine (letter_c g s i rg h0 _ _ R2).mono ?_; rw [Hle.out]; rintro e w3 ⟨rfl, rfl⟩) | (go_at_call 137; refine (digit_c _ _).mono ?_; rw [Hdi.out]; rintro e w4 ⟨rfl, rfl⟩))
    go_quiet (first | (go_at_call 137; exact Calls.quiet_of_same ((digit_c _ _).mono fun _ _ h => ⟨h.1, h.2.symm⟩)))
    have H3 := H2.later (bdrewN (Below.refl _ _) nq)
    go_wp2_with (first | (go_at_call 141; refine (comment_c B g s i rg h0 out A c _ H3 hi (by omega)).mono ?_; rw [Hst.out]; rintro e w5 ⟨rfl, hx⟩))
    exact ⟨rfl, StepPost.from (w1 := w2.drewN nq) (st := .fault o cd) ⟨rfl, hx⟩ ((bdrewN hb2 nq).mono HBw.out)⟩
end Go.Proofs.YtjghijeblddijaaGreatDoor
