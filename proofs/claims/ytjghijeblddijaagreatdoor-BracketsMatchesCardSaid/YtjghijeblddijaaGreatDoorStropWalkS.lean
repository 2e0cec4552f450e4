/- Walks: symbol, where it is no sign. -/
import Derived.Test.YtjghijeblddijaaGreatDoorStropWalkR
import Derived.Test.YtjghijeblddijaaGreatDoorStropWalkQ
import Derived.Test.YtjghijeblddijaaGreatDoorStropWalkG
import Derived.Test.YtjghijeblddijaaGreatDoorStropWalkH
import Derived.Test.YtjghijeblddijaaGreatDoorStropWalkF
import Derived.BigQuiet
set_option linter.unusedVariables false
namespace Go.Proofs.YtjghijeblddijaaGreatDoor
open Go.RowKit

theorem symbol_eq (r : Nat) (s : ByteArray) (i : Nat) (hi : i < s.size) : Sp.symbol r ((bs s).drop i) =
    if (!Sp.permitted s[i]) = true then .fault 0 2
    else match Sp.bold r ((bs s).drop i) with
      | some (w, n) => Sp.word r w n ((bs s).drop i)
      | none =>
        if Sp.letter r s[i] = true then Sp.tag r ((bs s).drop i)
        else if (Sp.digit s[i] || (s[i] == 46 && Sp.digit ((bs s).getD (i + 1) 0))) = true then Sp.number r ((bs s).drop i)
        else if (s[i] == 34) = true then Sp.quoted ((bs s).drop i)
        else if (s[i] == 36) = true then Sp.format ((bs s).drop i)
        else if (s[i] == 35) = true then Sp.comment r ((bs s).drop i)
        else Sp.sign ((bs s).drop i) := by
  unfold Sp.symbol
  have e0 : ((bs s).drop i).getD 0 0 = s[i] := by rw [getD_drop', Nat.add_zero, bs_get s i hi]
  simp only [e0, getD_drop']
  cases Sp.bold r ((bs s).drop i) <;> rfl
theorem word_i (B g : Nat) (s : ByteArray) (i : Nat) (rg : Int) (h0 : 0 ≤ rg) (h2 : rg ≤ 2) (out : List Sp.Sym) (A : Option Addr) (c : Nat) (n : Nat) (e : Int) (he : e = ((i + n : Nat) : Int)) (w : World) (H : Scn B w g s i rg out A c) (hf : i + n ≤ s.size) (hs : s.size ≤ 1000000000) (wl : List UInt8) (hw : wl.length ≤ 1000000000) (hl : out.length ≤ 1000000) :
    Calls Tryz.prog 134 #[.pointer (some ⟨g, 0, none⟩), .string ⟨wl.toArray⟩, .int .i64 e] w (StepPost B w g s i rg out (Sp.word rg.toNat wl n ((bs s).drop i))) := by
  subst he; exact word_c B g s i rg h0 h2 out A c n w H hf hs wl hw hl
theorem Sp.bold_len (r : Nat) (l : List UInt8) (w : List UInt8) (n : Nat) (h : Sp.bold r l = some (w, n)) : w.length ≤ l.length := by
  cases l with
  | nil => simp [Sp.bold] at h
  | cons a t =>
    unfold Sp.bold at h
    dsimp only at h
    split at h
    · split at h
      · injection h with h
        injection h with h1 h2
        subst h1
        rw [List.length_take]; omega
      · cases h
    · split at h
      · split at h
        · split at h
          · injection h with h
            injection h with h1 h2
            subst h1
            simp only [List.length_map, List.length_take, List.length_cons]; omega
          · cases h
        · injection h with h
          injection h with h1 h2
          subst h1
          simp only [List.length_map, List.length_take, List.length_cons]; omega
      · cases h
theorem StepPost.from {B : Nat} {w w1 : World} {g : Nat} {s : ByteArray} {i : Nat} {rg : Int} {out : List Sp.Sym} {st : Sp.Step} {e : Ending} {w' : World} (h : StepPost B w1 g s i rg out st e w') (hb : Below B w w1) : StepPost B w g s i rg out st e w' := by
  cases st with
  | sym k t n => exact ⟨h.1, h.2.1, hb.trans h.2.2⟩
  | skip n r => exact ⟨h.1, h.2.1, hb.trans h.2.2⟩
  | fault o c => exact ⟨h.1, hb.trans h.2⟩

set_option maxRecDepth 100000 in
set_option maxHeartbeats 4000000 in
theorem symbol_bad (B g : Nat) (s : ByteArray) (i : Nat) (rg : Int) (h0 : 0 ≤ rg) (h2 : rg ≤ 2) (out : List Sp.Sym) (A : Option Addr) (c : Nat) (w : World) (H : Scn B w g s i rg out A c) (hi : i < s.size) (hs : s.size ≤ 1000000000) (hl : out.length ≤ 1000000) (hp : Sp.permitted s[i] = false) :
    Calls Tryz.prog 81 #[.pointer (some ⟨g, 0, none⟩)] w (StepPost B w g s i rg out (Sp.symbol rg.toNat ((bs s).drop i))) := by
  have hfin := symbol_eq rg.toNat s i hi
  rw [if_pos (by simp [hp])] at hfin
  rw [hfin]
  have R := H.R
  have c1 := R.c1
  clear hfin
  go_enter Tryz.func81, Tryz.ntmps81
  go_wp2_with (go_at_call 132; refine (byte_bad g s i rg i hi hp _ R).mono ?_; rintro e w1 ⟨rfl, rfl⟩)
  exact ⟨rfl, rfl, Below.refl _ _⟩
set_option maxRecDepth 100000 in
set_option maxHeartbeats 4000000 in
theorem symbol_word (B g : Nat) (s : ByteArray) (i : Nat) (rg : Int) (h0 : 0 ≤ rg) (h2 : rg ≤ 2) (out : List Sp.Sym) (A : Option Addr) (c : Nat) (w : World) (H : Scn B w g s i rg out A c) (hi : i < s.size) (hs : s.size ≤ 1000000000) (hl : out.length ≤ 1000000) (hp : Sp.permitted s[i] = true) (wd : List UInt8) (n : Nat) (hbo : Sp.bold rg.toNat ((bs s).drop i) = some (wd, n)) :
    Calls Tryz.prog 81 #[.pointer (some ⟨g, 0, none⟩)] w (StepPost B w g s i rg out (Sp.symbol rg.toNat ((bs s).drop i))) := by
  have hfin := symbol_eq rg.toNat s i hi
  rw [if_neg (by simp [hp]), hbo] at hfin
  dsimp only at hfin
  rw [hfin]
  have hbd := Sp.bold_bound _ _ _ _ hbo
  rw [List.length_drop, bs_length] at hbd
  have hwl := Sp.bold_len _ _ _ _ hbo
  rw [List.length_drop, bs_length] at hwl
  have hin : i + n ≤ s.size := by omega
  have hwl2 : wd.length ≤ 1000000000 := by omega
  generalize hst : Sp.word rg.toNat wd n ((bs s).drop i) = st
  have Hst := Lib.hid hst
  have Hp := Lib.hid hp
  have Hbo := Lib.hid hbo
  have R := H.R
  have c0 := R.c0
  have c1 := R.c1
  have hBw : B ≤ w.heap.size := Nat.le_trans H.base (Nat.le_of_lt H.lt)
  have HBw := Lib.hid hBw
  clear hBw
  clear hfin hst hp hbo hbd hwl
  cases st with
  | sym k t m =>
    go_enter Tryz.func81, Tryz.ntmps81
    go_wp2_with (first | (go_at_call 132; refine (byte_ok g s i rg i hi Hp.out _ R).mono ?_; rintro e w1 ⟨rfl, rfl⟩) | (go_at_call 133; refine (bold_yes g s i rg h0 h2 i (by omega) _ R wd n Hbo.out).mono ?_; rintro e w2 ⟨rfl, hb2⟩; have H2 := H.later hb2) | (go_at_call 134; refine (word_i B g s i rg h0 h2 out A c n _ (by omega) _ H2 hin hs wd hwl2 hl).mono ?_; rw [Hst.out]; rintro e w3 ⟨rfl, hx⟩))
    go_end0
    exact StepPost.from (w1 := w2) ⟨rfl, hx⟩ (hb2.mono HBw.out)
  | skip m r =>
    go_enter Tryz.func81, Tryz.ntmps81
    go_wp2_with (first | (go_at_call 132; refine (byte_ok g s i rg i hi Hp.out _ R).mono ?_; rintro e w1 ⟨rfl, rfl⟩) | (go_at_call 133; refine (bold_yes g s i rg h0 h2 i (by omega) _ R wd n Hbo.out).mono ?_; rintro e w2 ⟨rfl, hb2⟩; have H2 := H.later hb2) | (go_at_call 134; refine (word_i B g s i rg h0 h2 out A c n _ (by omega) _ H2 hin hs wd hwl2 hl).mono ?_; rw [Hst.out]; rintro e w3 ⟨rfl, hx⟩))
    go_end0
    exact StepPost.from (w1 := w2) ⟨rfl, hx⟩ (hb2.mono HBw.out)
  | fault o cd =>
    go_enter Tryz.func81, Tryz.ntmps81
    go_wp2_with (first | (go_at_call 132; refine (byte_ok g s i rg i hi Hp.out _ R).mono ?_; rintro e w1 ⟨rfl, rfl⟩) | (go_at_call 133; refine (bold_yes g s i rg h0 h2 i (by omega) _ R wd n Hbo.out).mono ?_; rintro e w2 ⟨rfl, hb2⟩; have H2 := H.later hb2) | (go_at_call 134; refine (word_i B g s i rg h0 h2 out A c n _ (by omega) _ H2 hin hs wd hwl2 hl).mono ?_; rw [Hst.out]; rintro e w3 ⟨rfl, hx⟩))
    exact ⟨rfl, StepPost.from (w1 := w2) (st := .fault o cd) ⟨rfl, hx⟩ (hb2.mono HBw.out)⟩
set_option maxRecDepth 100000 in
set_option maxHeartbeats 4000000 in
theorem symbol_tag (B g : Nat) (s : ByteArray) (i : Nat) (rg : Int) (h0 : 0 ≤ rg) (h2 : rg ≤ 2) (out : List Sp.Sym) (A : Option Addr) (c : Nat) (w : World) (H : Scn B w g s i rg out A c) (hi : i < s.size) (hs : s.size ≤ 1000000000) (hl : out.length ≤ 1000000) (hp : Sp.permitted s[i] = true) (hbo : Sp.bold rg.toNat ((bs s).drop i) = none) (hle : Sp.letter rg.toNat s[i] = true) :
    Calls Tryz.prog 81 #[.pointer (some ⟨g, 0, none⟩)] w (StepPost B w g s i rg out (Sp.symbol rg.toNat ((bs s).drop i))) := by
  have hfin := symbol_eq rg.toNat s i hi
  rw [if_neg (by simp [hp]), hbo] at hfin
  dsimp only at hfin
  rw [if_pos hle] at hfin
  rw [hfin]
  generalize hst : Sp.tag rg.toNat ((bs s).drop i) = st
  have Hst := Lib.hid hst
  have Hp := Lib.hid hp
  have Hbo := Lib.hid hbo
  have R := H.R
  have c0 := R.c0
  have c1 := R.c1
  have hBw : B ≤ w.heap.size := Nat.le_trans H.base (Nat.le_of_lt H.lt)
  have HBw := Lib.hid hBw
  clear hBw
  have Hle := Lib.hid hle
  clear hfin hst hp hbo hle
  cases st with
  | sym k t m =>
    go_enter Tryz.func81, Tryz.ntmps81
    go_wp2_with (first | (go_at_call 132; refine (byte_ok g s i rg i hi Hp.out _ R).mono ?_; rintro e w1 ⟨rfl, rfl⟩) | (go_at_call 133; refine (bold_no g s i rg h0 h2 i (by omega) _ R Hbo.out).mono ?_; rintro e w2 ⟨rfl, hb2⟩; have H2 := H.later hb2; have R2 := H2.R; clear c0 c1; have c0 := R2.c0; have c1 := R2.c1) | (go_at_call 135; refine (letter_c g s i rg h0 _ _ R2).mono ?_; rw [Hle.out]; rintro e w3 ⟨rfl, rfl⟩) | (go_at_call 136; refine (tag_c B g s i rg h0 out A c _ H2 (by omega) (by omega) hl).mono ?_; rw [Hst.out]; rintro e w5 ⟨rfl, hx⟩))
    go_end0
    exact StepPost.from (w1 := w2) ⟨rfl, hx⟩ (hb2.mono HBw.out)
  | skip m r =>
    go_enter Tryz.func81, Tryz.ntmps81
    go_wp2_with (first | (go_at_call 132; refine (byte_ok g s i rg i hi Hp.out _ R).mono ?_; rintro e w1 ⟨rfl, rfl⟩) | (go_at_call 133; refine (bold_no g s i rg h0 h2 i (by omega) _ R Hbo.out).mono ?_; rintro e w2 ⟨rfl, hb2⟩; have H2 := H.later hb2; have R2 := H2.R; clear c0 c1; have c0 := R2.c0; have c1 := R2.c1) | (go_at_call 135; refine (letter_c g s i rg h0 _ _ R2).mono ?_; rw [Hle.out]; rintro e w3 ⟨rfl, rfl⟩) | (go_at_call 136; refine (tag_c B g s i rg h0 out A c _ H2 (by omega) (by omega) hl).mono ?_; rw [Hst.out]; rintro e w5 ⟨rfl, hx⟩))
    go_end0
    exact StepPost.from (w1 := w2) ⟨rfl, hx⟩ (hb2.mono HBw.out)
  | fault o cd =>
    go_enter Tryz.func81, Tryz.ntmps81
    go_wp2_with (first | (go_at_call 132; refine (byte_ok g s i rg i hi Hp.out _ R).mono ?_; rintro e w1 ⟨rfl, rfl⟩) | (go_at_call 133; refine (bold_no g s i rg h0 h2 i (by omega) _ R Hbo.out).mono ?_; rintro e w2 ⟨rfl, hb2⟩; have H2 := H.later hb2; have R2 := H2.R; clear c0 c1; have c0 := R2.c0; have c1 := R2.c1) | (go_at_call 135; refine (letter_c g s i rg h0 _ _ R2).mono ?_; rw [Hle.out]; rintro e w3 ⟨rfl, rfl⟩) | (go_at_call 136; refine (tag_c B g s i rg h0 out A c _ H2 (by omega) (by omega) hl).mono ?_; rw [Hst.out]; rintro e w5 ⟨rfl, hx⟩))
    exact ⟨rfl, StepPost.from (w1 := w2) (st := .fault o cd) ⟨rfl, hx⟩ (hb2.mono HBw.out)⟩
set_option maxRecDepth 100000 in
set_option maxHeartbeats 4000000 in
theorem symbol_num (B g : Nat) (s : ByteArray) (i : Nat) (rg : Int) (h0 : 0 ≤ rg) (h2 : rg ≤ 2) (out : List Sp.Sym) (A : Option Addr) (c : Nat) (w : World) (H : Scn B w g s i rg out A c) (hi : i < s.size) (hs : s.size ≤ 1000000000) (hl : out.length ≤ 1000000) (hp : Sp.permitted s[i] = true) (hbo : Sp.bold rg.toNat ((bs s).drop i) = none) (hle : Sp.letter rg.toNat s[i] = false) (hdi : Sp.digit s[i] = true) :
    Calls Tryz.prog 81 #[.pointer (some ⟨g, 0, none⟩)] w (StepPost B w g s i rg out (Sp.symbol rg.toNat ((bs s).drop i))) := by
  have hfin := symbol_eq rg.toNat s i hi
  rw [if_neg (by simp [hp]), hbo] at hfin
  dsimp only at hfin
  rw [if_neg (by simp [hle]), if_pos (by simp [hdi])] at hfin
  rw [hfin]
  generalize hst : Sp.number rg.toNat ((bs s).drop i) = st
  have Hst := Lib.hid hst
  have Hp := Lib.hid hp
  have Hbo := Lib.hid hbo
  have R := H.R
  have c0 := R.c0
  have c1 := R.c1
  have hBw : B ≤ w.heap.size := Nat.le_trans H.base (Nat.le_of_lt H.lt)
  have HBw := Lib.hid hBw
  clear hBw
  have Hle := Lib.hid hle
  have Hdi := Lib.hid hdi
  clear hfin hst hp hbo hle hdi
  cases st with
  | sym k t m =>
    go_enter Tryz.func81, Tryz.ntmps81
    go_wp2_with (first | (go_at_call 132; refine (byte_ok g s i rg i hi Hp.out _ R).mono ?_; rintro e w1 ⟨rfl, rfl⟩) | (go_at_call 133; refine (bold_no g s i rg h0 h2 i (by omega) _ R Hbo.out).mono ?_; rintro e w2 ⟨rfl, hb2⟩; have H2 := H.later hb2; have R2 := H2.R; clear c0 c1; have c0 := R2.c0; have c1 := R2.c1) | (go_at_call 135; refine (letter_c g s i rg h0 _ _ R2).mono ?_; rw [Hle.out]; rintro e w3 ⟨rfl, rfl⟩) | (go_at_call 137; refine (digit_c _ _).mono ?_; rw [Hdi.out]; rintro e w4 ⟨rfl, rfl⟩) | (go_at_call 138; refine (number_c B g s i rg h0 out A c _ H2 (by omega) hs hl).mono ?_; rw [Hst.out]; rintro e w5 ⟨rfl, hx⟩))
    go_end0
    exact StepPost.from (w1 := w2) ⟨rfl, hx⟩ (hb2.mono HBw.out)
  | skip m r =>
    go_enter Tryz.func81, Tryz.ntmps81
    go_wp2_with (first | (go_at_call 132; refine (byte_ok g s i rg i hi Hp.out _ R).mono ?_; rintro e w1 ⟨rfl, rfl⟩) | (go_at_call 133; refine (bold_no g s i rg h0 h2 i (by omega) _ R Hbo.out).mono ?_; rintro e w2 ⟨rfl, hb2⟩; have H2 := H.later hb2; have R2 := H2.R; clear c0 c1; have c0 := R2.c0; have c1 := R2.c1) | (go_at_call 135; refine (letter_c g s i rg h0 _ _ R2).mono ?_; rw [Hle.out]; rintro e w3 ⟨rfl, rfl⟩) | (go_at_call 137; refine (digit_c _ _).mono ?_; rw [Hdi.out]; rintro e w4 ⟨rfl, rfl⟩) | (go_at_call 138; refine (number_c B g s i rg h0 out A c _ H2 (by omega) hs hl).mono ?_; rw [Hst.out]; rintro e w5 ⟨rfl, hx⟩))
    go_end0
    exact StepPost.from (w1 := w2) ⟨rfl, hx⟩ (hb2.mono HBw.out)
  | fault o cd =>
    go_enter Tryz.func81, Tryz.ntmps81
    go_wp2_with (first | (go_at_call 132; refine (byte_ok g s i rg i hi Hp.out _ R).mono ?_; rintro e w1 ⟨rfl, rfl⟩) | (go_at_call 133; refine (bold_no g s i rg h0 h2 i (by omega) _ R Hbo.out).mono ?_; rintro e w2 ⟨rfl, hb2⟩; have H2 := H.later hb2; have R2 := H2.R; clear c0 c1; have c0 := R2.c0; have c1 := R2.c1) | (go_at_call 135; refine (letter_c g s i rg h0 _ _ R2).mono ?_; rw [Hle.out]; rintro e w3 ⟨rfl, rfl⟩) | (go_at_call 137; refine (digit_c _ _).mono ?_; rw [Hdi.out]; rintro e w4 ⟨rfl, rfl⟩) | (go_at_call 138; refine (number_c B g s i rg h0 out A c _ H2 (by omega) hs hl).mono ?_; rw [Hst.out]; rintro e w5 ⟨rfl, hx⟩))
    exact ⟨rfl, StepPost.from (w1 := w2) (st := .fault o cd) ⟨rfl, hx⟩ (hb2.mono HBw.out)⟩
end Go.Proofs.YtjghijeblddijaaGreatDoor
