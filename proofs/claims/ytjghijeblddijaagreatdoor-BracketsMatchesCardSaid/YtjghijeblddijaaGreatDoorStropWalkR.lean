/- Walks: word. -/
import Derived.Test.YtjghijeblddijaaGreatDoorStropWalkI
import Derived.Test.YtjghijeblddijaaGreatDoorStropWalkP
import Derived.Test.YtjghijeblddijaaGreatDoorStropFactsB
import Derived.Test.YtjghijeblddijaaGreatDoorShelf
import Derived.Shelf.Strings.SlTrimAscii
set_option linter.unusedVariables false
namespace Go.Proofs.YtjghijeblddijaaGreatDoor
open Go.RowKit

theorem until_ok (B g : Nat) (s : ByteArray) (i : Nat) (rg : Int) (h0 : 0 ≤ rg) (h2 : rg ≤ 2) (out : List Sp.Sym) (A : Option Addr) (c : Nat) (wl : List UInt8) (n : Nat) (e : Int) (he : e = ((i + n : Nat) : Int)) (w : World) (H : Scn B w g s i rg out A c) (hf : i + n ≤ s.size) (hs : s.size ≤ 140737488355328) (b : List UInt8) (m : Nat)
    (hX : Sp.untilGo rg.toNat wl ((bs s).drop (i + n)) n 0 false = .ok (b, m)) :
    Calls Tryz.prog 205 #[.pointer (some ⟨g, 0, none⟩), .string ⟨wl.toArray⟩, .int .i64 e] w fun e w' => e = .returned (.string ⟨b.toArray⟩) ∧ Scn B w' g s ((i + m : Nat) : Int) rg out A c ∧ Below B w w' := by
  subst he
  refine (until_c B g s i rg h0 h2 out A c ⟨wl.toArray⟩ (i + n) w H (by omega) hf hs).mono ?_
  rw [bs_of, show i + n - i = n by omega, hX]
  exact fun e w' h => h
theorem until_err (B g : Nat) (s : ByteArray) (i : Nat) (rg : Int) (h0 : 0 ≤ rg) (h2 : rg ≤ 2) (out : List Sp.Sym) (A : Option Addr) (c : Nat) (wl : List UInt8) (n : Nat) (e : Int) (he : e = ((i + n : Nat) : Int)) (w : World) (H : Scn B w g s i rg out A c) (hf : i + n ≤ s.size) (hs : s.size ≤ 140737488355328) (o : Nat) (cd : Int)
    (hX : Sp.untilGo rg.toNat wl ((bs s).drop (i + n)) n 0 false = .error (o, cd)) :
    Calls Tryz.prog 205 #[.pointer (some ⟨g, 0, none⟩), .string ⟨wl.toArray⟩, .int .i64 e] w fun e w' => e = .panicked (flt ((i + o : Nat) : Int) cd) ∧ Below B w w' := by
  subst he
  refine (until_c B g s i rg h0 h2 out A c ⟨wl.toArray⟩ (i + n) w H (by omega) hf hs).mono ?_
  rw [bs_of, show i + n - i = n by omega, hX]
  exact fun e w' h => h
theorem trim_c (b : List UInt8) (hb : b.length ≤ 140737488355328) (w : World) :
    Calls Tryz.prog 206 #[.string ⟨b.toArray⟩, .string ⟨#[32, 9, 10]⟩] w fun e w' => e = .returned (.string ⟨(Sp.trim b).toArray⟩) ∧ Below w.heap.size w w' := by
  refine (Any.strings_Trim_laid Tryz.lays160 (by kernel_rfl) ⟨b.toArray⟩ ⟨#[32, 9, 10]⟩ w (by rw [size_of]; omega) (by decide) (ascii_of_all (by decide))).mono ?_
  rintro e w' ⟨rfl, h⟩
  exact ⟨by rw [← Sp.trimS_trim], h⟩
theorem lower_c (b : List UInt8) (hb : b.length ≤ 140737488355328) (ha : ∀ c ∈ b, c.toNat < 128) (w : World) :
    Calls Tryz.prog 130 #[.string ⟨b.toArray⟩] w fun e w' => e = .returned (.string ⟨(b.map Sp.low).toArray⟩) ∧ Below w.heap.size w w' := by
  refine (Tryz.strings_ToLower_ascii ⟨b.toArray⟩ w (by rw [size_of]; omega) (fun j c hj => ha c (List.mem_of_getElem? hj))).mono ?_
  rintro e w' ⟨rfl, h⟩
  exact ⟨by rw [← Sp.toLowerA_low], h⟩

set_option maxRecDepth 100000 in
set_option maxHeartbeats 4000000 in
theorem word_CO_err (B g : Nat) (s : ByteArray) (i : Nat) (rg : Int) (h0 : 0 ≤ rg) (h2 : rg ≤ 2) (out : List Sp.Sym) (A : Option Addr) (c : Nat) (n : Nat) (w : World) (H : Scn B w g s i rg out A c) (hf : i + n ≤ s.size) (hs : s.size ≤ 1000000000) (wl : List UInt8) (hwl : wl = Sp.CO) (o : Nat) (cd : Int) (hX : Sp.untilGo rg.toNat wl ((bs s).drop (i + n)) n 0 false = .error (o, cd)) :
    Calls Tryz.prog 134 #[.pointer (some ⟨g, 0, none⟩), .string ⟨wl.toArray⟩, .int .i64 ((i + n : Nat) : Int)] w (StepPost B w g s i rg out (Sp.word rg.toNat wl n ((bs s).drop i))) := by
  have hfin : Sp.word rg.toNat wl n ((bs s).drop i) = .fault o cd := by
    unfold Sp.word
    rw [if_pos (show wl = Sp.CO ∨ wl = Sp.COMMENT from .inl hwl), List.drop_drop, hX]
  rw [hfin]
  have HX := Lib.hid hX
  have e1 : (wl == [67, 79]) = true := by rw [hwl]; rfl
  clear hX hfin hwl
  go_enter Tryz.func134, Tryz.ntmps134
  go_wp2_with (go_at_call 205; refine (until_err B g s i rg h0 h2 out A c wl n _ (by omega) w H hf (by omega) o cd HX.out).mono ?_; rintro e w' ⟨rfl, hb1⟩)
  exact ⟨rfl, rfl, hb1⟩
set_option maxRecDepth 100000 in
set_option maxHeartbeats 4000000 in
theorem word_CO_ok (B g : Nat) (s : ByteArray) (i : Nat) (rg : Int) (h0 : 0 ≤ rg) (h2 : rg ≤ 2) (out : List Sp.Sym) (A : Option Addr) (c : Nat) (n : Nat) (w : World) (H : Scn B w g s i rg out A c) (hf : i + n ≤ s.size) (hs : s.size ≤ 1000000000) (wl : List UInt8) (hwl : wl = Sp.CO) (b : List UInt8) (m : Nat) (hX : Sp.untilGo rg.toNat wl ((bs s).drop (i + n)) n 0 false = .ok (b, m)) :
    Calls Tryz.prog 134 #[.pointer (some ⟨g, 0, none⟩), .string ⟨wl.toArray⟩, .int .i64 ((i + n : Nat) : Int)] w (StepPost B w g s i rg out (Sp.word rg.toNat wl n ((bs s).drop i))) := by
  have hfin : Sp.word rg.toNat wl n ((bs s).drop i) = .skip m rg.toNat := by
    unfold Sp.word
    rw [if_pos (show wl = Sp.CO ∨ wl = Sp.COMMENT from .inl hwl), List.drop_drop, hX]
  rw [hfin]
  have HX := Lib.hid hX
  have e1 : (wl == [67, 79]) = true := by rw [hwl]; rfl
  clear hX hfin hwl
  go_enter Tryz.func134, Tryz.ntmps134
  go_wp2_with (go_at_call 205; refine (until_ok B g s i rg h0 h2 out A c wl n _ (by omega) w H hf (by omega) b m HX.out).mono ?_; rintro e w' ⟨rfl, H1, hb1⟩)
  go_end0
  refine ⟨rfl, ⟨A, c, ?_⟩, hb1⟩
  rw [Int.toNat_of_nonneg h0]
  exact H1
set_option maxRecDepth 100000 in
set_option maxHeartbeats 4000000 in
theorem word_COMMENT_err (B g : Nat) (s : ByteArray) (i : Nat) (rg : Int) (h0 : 0 ≤ rg) (h2 : rg ≤ 2) (out : List Sp.Sym) (A : Option Addr) (c : Nat) (n : Nat) (w : World) (H : Scn B w g s i rg out A c) (hf : i + n ≤ s.size) (hs : s.size ≤ 1000000000) (wl : List UInt8) (hwl : wl = Sp.COMMENT) (o : Nat) (cd : Int) (hX : Sp.untilGo rg.toNat wl ((bs s).drop (i + n)) n 0 false = .error (o, cd)) :
    Calls Tryz.prog 134 #[.pointer (some ⟨g, 0, none⟩), .string ⟨wl.toArray⟩, .int .i64 ((i + n : Nat) : Int)] w (StepPost B w g s i rg out (Sp.word rg.toNat wl n ((bs s).drop i))) := by
  have hfin : Sp.word rg.toNat wl n ((bs s).drop i) = .fault o cd := by
    unfold Sp.word
    rw [if_pos (show wl = Sp.CO ∨ wl = Sp.COMMENT from .inr hwl), List.drop_drop, hX]
  rw [hfin]
  have HX := Lib.hid hX
  have e1 : (wl == [67, 79]) = false := by rw [hwl]; rfl
  have e2 : (wl == [67, 79, 77, 77, 69, 78, 84]) = true := by rw [hwl]; rfl
  clear hX hfin hwl
  go_enter Tryz.func134, Tryz.ntmps134
  go_wp2_with (go_at_call 205; refine (until_err B g s i rg h0 h2 out A c wl n _ (by omega) w H hf (by omega) o cd HX.out).mono ?_; rintro e w' ⟨rfl, hb1⟩)
  exact ⟨rfl, rfl, hb1⟩
set_option maxRecDepth 100000 in
set_option maxHeartbeats 4000000 in
theorem word_COMMENT_ok (B g : Nat) (s : ByteArray) (i : Nat) (rg : Int) (h0 : 0 ≤ rg) (h2 : rg ≤ 2) (out : List Sp.Sym) (A : Option Addr) (c : Nat) (n : Nat) (w : World) (H : Scn B w g s i rg out A c) (hf : i + n ≤ s.size) (hs : s.size ≤ 1000000000) (wl : List UInt8) (hwl : wl = Sp.COMMENT) (b : List UInt8) (m : Nat) (hX : Sp.untilGo rg.toNat wl ((bs s).drop (i + n)) n 0 false = .ok (b, m)) :
    Calls Tryz.prog 134 #[.pointer (some ⟨g, 0, none⟩), .string ⟨wl.toArray⟩, .int .i64 ((i + n : Nat) : Int)] w (StepPost B w g s i rg out (Sp.word rg.toNat wl n ((bs s).drop i))) := by
  have hfin : Sp.word rg.toNat wl n ((bs s).drop i) = .skip m rg.toNat := by
    unfold Sp.word
    rw [if_pos (show wl = Sp.CO ∨ wl = Sp.COMMENT from .inr hwl), List.drop_drop, hX]
  rw [hfin]
  have HX := Lib.hid hX
  have e1 : (wl == [67, 79]) = false := by rw [hwl]; rfl
  have e2 : (wl == [67, 79, 77, 77, 69, 78, 84]) = true := by rw [hwl]; rfl
  clear hX hfin hwl
  go_enter Tryz.func134, Tryz.ntmps134
  go_wp2_with (go_at_call 205; refine (until_ok B g s i rg h0 h2 out A c wl n _ (by omega) w H hf (by omega) b m HX.out).mono ?_; rintro e w' ⟨rfl, H1, hb1⟩)
  go_end0
  refine ⟨rfl, ⟨A, c, ?_⟩, hb1⟩
  rw [Int.toNat_of_nonneg h0]
  exact H1
set_option maxRecDepth 100000 in
set_option maxHeartbeats 4000000 in
theorem word_PR_err (B g : Nat) (s : ByteArray) (i : Nat) (rg : Int) (h0 : 0 ≤ rg) (h2 : rg ≤ 2) (out : List Sp.Sym) (A : Option Addr) (c : Nat) (n : Nat) (w : World) (H : Scn B w g s i rg out A c) (hf : i + n ≤ s.size) (hs : s.size ≤ 1000000000) (wl : List UInt8) (hwl : wl = Sp.PR) (o : Nat) (cd : Int) (hX : Sp.untilGo rg.toNat wl ((bs s).drop (i + n)) n 0 false = .error (o, cd)) :
    Calls Tryz.prog 134 #[.pointer (some ⟨g, 0, none⟩), .string ⟨wl.toArray⟩, .int .i64 ((i + n : Nat) : Int)] w (StepPost B w g s i rg out (Sp.word rg.toNat wl n ((bs s).drop i))) := by
  have hfin : Sp.word rg.toNat wl n ((bs s).drop i) = .fault o cd := by
    unfold Sp.word
    rw [if_neg (show ¬ (wl = Sp.CO ∨ wl = Sp.COMMENT) by rw [hwl]; decide), if_pos (show wl = Sp.PR ∨ wl = Sp.PRAGMAT from .inl hwl), List.drop_drop, hX]
  rw [hfin]
  have HX := Lib.hid hX
  have e1 : (wl == [67, 79]) = false := by rw [hwl]; rfl
  have e2 : (wl == [67, 79, 77, 77, 69, 78, 84]) = false := by rw [hwl]; rfl
  have e3 : (wl == [80, 82]) = true := by rw [hwl]; rfl
  clear hX hfin hwl
  go_enter Tryz.func134, Tryz.ntmps134
  go_wp2_with (go_at_call 205; refine (until_err B g s i rg h0 h2 out A c wl n _ (by omega) w H hf (by omega) o cd HX.out).mono ?_; rintro e w' ⟨rfl, hb1⟩)
  exact ⟨rfl, rfl, hb1⟩
set_option maxRecDepth 100000 in
set_option maxHeartbeats 4000000 in
theorem word_PR_UPPER (B g : Nat) (s : ByteArray) (i : Nat) (rg : Int) (h0 : 0 ≤ rg) (h2 : rg ≤ 2) (out : List Sp.Sym) (A : Option Addr) (c : Nat) (n : Nat) (w : World) (H : Scn B w g s i rg out A c) (hf : i + n ≤ s.size) (hs : s.size ≤ 1000000000) (wl : List UInt8) (hwl : wl = Sp.PR) (b : List UInt8) (m : Nat) (hX : Sp.untilGo rg.toNat wl ((bs s).drop (i + n)) n 0 false = .ok (b, m)) (hr : (Sp.trim b).map Sp.low = Sp.UPPER) :
    Calls Tryz.prog 134 #[.pointer (some ⟨g, 0, none⟩), .string ⟨wl.toArray⟩, .int .i64 ((i + n : Nat) : Int)] w (StepPost B w g s i rg out (Sp.word rg.toNat wl n ((bs s).drop i))) := by
  have hreg : Sp.regimeOf rg.toNat b = 0 := by
    unfold Sp.regimeOf
    dsimp only
    rw [if_pos hr]
  have hfin : Sp.word rg.toNat wl n ((bs s).drop i) = .skip m 0 := by
    unfold Sp.word
    rw [if_neg (show ¬ (wl = Sp.CO ∨ wl = Sp.COMMENT) by rw [hwl]; decide), if_pos (show wl = Sp.PR ∨ wl = Sp.PRAGMAT from .inl hwl), List.drop_drop, hX]
    dsimp only
    rw [hreg]
  rw [hfin]
  have hbl : b.length ≤ 140737488355328 := by
    have := Sp.untilGo_len _ _ _ _ _ _ _ _ hX
    rw [List.length_drop, bs_length] at this
    omega
  have hba : ∀ c ∈ Sp.trim b, c.toNat < 128 := fun c hc => Sp.untilGo_ascii _ _ _ _ _ _ _ _ hX (fun c hc => by simp at hc) c (Sp.trim_mem b c hc)
  have htl : (Sp.trim b).length ≤ 140737488355328 := Nat.le_trans (Sp.trim_len b) hbl
  generalize hx : (Sp.trim b).map Sp.low = x at *
  have t1 : (x == [117, 112, 112, 101, 114]) = true := beq_iff_eq.2 hr
  have Hx := Lib.hid hx
  have Hbl := Lib.hid hbl
  have Hba := Lib.hid hba
  have Htl := Lib.hid htl
  have HX := Lib.hid hX
  have e1 : (wl == [67, 79]) = false := by rw [hwl]; rfl
  have e2 : (wl == [67, 79, 77, 77, 69, 78, 84]) = false := by rw [hwl]; rfl
  have e3 : (wl == [80, 82]) = true := by rw [hwl]; rfl
  clear hX hfin hwl hx hbl hba htl hreg  hr
  go_enter Tryz.func134, Tryz.ntmps134
  go_wp2_with (first
    | (go_at_call 205; refine (until_ok B g s i rg h0 h2 out A c wl n _ (by omega) w H hf (by omega) b m HX.out).mono ?_; rintro e w1 ⟨rfl, H1, hb1⟩)
    | (go_at_call 206; refine (trim_c b Hbl.out _).mono ?_; rintro e w2 ⟨rfl, hb2⟩; have H2 := H1.later hb2)
    | (go_at_call 130; refine (lower_c (Sp.trim b) Htl.out Hba.out _).mono ?_; rw [Hx.out]; rintro e w3 ⟨rfl, hb3⟩; have H3 := H2.later hb3; have c2 := H3.R.c2; have f2 := free_of_blk H3.blk 2))
  have hB : Below B w w3 := bjoin (bjoin hb1 (Nat.le_trans H1.base (Nat.le_of_lt H1.lt)) hb2) (Nat.le_trans H2.base (Nat.le_of_lt H2.lt)) hb3
  go_end0
  exact ⟨rfl, ⟨A, c, H3.setRg _⟩, hB.setCell H.base _⟩
set_option maxRecDepth 100000 in
set_option maxHeartbeats 4000000 in
theorem word_PR_POINT (B g : Nat) (s : ByteArray) (i : Nat) (rg : Int) (h0 : 0 ≤ rg) (h2 : rg ≤ 2) (out : List Sp.Sym) (A : Option Addr) (c : Nat) (n : Nat) (w : World) (H : Scn B w g s i rg out A c) (hf : i + n ≤ s.size) (hs : s.size ≤ 1000000000) (wl : List UInt8) (hwl : wl = Sp.PR) (b : List UInt8) (m : Nat) (hX : Sp.untilGo rg.toNat wl ((bs s).drop (i + n)) n 0 false = .ok (b, m)) (hn1 : (Sp.trim b).map Sp.low ≠ Sp.UPPER) (hr : (Sp.trim b).map Sp.low = Sp.POINT) :
    Calls Tryz.prog 134 #[.pointer (some ⟨g, 0, none⟩), .string ⟨wl.toArray⟩, .int .i64 ((i + n : Nat) : Int)] w (StepPost B w g s i rg out (Sp.word rg.toNat wl n ((bs s).drop i))) := by
  have hreg : Sp.regimeOf rg.toNat b = 1 := by
    unfold Sp.regimeOf
    dsimp only
    rw [if_neg hn1]; rw [if_pos hr]
  have hfin : Sp.word rg.toNat wl n ((bs s).drop i) = .skip m 1 := by
    unfold Sp.word
    rw [if_neg (show ¬ (wl = Sp.CO ∨ wl = Sp.COMMENT) by rw [hwl]; decide), if_pos (show wl = Sp.PR ∨ wl = Sp.PRAGMAT from .inl hwl), List.drop_drop, hX]
    dsimp only
    rw [hreg]
  rw [hfin]
  have hbl : b.length ≤ 140737488355328 := by
    have := Sp.untilGo_len _ _ _ _ _ _ _ _ hX
    rw [List.length_drop, bs_length] at this
    omega
  have hba : ∀ c ∈ Sp.trim b, c.toNat < 128 := fun c hc => Sp.untilGo_ascii _ _ _ _ _ _ _ _ hX (fun c hc => by simp at hc) c (Sp.trim_mem b c hc)
  have htl : (Sp.trim b).length ≤ 140737488355328 := Nat.le_trans (Sp.trim_len b) hbl
  generalize hx : (Sp.trim b).map Sp.low = x at *
  have t1 : (x == [117, 112, 112, 101, 114]) = false := beq_eq_false_iff_ne.2 hn1
  have t2 : (x == [112, 111, 105, 110, 116]) = true := beq_iff_eq.2 hr
  have Hx := Lib.hid hx
  have Hbl := Lib.hid hbl
  have Hba := Lib.hid hba
  have Htl := Lib.hid htl
  have HX := Lib.hid hX
  have e1 : (wl == [67, 79]) = false := by rw [hwl]; rfl
  have e2 : (wl == [67, 79, 77, 77, 69, 78, 84]) = false := by rw [hwl]; rfl
  have e3 : (wl == [80, 82]) = true := by rw [hwl]; rfl
  clear hX hfin hwl hx hbl hba htl hreg hn1 hr
  go_enter Tryz.func134, Tryz.ntmps134
  go_wp2_with (first
    | (go_at_call 205; refine (until_ok B g s i rg h0 h2 out A c wl n _ (by omega) w H hf (by omega) b m HX.out).mono ?_; rintro e w1 ⟨rfl, H1, hb1⟩)
    | (go_at_call 206; refine (trim_c b Hbl.out _).mono ?_; rintro e w2 ⟨rfl, hb2⟩; have H2 := H1.later hb2)
    | (go_at_call 130; refine (lower_c (Sp.trim b) Htl.out Hba.out _).mono ?_; rw [Hx.out]; rintro e w3 ⟨rfl, hb3⟩; have H3 := H2.later hb3; have c2 := H3.R.c2; have f2 := free_of_blk H3.blk 2))
  have hB : Below B w w3 := bjoin (bjoin hb1 (Nat.le_trans H1.base (Nat.le_of_lt H1.lt)) hb2) (Nat.le_trans H2.base (Nat.le_of_lt H2.lt)) hb3
  go_end0
  exact ⟨rfl, ⟨A, c, H3.setRg _⟩, hB.setCell H.base _⟩
set_option maxRecDepth 100000 in
set_option maxHeartbeats 4000000 in
theorem word_PR_QUOTE (B g : Nat) (s : ByteArray) (i : Nat) (rg : Int) (h0 : 0 ≤ rg) (h2 : rg ≤ 2) (out : List Sp.Sym) (A : Option Addr) (c : Nat) (n : Nat) (w : World) (H : Scn B w g s i rg out A c) (hf : i + n ≤ s.size) (hs : s.size ≤ 1000000000) (wl : List UInt8) (hwl : wl = Sp.PR) (b : List UInt8) (m : Nat) (hX : Sp.untilGo rg.toNat wl ((bs s).drop (i + n)) n 0 false = .ok (b, m)) (hn1 : (Sp.trim b).map Sp.low ≠ Sp.UPPER) (hn2 : (Sp.trim b).map Sp.low ≠ Sp.POINT) (hr : (Sp.trim b).map Sp.low = Sp.QUOTE) :
    Calls Tryz.prog 134 #[.pointer (some ⟨g, 0, none⟩), .string ⟨wl.toArray⟩, .int .i64 ((i + n : Nat) : Int)] w (StepPost B w g s i rg out (Sp.word rg.toNat wl n ((bs s).drop i))) := by
  have hreg : Sp.regimeOf rg.toNat b = 2 := by
    unfold Sp.regimeOf
    dsimp only
    rw [if_neg hn1]; rw [if_neg hn2]; rw [if_pos hr]
  have hfin : Sp.word rg.toNat wl n ((bs s).drop i) = .skip m 2 := by
    unfold Sp.word
    rw [if_neg (show ¬ (wl = Sp.CO ∨ wl = Sp.COMMENT) by rw [hwl]; decide), if_pos (show wl = Sp.PR ∨ wl = Sp.PRAGMAT from .inl hwl), List.drop_drop, hX]
    dsimp only
    rw [hreg]
  rw [hfin]
  have hbl : b.length ≤ 140737488355328 := by
    have := Sp.untilGo_len _ _ _ _ _ _ _ _ hX
    rw [List.length_drop, bs_length] at this
    omega
  have hba : ∀ c ∈ Sp.trim b, c.toNat < 128 := fun c hc => Sp.untilGo_ascii _ _ _ _ _ _ _ _ hX (fun c hc => by simp at hc) c (Sp.trim_mem b c hc)
  have htl : (Sp.trim b).length ≤ 140737488355328 := Nat.le_trans (Sp.trim_len b) hbl
  generalize hx : (Sp.trim b).map Sp.low = x at *
  have t1 : (x == [117, 112, 112, 101, 114]) = false := beq_eq_false_iff_ne.2 hn1
  have t2 : (x == [112, 111, 105, 110, 116]) = false := beq_eq_false_iff_ne.2 hn2
  have t3 : (x == [113, 117, 111, 116, 101]) = true := beq_iff_eq.2 hr
  have Hx := Lib.hid hx
  have Hbl := Lib.hid hbl
  have Hba := Lib.hid hba
  have Htl := Lib.hid htl
  have HX := Lib.hid hX
  have e1 : (wl == [67, 79]) = false := by rw [hwl]; rfl
  have e2 : (wl == [67, 79, 77, 77, 69, 78, 84]) = false := by rw [hwl]; rfl
  have e3 : (wl == [80, 82]) = true := by rw [hwl]; rfl
  clear hX hfin hwl hx hbl hba htl hreg hn1 hn2 hr
  go_enter Tryz.func134, Tryz.ntmps134
  go_wp2_with (first
    | (go_at_call 205; refine (until_ok B g s i rg h0 h2 out A c wl n _ (by omega) w H hf (by omega) b m HX.out).mono ?_; rintro e w1 ⟨rfl, H1, hb1⟩)
    | (go_at_call 206; refine (trim_c b Hbl.out _).mono ?_; rintro e w2 ⟨rfl, hb2⟩; have H2 := H1.later hb2)
    | (go_at_call 130; refine (lower_c (Sp.trim b) Htl.out Hba.out _).mono ?_; rw [Hx.out]; rintro e w3 ⟨rfl, hb3⟩; have H3 := H2.later hb3; have c2 := H3.R.c2; have f2 := free_of_blk H3.blk 2))
  have hB : Below B w w3 := bjoin (bjoin hb1 (Nat.le_trans H1.base (Nat.le_of_lt H1.lt)) hb2) (Nat.le_trans H2.base (Nat.le_of_lt H2.lt)) hb3
  go_end0
  exact ⟨rfl, ⟨A, c, H3.setRg _⟩, hB.setCell H.base _⟩
set_option maxRecDepth 100000 in
set_option maxHeartbeats 4000000 in
theorem word_PR_NONE (B g : Nat) (s : ByteArray) (i : Nat) (rg : Int) (h0 : 0 ≤ rg) (h2 : rg ≤ 2) (out : List Sp.Sym) (A : Option Addr) (c : Nat) (n : Nat) (w : World) (H : Scn B w g s i rg out A c) (hf : i + n ≤ s.size) (hs : s.size ≤ 1000000000) (wl : List UInt8) (hwl : wl = Sp.PR) (b : List UInt8) (m : Nat) (hX : Sp.untilGo rg.toNat wl ((bs s).drop (i + n)) n 0 false = .ok (b, m)) (hn1 : (Sp.trim b).map Sp.low ≠ Sp.UPPER) (hn2 : (Sp.trim b).map Sp.low ≠ Sp.POINT) (hn3 : (Sp.trim b).map Sp.low ≠ Sp.QUOTE) :
    Calls Tryz.prog 134 #[.pointer (some ⟨g, 0, none⟩), .string ⟨wl.toArray⟩, .int .i64 ((i + n : Nat) : Int)] w (StepPost B w g s i rg out (Sp.word rg.toNat wl n ((bs s).drop i))) := by
  have hreg : Sp.regimeOf rg.toNat b = rg.toNat := by
    unfold Sp.regimeOf
    dsimp only
    rw [if_neg hn1]; rw [if_neg hn2]; rw [if_neg hn3]
  have hfin : Sp.word rg.toNat wl n ((bs s).drop i) = .skip m rg.toNat := by
    unfold Sp.word
    rw [if_neg (show ¬ (wl = Sp.CO ∨ wl = Sp.COMMENT) by rw [hwl]; decide), if_pos (show wl = Sp.PR ∨ wl = Sp.PRAGMAT from .inl hwl), List.drop_drop, hX]
    dsimp only
    rw [hreg]
  rw [hfin]
  have hbl : b.length ≤ 140737488355328 := by
    have := Sp.untilGo_len _ _ _ _ _ _ _ _ hX
    rw [List.length_drop, bs_length] at this
    omega
  have hba : ∀ c ∈ Sp.trim b, c.toNat < 128 := fun c hc => Sp.untilGo_ascii _ _ _ _ _ _ _ _ hX (fun c hc => by simp at hc) c (Sp.trim_mem b c hc)
  have htl : (Sp.trim b).length ≤ 140737488355328 := Nat.le_trans (Sp.trim_len b) hbl
  generalize hx : (Sp.trim b).map Sp.low = x at *
  have t1 : (x == [117, 112, 112, 101, 114]) = false := beq_eq_false_iff_ne.2 hn1
  have t2 : (x == [112, 111, 105, 110, 116]) = false := beq_eq_false_iff_ne.2 hn2
  have t3 : (x == [113, 117, 111, 116, 101]) = false := beq_eq_false_iff_ne.2 hn3
  have Hx := Lib.hid hx
  have Hbl := Lib.hid hbl
  have Hba := Lib.hid hba
  have Htl := Lib.hid htl
  have HX := Lib.hid hX
  have e1 : (wl == [67, 79]) = false := by rw [hwl]; rfl
  have e2 : (wl == [67, 79, 77, 77, 69, 78, 84]) = false := by rw [hwl]; rfl
  have e3 : (wl == [80, 82]) = true := by rw [hwl]; rfl
  clear hX hfin hwl hx hbl hba htl hreg hn1 hn2 hn3
  go_enter Tryz.func134, Tryz.ntmps134
  go_wp2_with (first
    | (go_at_call 205; refine (until_ok B g s i rg h0 h2 out A c wl n _ (by omega) w H hf (by omega) b m HX.out).mono ?_; rintro e w1 ⟨rfl, H1, hb1⟩)
    | (go_at_call 206; refine (trim_c b Hbl.out _).mono ?_; rintro e w2 ⟨rfl, hb2⟩; have H2 := H1.later hb2)
    | (go_at_call 130; refine (lower_c (Sp.trim b) Htl.out Hba.out _).mono ?_; rw [Hx.out]; rintro e w3 ⟨rfl, hb3⟩; have H3 := H2.later hb3; have c2 := H3.R.c2; have f2 := free_of_blk H3.blk 2))
  have hB : Below B w w3 := bjoin (bjoin hb1 (Nat.le_trans H1.base (Nat.le_of_lt H1.lt)) hb2) (Nat.le_trans H2.base (Nat.le_of_lt H2.lt)) hb3
  go_end0
  refine ⟨rfl, ⟨A, c, ?_⟩, hB⟩
  rw [Int.toNat_of_nonneg h0]
  exact H3
set_option maxRecDepth 100000 in
set_option maxHeartbeats 4000000 in
theorem word_PRAGMAT_err (B g : Nat) (s : ByteArray) (i : Nat) (rg : Int) (h0 : 0 ≤ rg) (h2 : rg ≤ 2) (out : List Sp.Sym) (A : Option Addr) (c : Nat) (n : Nat) (w : World) (H : Scn B w g s i rg out A c) (hf : i + n ≤ s.size) (hs : s.size ≤ 1000000000) (wl : List UInt8) (hwl : wl = Sp.PRAGMAT) (o : Nat) (cd : Int) (hX : Sp.untilGo rg.toNat wl ((bs s).drop (i + n)) n 0 false = .error (o, cd)) :
    Calls Tryz.prog 134 #[.pointer (some ⟨g, 0, none⟩), .string ⟨wl.toArray⟩, .int .i64 ((i + n : Nat) : Int)] w (StepPost B w g s i rg out (Sp.word rg.toNat wl n ((bs s).drop i))) := by
  have hfin : Sp.word rg.toNat wl n ((bs s).drop i) = .fault o cd := by
    unfold Sp.word
    rw [if_neg (show ¬ (wl = Sp.CO ∨ wl = Sp.COMMENT) by rw [hwl]; decide), if_pos (show wl = Sp.PR ∨ wl = Sp.PRAGMAT from .inr hwl), List.drop_drop, hX]
  rw [hfin]
  have HX := Lib.hid hX
  have e1 : (wl == [67, 79]) = false := by rw [hwl]; rfl
  have e2 : (wl == [67, 79, 77, 77, 69, 78, 84]) = false := by rw [hwl]; rfl
  have e3 : (wl == [80, 82]) = false := by rw [hwl]; rfl
  have e4 : (wl == [80, 82, 65, 71, 77, 65, 84]) = true := by rw [hwl]; rfl
  clear hX hfin hwl
  go_enter Tryz.func134, Tryz.ntmps134
  go_wp2_with (go_at_call 205; refine (until_err B g s i rg h0 h2 out A c wl n _ (by omega) w H hf (by omega) o cd HX.out).mono ?_; rintro e w' ⟨rfl, hb1⟩)
  exact ⟨rfl, rfl, hb1⟩
set_option maxRecDepth 100000 in
set_option maxHeartbeats 4000000 in
theorem word_PRAGMAT_UPPER (B g : Nat) (s : ByteArray) (i : Nat) (rg : Int) (h0 : 0 ≤ rg) (h2 : rg ≤ 2) (out : List Sp.Sym) (A : Option Addr) (c : Nat) (n : Nat) (w : World) (H : Scn B w g s i rg out A c) (hf : i + n ≤ s.size) (hs : s.size ≤ 1000000000) (wl : List UInt8) (hwl : wl = Sp.PRAGMAT) (b : List UInt8) (m : Nat) (hX : Sp.untilGo rg.toNat wl ((bs s).drop (i + n)) n 0 false = .ok (b, m)) (hr : (Sp.trim b).map Sp.low = Sp.UPPER) :
    Calls Tryz.prog 134 #[.pointer (some ⟨g, 0, none⟩), .string ⟨wl.toArray⟩, .int .i64 ((i + n : Nat) : Int)] w (StepPost B w g s i rg out (Sp.word rg.toNat wl n ((bs s).drop i))) := by
  have hreg : Sp.regimeOf rg.toNat b = 0 := by
    unfold Sp.regimeOf
    dsimp only
    rw [if_pos hr]
  have hfin : Sp.word rg.toNat wl n ((bs s).drop i) = .skip m 0 := by
    unfold Sp.word
    rw [if_neg (show ¬ (wl = Sp.CO ∨ wl = Sp.COMMENT) by rw [hwl]; decide), if_pos (show wl = Sp.PR ∨ wl = Sp.PRAGMAT from .inr hwl), List.drop_drop, hX]
    dsimp only
    rw [hreg]
  rw [hfin]
  have hbl : b.length ≤ 140737488355328 := by
    have := Sp.untilGo_len _ _ _ _ _ _ _ _ hX
    rw [List.length_drop, bs_length] at this
    omega
  have hba : ∀ c ∈ Sp.trim b, c.toNat < 128 := fun c hc => Sp.untilGo_ascii _ _ _ _ _ _ _ _ hX (fun c hc => by simp at hc) c (Sp.trim_mem b c hc)
  have htl : (Sp.trim b).length ≤ 140737488355328 := Nat.le_trans (Sp.trim_len b) hbl
  generalize hx : (Sp.trim b).map Sp.low = x at *
  have t1 : (x == [117, 112, 112, 101, 114]) = true := beq_iff_eq.2 hr
  have Hx := Lib.hid hx
  have Hbl := Lib.hid hbl
  have Hba := Lib.hid hba
  have Htl := Lib.hid htl
  have HX := Lib.hid hX
  have e1 : (wl == [67, 79]) = false := by rw [hwl]; rfl
  have e2 : (wl == [67, 79, 77, 77, 69, 78, 84]) = false := by rw [hwl]; rfl
  have e3 : (wl == [80, 82]) = false := by rw [hwl]; rfl
  have e4 : (wl == [80, 82, 65, 71, 77, 65, 84]) = true := by rw [hwl]; rfl
  clear hX hfin hwl hx hbl hba htl hreg  hr
  go_enter Tryz.func134, Tryz.ntmps134
  go_wp2_with (first
    | (go_at_call 205; refine (until_ok B g s i rg h0 h2 out A c wl n _ (by omega) w H hf (by omega) b m HX.out).mono ?_; rintro e w1 ⟨rfl, H1, hb1⟩)
    | (go_at_call 206; refine (trim_c b Hbl.out _).mono ?_; rintro e w2 ⟨rfl, hb2⟩; have H2 := H1.later hb2)
    | (go_at_call 130; refine (lower_c (Sp.trim b) Htl.out Hba.out _).mono ?_; rw [Hx.out]; rintro e w3 ⟨rfl, hb3⟩; have H3 := H2.later hb3; have c2 := H3.R.c2; have f2 := free_of_blk H3.blk 2))
  have hB : Below B w w3 := bjoin (bjoin hb1 (Nat.le_trans H1.base (Nat.le_of_lt H1.lt)) hb2) (Nat.le_trans H2.base (Nat.le_of_lt H2.lt)) hb3
  go_end0
  exact ⟨rfl, ⟨A, c, H3.setRg _⟩, hB.setCell H.base _⟩
set_option maxRecDepth 100000 in
set_option maxHeartbeats 4000000 in
theorem word_PRAGMAT_POINT (B g : Nat) (s : ByteArray) (i : Nat) (rg : Int) (h0 : 0 ≤ rg) (h2 : rg ≤ 2) (out : List Sp.Sym) (A : Option Addr) (c : Nat) (n : Nat) (w : World) (H : Scn B w g s i rg out A c) (hf : i + n ≤ s.size) (hs : s.size ≤ 1000000000) (wl : List UInt8) (hwl : wl = Sp.PRAGMAT) (b : List UInt8) (m : Nat) (hX : Sp.untilGo rg.toNat wl ((bs s).drop (i + n)) n 0 false = .ok (b, m)) (hn1 : (Sp.trim b).map Sp.low ≠ Sp.UPPER) (hr : (Sp.trim b).map Sp.low = Sp.POINT) :
    Calls Tryz.prog 134 #[.pointer (some ⟨g, 0, none⟩), .string ⟨wl.toArray⟩, .int .i64 ((i + n : Nat) : Int)] w (StepPost B w g s i rg out (Sp.word rg.toNat wl n ((bs s).drop i))) := by
  have hreg : Sp.regimeOf rg.toNat b = 1 := by
    unfold Sp.regimeOf
    dsimp only
    rw [if_neg hn1]; rw [if_pos hr]
  have hfin : Sp.word rg.toNat wl n ((bs s).drop i) = .skip m 1 := by
    unfold Sp.word
    rw [if_neg (show ¬ (wl = Sp.CO ∨ wl = Sp.COMMENT) by rw [hwl]; decide), if_pos (show wl = Sp.PR ∨ wl = Sp.PRAGMAT from .inr hwl), List.drop_drop, hX]
    dsimp only
    rw [hreg]
  rw [hfin]
  have hbl : b.length ≤ 140737488355328 := by
    have := Sp.untilGo_len _ _ _ _ _ _ _ _ hX
    rw [List.length_drop, bs_length] at this
    omega
  have hba : ∀ c ∈ Sp.trim b, c.toNat < 128 := fun c hc => Sp.untilGo_ascii _ _ _ _ _ _ _ _ hX (fun c hc => by simp at hc) c (Sp.trim_mem b c hc)
  have htl : (Sp.trim b).length ≤ 140737488355328 := Nat.le_trans (Sp.trim_len b) hbl
  generalize hx : (Sp.trim b).map Sp.low = x at *
  have t1 : (x == [117, 112, 112, 101, 114]) = false := beq_eq_false_iff_ne.2 hn1
  have t2 : (x == [112, 111, 105, 110, 116]) = true := beq_iff_eq.2 hr
  have Hx := Lib.hid hx
  have Hbl := Lib.hid hbl
  have Hba := Lib.hid hba
  have Htl := Lib.hid htl
  have HX := Lib.hid hX
  have e1 : (wl == [67, 79]) = false := by rw [hwl]; rfl
  have e2 : (wl == [67, 79, 77, 77, 69, 78, 84]) = false := by rw [hwl]; rfl
  have e3 : (wl == [80, 82]) = false := by rw [hwl]; rfl
  have e4 : (wl == [80, 82, 65, 71, 77, 65, 84]) = true := by rw [hwl]; rfl
  clear hX hfin hwl hx hbl hba htl hreg hn1 hr
  go_enter Tryz.func134, Tryz.ntmps134
  go_wp2_with (first
    | (go_at_call 205; refine (until_ok B g s i rg h0 h2 out A c wl n _ (by omega) w H hf (by omega) b m HX.out).mono ?_; rintro e w1 ⟨rfl, H1, hb1⟩)
    | (go_at_call 206; refine (trim_c b Hbl.out _).mono ?_; rintro e w2 ⟨rfl, hb2⟩; have H2 := H1.later hb2)
    | (go_at_call 130; refine (lower_c (Sp.trim b) Htl.out Hba.out _).mono ?_; rw [Hx.out]; rintro e w3 ⟨rfl, hb3⟩; have H3 := H2.later hb3; have c2 := H3.R.c2; have f2 := free_of_blk H3.blk 2))
  have hB : Below B w w3 := bjoin (bjoin hb1 (Nat.le_trans H1.base (Nat.le_of_lt H1.lt)) hb2) (Nat.le_trans H2.base (Nat.le_of_lt H2.lt)) hb3
  go_end0
  exact ⟨rfl, ⟨A, c, H3.setRg _⟩, hB.setCell H.base _⟩
set_option maxRecDepth 100000 in
set_option maxHeartbeats 4000000 in
theorem word_PRAGMAT_QUOTE (B g : Nat) (s : ByteArray) (i : Nat) (rg : Int) (h0 : 0 ≤ rg) (h2 : rg ≤ 2) (out : List Sp.Sym) (A : Option Addr) (c : Nat) (n : Nat) (w : World) (H : Scn B w g s i rg out A c) (hf : i + n ≤ s.size) (hs : s.size ≤ 1000000000) (wl : List UInt8) (hwl : wl = Sp.PRAGMAT) (b : List UInt8) (m : Nat) (hX : Sp.untilGo rg.toNat wl ((bs s).drop (i + n)) n 0 false = .ok (b, m)) (hn1 : (Sp.trim b).map Sp.low ≠ Sp.UPPER) (hn2 : (Sp.trim b).map Sp.low ≠ Sp.POINT) (hr : (Sp.trim b).map Sp.low = Sp.QUOTE) :
    Calls Tryz.prog 134 #[.pointer (some ⟨g, 0, none⟩), .string ⟨wl.toArray⟩, .int .i64 ((i + n : Nat) : Int)] w (StepPost B w g s i rg out (Sp.word rg.toNat wl n ((bs s).drop i))) := by
  have hreg : Sp.regimeOf rg.toNat b = 2 := by
    unfold Sp.regimeOf
    dsimp only
    rw [if_neg hn1]; rw [if_neg hn2]; rw [if_pos hr]
  have hfin : Sp.word rg.toNat wl n ((bs s).drop i) = .skip m 2 := by
    unfold Sp.word
    rw [if_neg (show ¬ (wl = Sp.CO ∨ wl = Sp.COMMENT) by rw [hwl]; decide), if_pos (show wl = Sp.PR ∨ wl = Sp.PRAGMAT from .inr hwl), List.drop_drop, hX]
    dsimp only
    rw [hreg]
  rw [hfin]
  have hbl : b.length ≤ 140737488355328 := by
    have := Sp.untilGo_len _ _ _ _ _ _ _ _ hX
    rw [List.length_drop, bs_length] at this
    omega
  have hba : ∀ c ∈ Sp.trim b, c.toNat < 128 := fun c hc => Sp.untilGo_ascii _ _ _ _ _ _ _ _ hX (fun c hc => by simp at hc) c (Sp.trim_mem b c hc)
  have htl : (Sp.trim b).length ≤ 140737488355328 := Nat.le_trans (Sp.trim_len b) hbl
  generalize hx : (Sp.trim b).map Sp.low = x at *
  have t1 : (x == [117, 112, 112, 101, 114]) = false := beq_eq_false_iff_ne.2 hn1
  have t2 : (x == [112, 111, 105, 110, 116]) = false := beq_eq_false_iff_ne.2 hn2
  have t3 : (x == [113, 117, 111, 116, 101]) = true := beq_iff_eq.2 hr
  have Hx := Lib.hid hx
  have Hbl := Lib.hid hbl
  have Hba := Lib.hid hba
  have Htl := Lib.hid htl
  have HX := Lib.hid hX
  have e1 : (wl == [67, 79]) = false := by rw [hwl]; rfl
  have e2 : (wl == [67, 79, 77, 77, 69, 78, 84]) = false := by rw [hwl]; rfl
  have e3 : (wl == [80, 82]) = false := by rw [hwl]; rfl
  have e4 : (wl == [80, 82, 65, 71, 77, 65, 84]) = true := by rw [hwl]; rfl
  clear hX hfin hwl hx hbl hba htl hreg hn1 hn2 hr
  go_enter Tryz.func134, Tryz.ntmps134
  go_wp2_with (first
    | (go_at_call 205; refine (until_ok B g s i rg h0 h2 out A c wl n _ (by omega) w H hf (by omega) b m HX.out).mono ?_; rintro e w1 ⟨rfl, H1, hb1⟩)
    | (go_at_call 206; refine (trim_c b Hbl.out _).mono ?_; rintro e w2 ⟨rfl, hb2⟩; have H2 := H1.later hb2)
    | (go_at_call 130; refine (lower_c (Sp.trim b) Htl.out Hba.out _).mono ?_; rw [Hx.out]; rintro e w3 ⟨rfl, hb3⟩; have H3 := H2.later hb3; have c2 := H3.R.c2; have f2 := free_of_blk H3.blk 2))
  have hB : Below B w w3 := bjoin (bjoin hb1 (Nat.le_trans H1.base (Nat.le_of_lt H1.lt)) hb2) (Nat.le_trans H2.base (Nat.le_of_lt H2.lt)) hb3
  go_end0
  exact ⟨rfl, ⟨A, c, H3.setRg _⟩, hB.setCell H.base _⟩
set_option maxRecDepth 100000 in
set_option maxHeartbeats 4000000 in
theorem word_PRAGMAT_NONE (B g : Nat) (s : ByteArray) (i : Nat) (rg : Int) (h0 : 0 ≤ rg) (h2 : rg ≤ 2) (out : List Sp.Sym) (A : Option Addr) (c : Nat) (n : Nat) (w : World) (H : Scn B w g s i rg out A c) (hf : i + n ≤ s.size) (hs : s.size ≤ 1000000000) (wl : List UInt8) (hwl : wl = Sp.PRAGMAT) (b : List UInt8) (m : Nat) (hX : Sp.untilGo rg.toNat wl ((bs s).drop (i + n)) n 0 false = .ok (b, m)) (hn1 : (Sp.trim b).map Sp.low ≠ Sp.UPPER) (hn2 : (Sp.trim b).map Sp.low ≠ Sp.POINT) (hn3 : (Sp.trim b).map Sp.low ≠ Sp.QUOTE) :
    Calls Tryz.prog 134 #[.pointer (some ⟨g, 0, none⟩), .string ⟨wl.toArray⟩, .int .i64 ((i + n : Nat) : Int)] w (StepPost B w g s i rg out (Sp.word rg.toNat wl n ((bs s).drop i))) := by
  have hreg : Sp.regimeOf rg.toNat b = rg.toNat := by
    unfold Sp.regimeOf
    dsimp only
    rw [if_neg hn1]; rw [if_neg hn2]; rw [if_neg hn3]
  have hfin : Sp.word rg.toNat wl n ((bs s).drop i) = .skip m rg.toNat := by
    unfold Sp.word
    rw [if_neg (show ¬ (wl = Sp.CO ∨ wl = Sp.COMMENT) by rw [hwl]; decide), if_pos (show wl = Sp.PR ∨ wl = Sp.PRAGMAT from .inr hwl), List.drop_drop, hX]
    dsimp only
    rw [hreg]
  rw [hfin]
  have hbl : b.length ≤ 140737488355328 := by
    have := Sp.untilGo_len _ _ _ _ _ _ _ _ hX
    rw [List.length_drop, bs_length] at this
    omega
  have hba : ∀ c ∈ Sp.trim b, c.toNat < 128 := fun c hc => Sp.untilGo_ascii _ _ _ _ _ _ _ _ hX (fun c hc => by simp at hc) c (Sp.trim_mem b c hc)
  have htl : (Sp.trim b).length ≤ 140737488355328 := Nat.le_trans (Sp.trim_len b) hbl
  generalize hx : (Sp.trim b).map Sp.low = x at *
  have t1 : (x == [117, 112, 112, 101, 114]) = false := beq_eq_false_iff_ne.2 hn1
  have t2 : (x == [112, 111, 105, 110, 116]) = false := beq_eq_false_iff_ne.2 hn2
  have t3 : (x == [113, 117, 111, 116, 101]) = false := beq_eq_false_iff_ne.2 hn3
  have Hx := Lib.hid hx
  have Hbl := Lib.hid hbl
  have Hba := Lib.hid hba
  have Htl := Lib.hid htl
  have HX := Lib.hid hX
  have e1 : (wl == [67, 79]) = false := by rw [hwl]; rfl
  have e2 : (wl == [67, 79, 77, 77, 69, 78, 84]) = false := by rw [hwl]; rfl
  have e3 : (wl == [80, 82]) = false := by rw [hwl]; rfl
  have e4 : (wl == [80, 82, 65, 71, 77, 65, 84]) = true := by rw [hwl]; rfl
  clear hX hfin hwl hx hbl hba htl hreg hn1 hn2 hn3
  go_enter Tryz.func134, Tryz.ntmps134
  go_wp2_with (first
    | (go_at_call 205; refine (until_ok B g s i rg h0 h2 out A c wl n _ (by omega) w H hf (by omega) b m HX.out).mono ?_; rintro e w1 ⟨rfl, H1, hb1⟩)
    | (go_at_call 206; refine (trim_c b Hbl.out _).mono ?_; rintro e w2 ⟨rfl, hb2⟩; have H2 := H1.later hb2)
    | (go_at_call 130; refine (lower_c (Sp.trim b) Htl.out Hba.out _).mono ?_; rw [Hx.out]; rintro e w3 ⟨rfl, hb3⟩; have H3 := H2.later hb3; have c2 := H3.R.c2; have f2 := free_of_blk H3.blk 2))
  have hB : Below B w w3 := bjoin (bjoin hb1 (Nat.le_trans H1.base (Nat.le_of_lt H1.lt)) hb2) (Nat.le_trans H2.base (Nat.le_of_lt H2.lt)) hb3
  go_end0
  refine ⟨rfl, ⟨A, c, ?_⟩, hB⟩
  rw [Int.toNat_of_nonneg h0]
  exact H3
set_option maxRecDepth 100000 in
set_option maxHeartbeats 4000000 in
theorem word_bad (B g : Nat) (s : ByteArray) (i : Nat) (rg : Int) (h0 : 0 ≤ rg) (h2 : rg ≤ 2) (out : List Sp.Sym) (A : Option Addr) (c : Nat) (n : Nat) (w : World) (H : Scn B w g s i rg out A c) (hf : i + n ≤ s.size) (hs : s.size ≤ 1000000000) (wl : List UInt8) (hco : ¬ (wl = Sp.CO ∨ wl = Sp.COMMENT)) (hpr : ¬ (wl = Sp.PR ∨ wl = Sp.PRAGMAT)) (hw : wl.length ≤ 1000000000) (hl : out.length ≤ 1000000) (hc : 40 < Sp.count wl) :
    Calls Tryz.prog 134 #[.pointer (some ⟨g, 0, none⟩), .string ⟨wl.toArray⟩, .int .i64 ((i + n : Nat) : Int)] w (StepPost B w g s i rg out (Sp.word rg.toNat wl n ((bs s).drop i))) := by
  have hfin : Sp.word rg.toNat wl n ((bs s).drop i) = .fault 0 3 := by
    unfold Sp.word
    rw [if_neg hco, if_neg hpr, if_pos hc]
  rw [hfin]
  have e1 : (wl == [67, 79]) = false := beq_eq_false_iff_ne.2 fun h => hco (.inl h)
  have e2 : (wl == [67, 79, 77, 77, 69, 78, 84]) = false := beq_eq_false_iff_ne.2 fun h => hco (.inr h)
  have e3 : (wl == [80, 82]) = false := beq_eq_false_iff_ne.2 fun h => hpr (.inl h)
  have e4 : (wl == [80, 82, 65, 71, 77, 65, 84]) = false := beq_eq_false_iff_ne.2 fun h => hpr (.inr h)
  have hwl : wl.length ≤ 140737488355328 := by omega
  have Hwl := Lib.hid hwl
  have Hc := Lib.hid hc
  have c1 := H.R.c1
  have hBw : B ≤ w.heap.size := Nat.le_trans H.base (Nat.le_of_lt H.lt)
  have HBw := Lib.hid hBw
  clear hfin hco hpr hc hw hwl hBw
  go_enter Tryz.func134, Tryz.ntmps134
  go_wp2_with (go_at_call 207; refine (limited_bad_l wl _ _ rfl _ _ Hwl.out _ (by have := Hc.out; omega)).mono ?_; rintro e w1 ⟨rfl, hb1⟩)
  exact ⟨rfl, rfl, hb1.mono HBw.out⟩
set_option maxRecDepth 100000 in
set_option maxHeartbeats 4000000 in
theorem word_sym (B g : Nat) (s : ByteArray) (i : Nat) (rg : Int) (h0 : 0 ≤ rg) (h2 : rg ≤ 2) (out : List Sp.Sym) (A : Option Addr) (c : Nat) (n : Nat) (w : World) (H : Scn B w g s i rg out A c) (hf : i + n ≤ s.size) (hs : s.size ≤ 1000000000) (wl : List UInt8) (hco : ¬ (wl = Sp.CO ∨ wl = Sp.COMMENT)) (hpr : ¬ (wl = Sp.PR ∨ wl = Sp.PRAGMAT)) (hw : wl.length ≤ 1000000000) (hl : out.length ≤ 1000000) (hc : ¬ 40 < Sp.count wl) :
    Calls Tryz.prog 134 #[.pointer (some ⟨g, 0, none⟩), .string ⟨wl.toArray⟩, .int .i64 ((i + n : Nat) : Int)] w (StepPost B w g s i rg out (Sp.word rg.toNat wl n ((bs s).drop i))) := by
  have hfin : Sp.word rg.toNat wl n ((bs s).drop i) = .sym 1 wl n := by
    unfold Sp.word
    rw [if_neg hco, if_neg hpr, if_neg hc]
  rw [hfin]
  have e1 : (wl == [67, 79]) = false := beq_eq_false_iff_ne.2 fun h => hco (.inl h)
  have e2 : (wl == [67, 79, 77, 77, 69, 78, 84]) = false := beq_eq_false_iff_ne.2 fun h => hco (.inr h)
  have e3 : (wl == [80, 82]) = false := beq_eq_false_iff_ne.2 fun h => hpr (.inl h)
  have e4 : (wl == [80, 82, 65, 71, 77, 65, 84]) = false := beq_eq_false_iff_ne.2 fun h => hpr (.inr h)
  have hwl : wl.length ≤ 140737488355328 := by omega
  have Hwl := Lib.hid hwl
  have Hc := Lib.hid hc
  have c1 := H.R.c1
  have hBw : B ≤ w.heap.size := Nat.le_trans H.base (Nat.le_of_lt H.lt)
  have HBw := Lib.hid hBw
  clear hfin hco hpr hc hw hwl hBw
  go_enter Tryz.func134, Tryz.ntmps134
  go_wp2_with (first
    | (go_at_call 207; refine (limited_ok_l wl _ _ rfl _ _ Hwl.out _ (by have := Hc.out; omega)).mono ?_; rintro e w1 ⟨rfl, hb1⟩; have H1 := H.later hb1; clear c1; have c1 := H1.R.c1)
    | (go_at_call 143; refine (add_l wl (i + n) B g s i rg out A c _ _ rfl _ (by omega) _ H1 hl).mono ?_; rintro e w2 ⟨rfl, hs2, hb2⟩))
  go_end0
  exact ⟨rfl, hs2, (hb1.mono HBw.out).trans hb2⟩
theorem word_c (B g : Nat) (s : ByteArray) (i : Nat) (rg : Int) (h0 : 0 ≤ rg) (h2 : rg ≤ 2) (out : List Sp.Sym) (A : Option Addr) (c : Nat) (n : Nat) (w : World) (H : Scn B w g s i rg out A c) (hf : i + n ≤ s.size) (hs : s.size ≤ 1000000000) (wl : List UInt8) (hw : wl.length ≤ 1000000000) (hl : out.length ≤ 1000000) :
    Calls Tryz.prog 134 #[.pointer (some ⟨g, 0, none⟩), .string ⟨wl.toArray⟩, .int .i64 ((i + n : Nat) : Int)] w (StepPost B w g s i rg out (Sp.word rg.toNat wl n ((bs s).drop i))) := by
  by_cases hco : wl = Sp.CO ∨ wl = Sp.COMMENT
  · cases hX : Sp.untilGo rg.toNat wl ((bs s).drop (i + n)) n 0 false with
    | error x =>
      rcases hco with h | h
      · exact word_CO_err B g s i rg h0 h2 out A c n w H hf hs wl h x.1 x.2 hX
      · exact word_COMMENT_err B g s i rg h0 h2 out A c n w H hf hs wl h x.1 x.2 hX
    | ok x =>
      rcases hco with h | h
      · exact word_CO_ok B g s i rg h0 h2 out A c n w H hf hs wl h x.1 x.2 hX
      · exact word_COMMENT_ok B g s i rg h0 h2 out A c n w H hf hs wl h x.1 x.2 hX
  by_cases hpr : wl = Sp.PR ∨ wl = Sp.PRAGMAT
  · cases hX : Sp.untilGo rg.toNat wl ((bs s).drop (i + n)) n 0 false with
    | error x =>
      rcases hpr with h | h
      · exact word_PR_err B g s i rg h0 h2 out A c n w H hf hs wl h x.1 x.2 hX
      · exact word_PRAGMAT_err B g s i rg h0 h2 out A c n w H hf hs wl h x.1 x.2 hX
    | ok x =>
      by_cases r1 : (Sp.trim x.1).map Sp.low = Sp.UPPER
      · rcases hpr with h | h
        · exact word_PR_UPPER B g s i rg h0 h2 out A c n w H hf hs wl h x.1 x.2 hX r1
        · exact word_PRAGMAT_UPPER B g s i rg h0 h2 out A c n w H hf hs wl h x.1 x.2 hX r1
      by_cases r2 : (Sp.trim x.1).map Sp.low = Sp.POINT
      · rcases hpr with h | h
        · exact word_PR_POINT B g s i rg h0 h2 out A c n w H hf hs wl h x.1 x.2 hX r1 r2
        · exact word_PRAGMAT_POINT B g s i rg h0 h2 out A c n w H hf hs wl h x.1 x.2 hX r1 r2
      by_cases r3 : (Sp.trim x.1).map Sp.low = Sp.QUOTE
      · rcases hpr with h | h
        · exact word_PR_QUOTE B g s i rg h0 h2 out A c n w H hf hs wl h x.1 x.2 hX r1 r2 r3
        · exact word_PRAGMAT_QUOTE B g s i rg h0 h2 out A c n w H hf hs wl h x.1 x.2 hX r1 r2 r3
      rcases hpr with h | h
      · exact word_PR_NONE B g s i rg h0 h2 out A c n w H hf hs wl h x.1 x.2 hX r1 r2 r3
      · exact word_PRAGMAT_NONE B g s i rg h0 h2 out A c n w H hf hs wl h x.1 x.2 hX r1 r2 r3
  by_cases hc : 40 < Sp.count wl
  · exact word_bad B g s i rg h0 h2 out A c n w H hf hs wl hco hpr hw hl hc
  · exact word_sym B g s i rg h0 h2 out A c n w H hf hs wl hco hpr hw hl hc
end Go.Proofs.YtjghijeblddijaaGreatDoor
