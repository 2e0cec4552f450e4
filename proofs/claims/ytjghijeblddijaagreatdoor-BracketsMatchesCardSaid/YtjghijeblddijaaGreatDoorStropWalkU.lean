/- Walks: symbol, a sign. -/
import Derived.Test.YtjghijeblddijaaGreatDoorStropWalkT
import Derived.Laws.Rows
namespace Go.Proofs.YtjghijeblddijaaGreatDoor
open Go.RowKit

def signsA : Array Value := (Sp.signs.map fun l => Value.string ⟨l.toArray⟩).toArray
theorem signsA_size : signsA.size = 38 := rfl
theorem signsA_get (k : Nat) (hk : k < 38) : ∃ x : List UInt8, Sp.signs[k]? = some x ∧ signsA[k]? = some (.string ⟨x.toArray⟩) ∧ x.length ≤ 4 := by
  have hlen : k < Sp.signs.length := hk
  have hall : ∀ x ∈ Sp.signs, x.length ≤ 4 := by decide
  refine ⟨Sp.signs[k], List.getElem?_eq_getElem hlen, ?_, hall _ (List.getElem_mem hlen)⟩
  simp [signsA, List.getElem?_eq_getElem hlen]
theorem index_signs (SG : Array Value) (k : Nat) (v : Value) (hk : k < 38) (h : SG[k]? = some v) (w : World) : (Instr.index 170 (.agg SG) (.int .i64 (k : Int))).run Tryz.prog w = .ok v w := by
  have hn : (0 : Int) ≤ (k : Int) ∧ (k : Int) < ((38 : Nat) : Int) := by omega
  have hz := Tryz.sizeOf9
  have ha := Tryz.isAgg9
  have hn2 : k < 38 := hk
  simp [Instr.index, run_underlying Tryz.underlying170, asIntOf, hn2, part, go_sem, Sem.run_bind, hz, ha, h]
theorem pfx_c (s : ByteArray) (i : Nat) (x : List UInt8) (w : World) :
    Calls Tryz.prog 142 #[.string (s.extract i s.size), .string ⟨x.toArray⟩] w fun e w' => e = .returned (.bool (x.isPrefixOf ((bs s).drop i))) ∧ w' = w := by
  refine (Tryz.strings_HasPrefix (s.extract i s.size) ⟨x.toArray⟩ w).mono ?_
  rintro e w' ⟨rfl, h⟩
  refine ⟨?_, h⟩
  have e1 : (s.extract i s.size).data.toList = (bs s).drop i := by
    have := bs_extract s i s.size
    rw [List.take_of_length_le (by rw [List.length_drop, bs_length]; omega)] at this
    exact this
  rw [e1]
  rfl
theorem find_none (l : List UInt8) (h : ∀ j : Nat, j < 38 → ∀ x, Sp.signs[j]? = some x → x.isPrefixOf l = false) : Sp.sign l = .fault 0 9 := by
  unfold Sp.sign
  have : Sp.signs.find? (fun s => s.isPrefixOf l) = none := by
    rw [List.find?_eq_none]
    intro x hx
    obtain ⟨j, hj⟩ := List.getElem?_of_mem hx
    have hj2 : j < 38 := by
      have := (List.getElem?_eq_some_iff.1 hj).1
      exact this
    rw [h j hj2 x hj]; decide
  rw [this]
theorem find_some (l : List UInt8) (k : Nat) (x : List UInt8) (hk : Sp.signs[k]? = some x) (hx : x.isPrefixOf l = true) (h : ∀ j : Nat, j < k → ∀ x, Sp.signs[j]? = some x → x.isPrefixOf l = false) : Sp.sign l = .sym 8 x x.length := by
  unfold Sp.sign
  have : Sp.signs.find? (fun s => s.isPrefixOf l) = some x := by
    obtain ⟨hlt, he⟩ := List.getElem?_eq_some_iff.1 hk
    rw [List.find?_eq_some_iff_getElem]
    refine ⟨hx, k, hlt, he, fun j hj => ?_⟩
    rw [h j hj _ (List.getElem?_eq_getElem (by omega))]; rfl
  rw [this]

set_option maxRecDepth 100000 in
set_option maxHeartbeats 8000000 in
theorem symbol_sign1 (B g : Nat) (s : ByteArray) (i : Nat) (rg : Int) (h0 : 0 ≤ rg) (h2 : rg ≤ 2) (out : List Sp.Sym) (A : Option Addr) (c : Nat) (w : World) (H : Scn B w g s i rg out A c) (hi : i < s.size) (hs : s.size ≤ 1000000000) (hl : out.length ≤ 1000000) (SG : Array Value) (tt : TypeId) (fr : Nat × Nat) (hSG : w.heap[0]? = some (.cells SG tt fr)) (hS : SG = signsA) (hp : Sp.permitted s[i] = true) (hbo : Sp.bold rg.toNat ((bs s).drop i) = none) (hle : Sp.letter rg.toNat s[i] = false) (hdi : Sp.digit s[i] = false) (h34 : s[i] ≠ 34) (h36 : s[i] ≠ 36) (h35 : s[i] ≠ 35) (h46 : s[i] ≠ 46) :
    Calls Tryz.prog 81 #[.pointer (some ⟨g, 0, none⟩)] w (StepPost B w g s i rg out (Sp.symbol rg.toNat ((bs s).drop i))) := by
  have hfin := symbol_eq rg.toNat s i hi
  rw [if_neg (by simp [hp]), hbo] at hfin
  dsimp only at hfin
  have h46' : (s[i] == 46 && Sp.digit ((bs s).getD (i + 1) 0)) = false := by rw [beq_eq_false_iff_ne.2 h46]; rfl
  rw [if_neg (by simp [hle]), if_neg (by rw [hdi, h46']; simp), if_neg (by simpa using h34), if_neg (by simpa using h36), if_neg (by simpa using h35)] at hfin
  rw [hfin]
  have Hp := Lib.hid hp
  have Hbo := Lib.hid hbo
  have Hle := Lib.hid hle
  have Hdi := Lib.hid hdi
  have e34 : ((s[i].toNat : Int) == 34) = false := by rw [beq_eq_false_iff_ne]; exact fun h => h34 ((u8eq _ 34 34 rfl).2 h)
  have e36 : ((s[i].toNat : Int) == 36) = false := by rw [beq_eq_false_iff_ne]; exact fun h => h36 ((u8eq _ 36 36 rfl).2 h)
  have e35 : ((s[i].toNat : Int) == 35) = false := by rw [beq_eq_false_iff_ne]; exact fun h => h35 ((u8eq _ 35 35 rfl).2 h)
  have R := H.R
  have c0 := R.c0
  have c1 := R.c1
  have hBw : B ≤ w.heap.size := Nat.le_trans H.base (Nat.le_of_lt H.lt)
  have HBw := Lib.hid hBw
  clear hBw
  have e46 : ((s[i].toNat : Int) == 46) = false := by rw [beq_eq_false_iff_ne]; exact fun h => h46 ((u8eq _ 46 46 rfl).2 h)
  clear h46
  clear hfin hp hbo hle hdi h34 h36 h35 h46'
  have HSG := Lib.hid hSG
  have HS := Lib.hid hS
  have hsz : SG.size = 38 := by rw [hS]; exact signsA_size
  have Hsz := Lib.hid hsz
  clear hSG hS
  go_enter Tryz.func81, Tryz.ntmps81
  go_wp2_with (first | (go_at_call 132; refine (byte_ok g s i rg i hi Hp.out _ R).mono ?_; rintro e w1 ⟨rfl, rfl⟩) | (go_at_call 133; refine (bold_no g s i rg h0 h2 i (by omega) _ R Hbo.out).mono ?_; rintro e w2 ⟨rfl, hb2⟩; have H2 := H.later hb2; have R2 := H2.R; clear c0 c1; have c0 := R2.c0; have c1 := R2.c1) | (go_at_call 135; refine (letter_c g s i rg h0 _ _ R2).mono ?_; rw [Hle.out]; rintro e w3 ⟨rfl, rfl⟩) | (go_at_call 137; refine (digit_c _ _).mono ?_; rw [Hdi.out]; rintro e w4 ⟨rfl, rfl⟩))
  go_quiet (first | (go_at_call 137; exact Calls.quiet_of_same ((digit_c _ _).mono fun _ _ h => ⟨h.1, h.2.symm⟩)))
  have hb3 := bdrewN hb2 nq
  have H3 := H.later hb3
  have hSG3 : (w2.drewN nq).heap[0]? = some (.cells SG tt fr) := (hb3.block _ (lt_of_blk HSG.out)).trans HSG.out
  generalize hW : w2.drewN nq = W at *
  clear hW hb2 H2 R2
  clear c0 c1
  go_wp2_with (refine wpList_load_row rfl 170 _ rfl 0 rfl tt _ fr _ hSG3 Tryz.underlying170 rfl ?hi ?_)
  case hi => rw [Hsz.out]; kernel_rfl
  go_loopw [25] (fun t wr => ∃ k : Nat, k ≤ 38 ∧ t = .int .i64 k ∧ Below w.heap.size w wr ∧ Hid (∀ j : Nat, j < k → ∀ x, Sp.signs[j]? = some x → x.isPrefixOf ((bs s).drop i) = false)) (fun t _ => 38 - (intOf t).toNat)
  case atStart => exact ⟨0, by omega, rfl, hb3, Lib.hid fun j hj => absurd hj (Nat.not_lt_zero j)⟩
  case round =>
    obtain ⟨k, hk, rfl, hB, hh⟩ := hrel
    have H4 := H.later hB
    have R4 := H4.R
    have c0 := R4.c0
    have c1 := R4.c1
    clear H3 hSG3 hb3
    by_cases hlt : k < 38
    · obtain ⟨x, hx1, hx2, hx3⟩ := signsA_get k hlt
      have hget : SG[k]? = some (.string ⟨x.toArray⟩) := by rw [HS.out]; exact hx2
      have hix := index_signs SG k _ hlt hget
      have Hx1 := Lib.hid hx1
      clear hx1 hx2 hget
      have x4 : IntKind.i64.wrap ((i : Int) + (x.length : Int)) = (i : Int) + (x.length : Int) := IntWalk.i64_in _ (by omega)
      cases hpf : x.isPrefixOf ((bs s).drop i) with
      | true =>
        have Hpf := Lib.hid hpf
        clear hpf
        go_wp2
        go_quiet (first | (go_at_call 142; exact Calls.quiet_of_same ((pfx_c s i x _).mono fun _ _ h => ⟨h.1.trans (congrArg (fun b => Ending.returned (Value.bool b)) Hpf.out), h.2⟩)))
        have H5 := H4.later (bdrewN (Below.refl _ _) nq)
        have R5 := H5.R
        clear c0 c1
        have c1 := R5.c1
        have hB5 : Below B w (wr.drewN nq) := bdrewN (hB.mono HBw.out) nq
        generalize hW5 : wr.drewN nq = W5 at *
        clear hW5 H4 R4 hB
        go_wp2
        go_still_tail 13, (by kernel_rfl)
        go_wp2_with (first | (go_at_call 143; refine (add_l x (i + x.length) B g s i rg out A c _ _ rfl _ (by omega) _ (H5.later (Below.refl _ _).drew) hl).mono ?_; rintro e w6 ⟨rfl, hs6, hb6⟩))
        rw [find_some _ k x Hx1.out Hpf.out hh.out]
        go_end0
        exact ⟨rfl, hs6, (hB5.drew).trans hb6⟩
      | false =>
        have Hpf := Lib.hid hpf
        clear hpf
        go_wp2
        go_quiet (first | (go_at_call 142; exact Calls.quiet_of_same ((pfx_c s i x _).mono fun _ _ h => ⟨h.1.trans (congrArg (fun b => Ending.returned (Value.bool b)) Hpf.out), h.2⟩)))
        go_wp2
        go_roundw
        case rel =>
          refine ⟨k + 1, by omega, by go_num, bdrewN hB nq, Lib.hid fun j hj y hy => ?_⟩
          by_cases hjk : j = k
          · subst hjk
            rw [Hx1.out] at hy
            injection hy with hy
            rw [← hy]; exact Hpf.out
          · exact hh.out j (by omega) y hy
        case measure => simp [intOf]; omega
    · go_wp2_with (first | (go_at_call 144; refine (stop_c _ _ _ _).mono ?_; rintro e w5 ⟨rfl, rfl⟩))
      rw [find_none _ fun j hj => hh.out j (by omega)]
      exact ⟨rfl, rfl, hB.mono HBw.out⟩
set_option maxRecDepth 100000 in
set_option maxHeartbeats 8000000 in
theorem symbol_sign2 (B g : Nat) (s : ByteArray) (i : Nat) (rg : Int) (h0 : 0 ≤ rg) (h2 : rg ≤ 2) (out : List Sp.Sym) (A : Option Addr) (c : Nat) (w : World) (H : Scn B w g s i rg out A c) (hi : i < s.size) (hs : s.size ≤ 1000000000) (hl : out.length ≤ 1000000) (SG : Array Value) (tt : TypeId) (fr : Nat × Nat) (hSG : w.heap[0]? = some (.cells SG tt fr)) (hS : SG = signsA) (hp : Sp.permitted s[i] = true) (hbo : Sp.bold rg.toNat ((bs s).drop i) = none) (hle : Sp.letter rg.toNat s[i] = false) (hdi : Sp.digit s[i] = false) (h34 : s[i] ≠ 34) (h36 : s[i] ≠ 36) (h35 : s[i] ≠ 35) (h46 : s[i] = 46) (hi1 : s.size ≤ i + 1) :
    Calls Tryz.prog 81 #[.pointer (some ⟨g, 0, none⟩)] w (StepPost B w g s i rg out (Sp.symbol rg.toNat ((bs s).drop i))) := by
  have hfin := symbol_eq rg.toNat s i hi
  rw [if_neg (by simp [hp]), hbo] at hfin
  dsimp only at hfin
  have h46' : (s[i] == 46 && Sp.digit ((bs s).getD (i + 1) 0)) = false := by
    rw [show (bs s).getD (i + 1) 0 = 0 from by rw [List.getD, List.getElem?_eq_none (by rw [bs_length]; exact hi1)]; rfl, show Sp.digit 0 = false from by decide, Bool.and_false]
  rw [if_neg (by simp [hle]), if_neg (by rw [hdi, h46']; simp), if_neg (by simpa using h34), if_neg (by simpa using h36), if_neg (by simpa using h35)] at hfin
  rw [hfin]
  have Hp := Lib.hid hp
  have Hbo := Lib.hid hbo
  have Hle := Lib.hid hle
  have Hdi := Lib.hid hdi
  have e34 : ((s[i].toNat : Int) == 34) = false := by rw [beq_eq_false_iff_ne]; exact fun h => h34 ((u8eq _ 34 34 rfl).2 h)
  have e36 : ((s[i].toNat : Int) == 36) = false := by rw [beq_eq_false_iff_ne]; exact fun h => h36 ((u8eq _ 36 36 rfl).2 h)
  have e35 : ((s[i].toNat : Int) == 35) = false := by rw [beq_eq_false_iff_ne]; exact fun h => h35 ((u8eq _ 35 35 rfl).2 h)
  have R := H.R
  have c0 := R.c0
  have c1 := R.c1
  have hBw : B ≤ w.heap.size := Nat.le_trans H.base (Nat.le_of_lt H.lt)
  have HBw := Lib.hid hBw
  clear hBw
  have e46 : ((s[i].toNat : Int) == 46) = true := by rw [h46]; rfl
  have y2 : decide ((i : Int) + 1 < (s.size : Int)) = false := by simp; omega
  have y4 : IntKind.i64.wrap ((i : Int) + 1) = (i : Int) + 1 := IntWalk.i64_in _ (by omega)
  clear h46
  clear hfin hp hbo hle hdi h34 h36 h35 h46'
  have HSG := Lib.hid hSG
  have HS := Lib.hid hS
  have hsz : SG.size = 38 := by rw [hS]; exact signsA_size
  have Hsz := Lib.hid hsz
  clear hSG hS
  go_enter Tryz.func81, Tryz.ntmps81
  go_wp2_with (first | (go_at_call 132; refine (byte_ok g s i rg i hi Hp.out _ R).mono ?_; rintro e w1 ⟨rfl, rfl⟩) | (go_at_call 133; refine (bold_no g s i rg h0 h2 i (by omega) _ R Hbo.out).mono ?_; rintro e w2 ⟨rfl, hb2⟩; have H2 := H.later hb2; have R2 := H2.R; clear c0 c1; have c0 := R2.c0; have c1 := R2.c1) | (go_at_call 135; refine (letter_c g s i rg h0 _ _ R2).mono ?_; rw [Hle.out]; rintro e w3 ⟨rfl, rfl⟩) | (go_at_call 137; refine (digit_c _ _).mono ?_; rw [Hdi.out]; rintro e w4 ⟨rfl, rfl⟩))
  go_quiet (first | (go_at_call 137; exact Calls.quiet_of_same ((digit_c _ _).mono fun _ _ h => ⟨h.1, h.2.symm⟩)))
  have hb3 := bdrewN hb2 nq
  have H3 := H.later hb3
  have hSG3 : (w2.drewN nq).heap[0]? = some (.cells SG tt fr) := (hb3.block _ (lt_of_blk HSG.out)).trans HSG.out
  generalize hW : w2.drewN nq = W at *
  clear hW hb2 H2 R2
  clear c0 c1 y2 y4
  go_wp2_with (refine wpList_load_row rfl 170 _ rfl 0 rfl tt _ fr _ hSG3 Tryz.underlying170 rfl ?hi ?_)
  case hi => rw [Hsz.out]; kernel_rfl
  go_loopw [25] (fun t wr => ∃ k : Nat, k ≤ 38 ∧ t = .int .i64 k ∧ Below w.heap.size w wr ∧ Hid (∀ j : Nat, j < k → ∀ x, Sp.signs[j]? = some x → x.isPrefixOf ((bs s).drop i) = false)) (fun t _ => 38 - (intOf t).toNat)
  case atStart => exact ⟨0, by omega, rfl, hb3, Lib.hid fun j hj => absurd hj (Nat.not_lt_zero j)⟩
  case round =>
    obtain ⟨k, hk, rfl, hB, hh⟩ := hrel
    have H4 := H.later hB
    have R4 := H4.R
    have c0 := R4.c0
    have c1 := R4.c1
    clear H3 hSG3 hb3
    by_cases hlt : k < 38
    · obtain ⟨x, hx1, hx2, hx3⟩ := signsA_get k hlt
      have hget : SG[k]? = some (.string ⟨x.toArray⟩) := by rw [HS.out]; exact hx2
      have hix := index_signs SG k _ hlt hget
      have Hx1 := Lib.hid hx1
      clear hx1 hx2 hget
      have x4 : IntKind.i64.wrap ((i : Int) + (x.length : Int)) = (i : Int) + (x.length : Int) := IntWalk.i64_in _ (by omega)
      cases hpf : x.isPrefixOf ((bs s).drop i) with
      | true =>
        have Hpf := Lib.hid hpf
        clear hpf
        go_wp2
        go_quiet (first | (go_at_call 142; exact Calls.quiet_of_same ((pfx_c s i x _).mono fun _ _ h => ⟨h.1.trans (congrArg (fun b => Ending.returned (Value.bool b)) Hpf.out), h.2⟩)))
        have H5 := H4.later (bdrewN (Below.refl _ _) nq)
        have R5 := H5.R
        clear c0 c1
        have c1 := R5.c1
        have hB5 : Below B w (wr.drewN nq) := bdrewN (hB.mono HBw.out) nq
        generalize hW5 : wr.drewN nq = W5 at *
        clear hW5 H4 R4 hB
        go_wp2
        go_still_tail 13, (by kernel_rfl)
        go_wp2_with (first | (go_at_call 143; refine (add_l x (i + x.length) B g s i rg out A c _ _ rfl _ (by omega) _ (H5.later (Below.refl _ _).drew) hl).mono ?_; rintro e w6 ⟨rfl, hs6, hb6⟩))
        rw [find_some _ k x Hx1.out Hpf.out hh.out]
        go_end0
        exact ⟨rfl, hs6, (hB5.drew).trans hb6⟩
      | false =>
        have Hpf := Lib.hid hpf
        clear hpf
        go_wp2
        go_quiet (first | (go_at_call 142; exact Calls.quiet_of_same ((pfx_c s i x _).mono fun _ _ h => ⟨h.1.trans (congrArg (fun b => Ending.returned (Value.bool b)) Hpf.out), h.2⟩)))
        go_wp2
        go_roundw
        case rel =>
          refine ⟨k + 1, by omega, by go_num, bdrewN hB nq, Lib.hid fun j hj y hy => ?_⟩
          by_cases hjk : j = k
          · subst hjk
            rw [Hx1.out] at hy
            injection hy with hy
            rw [← hy]; exact Hpf.out
          · exact hh.out j (by omega) y hy
        case measure => simp [intOf]; omega
    · go_wp2_with (first | (go_at_call 144; refine (stop_c _ _ _ _).mono ?_; rintro e w5 ⟨rfl, rfl⟩))
      rw [find_none _ fun j hj => hh.out j (by omega)]
      exact ⟨rfl, rfl, hB.mono HBw.out⟩
set_option maxRecDepth 100000 in
set_option maxHeartbeats 8000000 in
theorem symbol_sign3 (B g : Nat) (s : ByteArray) (i : Nat) (rg : Int) (h0 : 0 ≤ rg) (h2 : rg ≤ 2) (out : List Sp.Sym) (A : Option Addr) (c : Nat) (w : World) (H : Scn B w g s i rg out A c) (hi : i < s.size) (hs : s.size ≤ 1000000000) (hl : out.length ≤ 1000000) (SG : Array Value) (tt : TypeId) (fr : Nat × Nat) (hSG : w.heap[0]? = some (.cells SG tt fr)) (hS : SG = signsA) (hp : Sp.permitted s[i] = true) (hbo : Sp.bold rg.toNat ((bs s).drop i) = none) (hle : Sp.letter rg.toNat s[i] = false) (hdi : Sp.digit s[i] = false) (h34 : s[i] ≠ 34) (h36 : s[i] ≠ 36) (h35 : s[i] ≠ 35) (h46 : s[i] = 46) (hi1 : i + 1 < s.size) (hd1 : Sp.digit s[i + 1] = false) :
    Calls Tryz.prog 81 #[.pointer (some ⟨g, 0, none⟩)] w (StepPost B w g s i rg out (Sp.symbol rg.toNat ((bs s).drop i))) := by
  have hfin := symbol_eq rg.toNat s i hi
  rw [if_neg (by simp [hp]), hbo] at hfin
  dsimp only at hfin
  have h46' : (s[i] == 46 && Sp.digit ((bs s).getD (i + 1) 0)) = false := by
    rw [bs_get s (i + 1) hi1, hd1, Bool.and_false]
  have Hd1 := Lib.hid hd1
  rw [if_neg (by simp [hle]), if_neg (by rw [hdi, h46']; simp), if_neg (by simpa using h34), if_neg (by simpa using h36), if_neg (by simpa using h35)] at hfin
  rw [hfin]
  have Hp := Lib.hid hp
  have Hbo := Lib.hid hbo
  have Hle := Lib.hid hle
  have Hdi := Lib.hid hdi
  have e34 : ((s[i].toNat : Int) == 34) = false := by rw [beq_eq_false_iff_ne]; exact fun h => h34 ((u8eq _ 34 34 rfl).2 h)
  have e36 : ((s[i].toNat : Int) == 36) = false := by rw [beq_eq_false_iff_ne]; exact fun h => h36 ((u8eq _ 36 36 rfl).2 h)
  have e35 : ((s[i].toNat : Int) == 35) = false := by rw [beq_eq_false_iff_ne]; exact fun h => h35 ((u8eq _ 35 35 rfl).2 h)
  have R := H.R
  have c0 := R.c0
  have c1 := R.c1
  have hBw : B ≤ w.heap.size := Nat.le_trans H.base (Nat.le_of_lt H.lt)
  have HBw := Lib.hid hBw
  clear hBw
  have e46 : ((s[i].toNat : Int) == 46) = true := by rw [h46]; rfl
  have y1 : (i : Int) + 1 < s.size := by omega
  have y0 : (0 : Int) ≤ (i : Int) + 1 := by omega
  have y3 : ((i : Int) + 1).toNat = i + 1 := by omega
  have y2 : decide ((i : Int) + 1 < (s.size : Int)) = true := by simp; omega
  have y4 : IntKind.i64.wrap ((i : Int) + 1) = (i : Int) + 1 := IntWalk.i64_in _ (by omega)
  clear h46 hd1
  clear hfin hp hbo hle hdi h34 h36 h35 h46'
  have HSG := Lib.hid hSG
  have HS := Lib.hid hS
  have hsz : SG.size = 38 := by rw [hS]; exact signsA_size
  have Hsz := Lib.hid hsz
  clear hSG hS
  go_enter Tryz.func81, Tryz.ntmps81
  go_wp2_with (first | (go_at_call 132; refine (byte_ok g s i rg i hi Hp.out _ R).mono ?_; rintro e w1 ⟨rfl, rfl⟩) | (go_at_call 133; refine (bold_no g s i rg h0 h2 i (by omega) _ R Hbo.out).mono ?_; rintro e w2 ⟨rfl, hb2⟩; have H2 := H.later hb2; have R2 := H2.R; clear c0 c1; have c0 := R2.c0; have c1 := R2.c1) | (go_at_call 135; refine (letter_c g s i rg h0 _ _ R2).mono ?_; rw [Hle.out]; rintro e w3 ⟨rfl, rfl⟩) | (go_at_call 137; refine (digit_c _ _).mono ?_; rw [Hdi.out]; rintro e w4 ⟨rfl, rfl⟩))
  go_quiet (first | (go_at_call 137; exact Calls.quiet_of_same ((digit_c _ _).mono fun _ _ h => ⟨h.1.trans (congrArg (fun b => Ending.returned (Value.bool b)) Hd1.out), h.2.symm⟩)))
  have hb3 := bdrewN hb2 nq
  have H3 := H.later hb3
  have hSG3 : (w2.drewN nq).heap[0]? = some (.cells SG tt fr) := (hb3.block _ (lt_of_blk HSG.out)).trans HSG.out
  generalize hW : w2.drewN nq = W at *
  clear hW hb2 H2 R2
  clear c0 c1 y2 y4
  go_wp2_with (refine wpList_load_row rfl 170 _ rfl 0 rfl tt _ fr _ hSG3 Tryz.underlying170 rfl ?hi ?_)
  case hi => rw [Hsz.out]; kernel_rfl
  go_loopw [25] (fun t wr => ∃ k : Nat, k ≤ 38 ∧ t = .int .i64 k ∧ Below w.heap.size w wr ∧ Hid (∀ j : Nat, j < k → ∀ x, Sp.signs[j]? = some x → x.isPrefixOf ((bs s).drop i) = false)) (fun t _ => 38 - (intOf t).toNat)
  case atStart => exact ⟨0, by omega, rfl, hb3, Lib.hid fun j hj => absurd hj (Nat.not_lt_zero j)⟩
  case round =>
    obtain ⟨k, hk, rfl, hB, hh⟩ := hrel
    have H4 := H.later hB
    have R4 := H4.R
    have c0 := R4.c0
    have c1 := R4.c1
    clear H3 hSG3 hb3
    by_cases hlt : k < 38
    · obtain ⟨x, hx1, hx2, hx3⟩ := signsA_get k hlt
      have hget : SG[k]? = some (.string ⟨x.toArray⟩) := by rw [HS.out]; exact hx2
      have hix := index_signs SG k _ hlt hget
      have Hx1 := Lib.hid hx1
      clear hx1 hx2 hget
      have x4 : IntKind.i64.wrap ((i : Int) + (x.length : Int)) = (i : Int) + (x.length : Int) := IntWalk.i64_in _ (by omega)
      cases hpf : x.isPrefixOf ((bs s).drop i) with
      | true =>
        have Hpf := Lib.hid hpf
        clear hpf
        go_wp2
        go_quiet (first | (go_at_call 142; exact Calls.quiet_of_same ((pfx_c s i x _).mono fun _ _ h => ⟨h.1.trans (congrArg (fun b => Ending.returned (Value.bool b)) Hpf.out), h.2⟩)))
        have H5 := H4.later (bdrewN (Below.refl _ _) nq)
        have R5 := H5.R
        clear c0 c1
        have c1 := R5.c1
        have hB5 : Below B w (wr.drewN nq) := bdrewN (hB.mono HBw.out) nq
        generalize hW5 : wr.drewN nq = W5 at *
        clear hW5 H4 R4 hB
        go_wp2
        go_still_tail 13, (by kernel_rfl)
        go_wp2_with (first | (go_at_call 143; refine (add_l x (i + x.length) B g s i rg out A c _ _ rfl _ (by omega) _ (H5.later (Below.refl _ _).drew) hl).mono ?_; rintro e w6 ⟨rfl, hs6, hb6⟩))
        rw [find_some _ k x Hx1.out Hpf.out hh.out]
        go_end0
        exact ⟨rfl, hs6, (hB5.drew).trans hb6⟩
      | false =>
        have Hpf := Lib.hid hpf
        clear hpf
        go_wp2
        go_quiet (first | (go_at_call 142; exact Calls.quiet_of_same ((pfx_c s i x _).mono fun _ _ h => ⟨h.1.trans (congrArg (fun b => Ending.returned (Value.bool b)) Hpf.out), h.2⟩)))
        go_wp2
        go_roundw
        case rel =>
          refine ⟨k + 1, by omega, by go_num, bdrewN hB nq, Lib.hid fun j hj y hy => ?_⟩
          by_cases hjk : j = k
          · subst hjk
            rw [Hx1.out] at hy
            injection hy with hy
            rw [← hy]; exact Hpf.out
          · exact hh.out j (by omega) y hy
        case measure => simp [intOf]; omega
    · go_wp2_with (first | (go_at_call 144; refine (stop_c _ _ _ _).mono ?_; rintro e w5 ⟨rfl, rfl⟩))
      rw [find_none _ fun j hj => hh.out j (by omega)]
      exact ⟨rfl, rfl, hB.mono HBw.out⟩
/-- The table of signs lies where the program has laid it. -/
def SignsIn (w : World) : Prop := ∃ tt fr, w.heap[0]? = some (.cells signsA tt fr)
theorem SignsIn.later {w w' : World} (h : SignsIn w) (hb : Below w.heap.size w w') : SignsIn w' := by
  obtain ⟨tt, fr, h⟩ := h
  exact ⟨tt, fr, (hb.block _ (lt_of_blk h)).trans h⟩

theorem symbol_c (B g : Nat) (s : ByteArray) (i : Nat) (rg : Int) (h0 : 0 ≤ rg) (h2 : rg ≤ 2) (out : List Sp.Sym) (A : Option Addr) (c : Nat) (w : World) (H : Scn B w g s i rg out A c) (hi : i < s.size) (hs : s.size ≤ 1000000000) (hl : out.length ≤ 1000000) (hS : SignsIn w) :
    Calls Tryz.prog 81 #[.pointer (some ⟨g, 0, none⟩)] w (StepPost B w g s i rg out (Sp.symbol rg.toNat ((bs s).drop i))) := by
  obtain ⟨tt, fr, hSG⟩ := hS
  cases hp : Sp.permitted s[i] with
  | false => exact symbol_bad B g s i rg h0 h2 out A c w H hi hs hl hp
  | true =>
  cases hbo : Sp.bold rg.toNat ((bs s).drop i) with
  | some x => exact symbol_word B g s i rg h0 h2 out A c w H hi hs hl hp x.1 x.2 hbo
  | none =>
  cases hle : Sp.letter rg.toNat s[i] with
  | true => exact symbol_tag B g s i rg h0 h2 out A c w H hi hs hl hp hbo hle
  | false =>
  cases hdi : Sp.digit s[i] with
  | true => exact symbol_num B g s i rg h0 h2 out A c w H hi hs hl hp hbo hle hdi
  | false =>
  by_cases h34 : s[i] = 34
  · exact symbol_quoted B g s i rg h0 h2 out A c w H hi hs hl hp hbo hle hdi h34
  by_cases h36 : s[i] = 36
  · exact symbol_format B g s i rg h0 h2 out A c w H hi hs hl hp hbo hle hdi h36
  by_cases h35 : s[i] = 35
  · exact symbol_comment B g s i rg h0 h2 out A c w H hi hs hl hp hbo hle hdi h35
  by_cases h46 : s[i] = 46
  · by_cases hi1 : i + 1 < s.size
    · cases hd1 : Sp.digit s[i + 1] with
      | true => exact symbol_num2 B g s i rg h0 h2 out A c w H hi hs hl hp hbo hle hdi h46 hi1 hd1
      | false => exact symbol_sign3 B g s i rg h0 h2 out A c w H hi hs hl _ tt fr hSG rfl hp hbo hle hdi h34 h36 h35 h46 hi1 hd1
    · exact symbol_sign2 B g s i rg h0 h2 out A c w H hi hs hl _ tt fr hSG rfl hp hbo hle hdi h34 h36 h35 h46 (by omega)
  exact symbol_sign1 B g s i rg h0 h2 out A c w H hi hs hl _ tt fr hSG rfl hp hbo hle hdi h34 h36 h35 h46
end Go.Proofs.YtjghijeblddijaaGreatDoor
