/- Walks: StropReads. StropReads: Symbols returns the symbols, or the first fault, of the reference, for any text and regime.
  Conditions: those of the row alone (the listed tables lie as the program lays them). -/
import Derived.Test.YtjghijeblddijaaGreatDoorStropAwake
import Derived.Test.YtjghijeblddijaaGreatDoorStropEq
import Derived.Test.YtjghijeblddijaaGreatDoorRefWalkL
import Derived.Test.YtjghijeblddijaaGreatDoorStropRow
import Derived.Test.YtjghijeblddijaaGreatDoorTie
import Derived.Test.YtjghijeblddijaaGreatDoorCards
set_option linter.unusedVariables false
namespace Go.Proofs.YtjghijeblddijaaGreatDoor
open Go.RowKit
theorem rsymbols_row (T : List UInt8) (text : ByteArray) (ht : text = ⟨T.toArray⟩) (r : Int) (l : List Sp.Sym) (n : Nat) (hn : l.length = n) (hne : l ≠ []) (h : Sp.symbols T r = .ok l) (w : World) :
    Calls Tryz.prog 41 #[.string text, .int .i64 r] w fun e w' => ∃ g c, e = .returned (.tuple #[.slice (some ⟨g, 0, none⟩) n c, .agg #[.int .i64 0, .int .i64 0]]) ∧ Below w.heap.size w w' ∧ Row w' g 0 l ∧ w.heap.size ≤ g ∧ g < w'.heap.size ∧ n ≤ c := by
  subst hn
  refine (rsymbols_ok T text ht r l _ rfl h w).mono ?_
  rintro e w' ⟨A, c, rfl, h1, h2⟩
  obtain ⟨g, rfl, h3, h4, h5, h6⟩ := owned_row hne h2
  exact ⟨g, c, rfl, h1, h3, h4, h5, h6⟩
theorem symbols_ne2 {T : List UInt8} {r : Int} {l : List Sp.Sym} (h : Sp.symbols T r = .ok l) : l ≠ [] := by
  obtain ⟨_, _, _, L, _, rfl⟩ := Sp.symbols_ok_scan T r l h
  simp
set_option maxRecDepth 100000 in
set_option maxHeartbeats 4000000 in
theorem equal_nil (w : World) :
    Calls Tryz.prog 42 #[.slice none 0 0, .slice none 0 0] w fun e w' => e = .returned (.bool true) ∧ w' = w := by
  go_enter Tryz.func42, Tryz.ntmps42
  go_wp2
  go_loopw [13] (fun t wr => t = .int .i64 0 ∧ wr = w) (fun _ _ => 0)
  case atStart => exact ⟨rfl, rfl⟩
  case round =>
    obtain ⟨rfl, rfl⟩ := hrel
    go_wp2
    go_ret
    exact ⟨rfl, rfl⟩
set_option maxRecDepth 100000 in
set_option maxHeartbeats 4000000 in
theorem reads_skip (s : ByteArray) (h1 : 600 < s.size) (h2 : s.size ≤ 65536) (r : Int) (w : World) (hS : SignsIn w) (hM : MaxIn w) :
    Calls Tryz.prog 8 #[.string s, .int .i64 r] w fun e w' => e = .returned (.bool true) ∧ Below w.heap.size w w' := by
  have e1 : decide (600 < (s.size : Int)) = true := decide_eq_true (by omega)
  have e1' : decide (600 < s.size) = true := decide_eq_true h1
  have e2 : decide ((s.size : Int) ≤ 65536) = true := decide_eq_true (by omega)
  have e2' : decide (s.size ≤ 65536) = true := decide_eq_true h2
  go_enter Tryz.func8, Tryz.ntmps8
  go_wp2_with (first
    | (go_at_call 34; refine (awake_c _ hS hM).mono ?_; rintro e w1 ⟨rfl, hb1⟩))
  all_goals (go_ret; exact ⟨rfl, hb1⟩)
set_option maxRecDepth 100000 in
set_option maxHeartbeats 8000000 in
theorem reads_err1 (s : ByteArray) (h : s.size ≤ 600) (r : Int) (f : Int × Int) (hl : Sp.symbols (bs s) r = .error f) (w : World) (hS : SignsIn w) (hM : MaxIn w) :
    Calls Tryz.prog 8 #[.string s, .int .i64 r] w fun e w' => e = .returned (.bool true) ∧ Below w.heap.size w w' := by
  have e1 : decide (600 < (s.size : Int)) = false := decide_eq_false (by omega)
  have e1' : decide (600 < s.size) = false := decide_eq_false (by omega)
  have Hl := Lib.hid hl
  clear hl
  have tok1 : Nat := 0
  go_enter Tryz.func8, Tryz.ntmps8
  go_wp2_with (first
    | (go_at_call 34; have tk := tok1; clear tok1; refine (awake_c _ hS hM).mono ?_; rintro e w1 ⟨rfl, hb1⟩; have hS1 := hS.later hb1; have tok2 : Nat := 0)
    | (go_at_call 40; have tk := tok2; clear tok2; refine (symbols_bad (bs s) s (of_bs s).symm r f Hl.out _ hS1).mono ?_; rintro e w3 ⟨rfl, hb3⟩; have hA3 := below_alloc0 (Below.refl _ w3) (.cells #[.int .i64 f.1, .int .i64 f.2] 35); have hB3 := bjoin (bjoin hb1 hb1.size hb3) (bjoin hb1 hb1.size hb3).size hA3; have L3 := heap_alloc_new w3 (.cells #[.int .i64 f.1, .int .i64 f.2] 35); have tok3 : Nat := 0)
    | (go_at_call 41; have tk := tok3; clear tok3; refine (rsymbols_bad (bs s) s (of_bs s).symm r f Hl.out _).mono ?_; rintro e w4 ⟨rfl, hb4⟩; have hA4 := below_alloc0 (Below.refl _ w4) (.cells #[.int .i64 f.1, .int .i64 f.2] 35); have hB4 := bjoin (bjoin hB3 hB3.size hb4) (bjoin hB3 hB3.size hb4).size hA4; have L3' := ((bjoin hb4 hb4.size hA4).block _ (lt_of_blk L3)).trans L3; have d0 := cell_of_blk L3' 0; have d1 := cell_of_blk L3' 1; have tok4 : Nat := 0)
    | (go_at_call 42; have tk := tok4; clear tok4; refine (equal_nil _).mono ?_; rintro e w5 ⟨rfl, rfl⟩))
  all_goals (go_ret; exact ⟨ret_bool (by simp), hB4⟩)
set_option maxRecDepth 100000 in
set_option maxHeartbeats 8000000 in
theorem reads_err2 (s : ByteArray) (h : 65536 < s.size) (r : Int) (f : Int × Int) (hl : Sp.symbols (bs s) r = .error f) (w : World) (hS : SignsIn w) (hM : MaxIn w) :
    Calls Tryz.prog 8 #[.string s, .int .i64 r] w fun e w' => e = .returned (.bool true) ∧ Below w.heap.size w w' := by
  have e1 : decide (600 < (s.size : Int)) = true := decide_eq_true (by omega)
  have e1' : decide (600 < s.size) = true := decide_eq_true (by omega)
  have e2 : decide ((s.size : Int) ≤ 65536) = false := decide_eq_false (by omega)
  have e2' : decide (s.size ≤ 65536) = false := decide_eq_false (by omega)
  have Hl := Lib.hid hl
  clear hl
  have tok1 : Nat := 0
  go_enter Tryz.func8, Tryz.ntmps8
  go_wp2_with (first
    | (go_at_call 34; have tk := tok1; clear tok1; refine (awake_c _ hS hM).mono ?_; rintro e w1 ⟨rfl, hb1⟩; have hS1 := hS.later hb1; have tok2 : Nat := 0)
    | (go_at_call 40; have tk := tok2; clear tok2; refine (symbols_bad (bs s) s (of_bs s).symm r f Hl.out _ hS1).mono ?_; rintro e w3 ⟨rfl, hb3⟩; have hA3 := below_alloc0 (Below.refl _ w3) (.cells #[.int .i64 f.1, .int .i64 f.2] 35); have hB3 := bjoin (bjoin hb1 hb1.size hb3) (bjoin hb1 hb1.size hb3).size hA3; have L3 := heap_alloc_new w3 (.cells #[.int .i64 f.1, .int .i64 f.2] 35); have tok3 : Nat := 0)
    | (go_at_call 41; have tk := tok3; clear tok3; refine (rsymbols_bad (bs s) s (of_bs s).symm r f Hl.out _).mono ?_; rintro e w4 ⟨rfl, hb4⟩; have hA4 := below_alloc0 (Below.refl _ w4) (.cells #[.int .i64 f.1, .int .i64 f.2] 35); have hB4 := bjoin (bjoin hB3 hB3.size hb4) (bjoin hB3 hB3.size hb4).size hA4; have L3' := ((bjoin hb4 hb4.size hA4).block _ (lt_of_blk L3)).trans L3; have d0 := cell_of_blk L3' 0; have d1 := cell_of_blk L3' 1; have tok4 : Nat := 0)
    | (go_at_call 42; have tk := tok4; clear tok4; refine (equal_nil _).mono ?_; rintro e w5 ⟨rfl, rfl⟩))
  all_goals (go_ret; exact ⟨ret_bool (by simp), hB4⟩)
set_option maxRecDepth 100000 in
set_option maxHeartbeats 8000000 in
theorem reads_ok (s : ByteArray) (hs : s.size ≤ 600) (r : Int) (l : List Sp.Sym) (hl : Sp.symbols (bs s) r = .ok l) (w : World) (hS : SignsIn w) (hM : MaxIn w) :
    Calls Tryz.prog 8 #[.string s, .int .i64 r] w fun e w' => e = .returned (.bool true) ∧ Below w.heap.size w w' := by
  have e1 : decide (600 < (s.size : Int)) = false := decide_eq_false (by omega)
  have e1' : decide (600 < s.size) = false := decide_eq_false (by omega)
  have hle : l.length ≤ 1000000 := by
    have := Sp.symbols_len_le hl
    rw [bs_length] at this; omega
  have Hne := Lib.hid (symbols_ne2 hl)
  have Hl := Lib.hid hl
  clear hl
  have tok1 : Nat := 0
  go_enter Tryz.func8, Tryz.ntmps8
  go_wp2_with (first
    | (go_at_call 34; have tk := tok1; clear tok1; refine (awake_c _ hS hM).mono ?_; rintro e w1 ⟨rfl, hb1⟩; have hS1 := hS.later hb1; have tok2 : Nat := 0)
    | (go_at_call 40; have tk := tok2; clear tok2; refine (symbols_row (bs s) s (of_bs s).symm r l _ rfl Hne.out Hl.out _ hS1).mono ?_; rintro e w3 ⟨g3, c3, rfl, hb3, H3, hg3, hk3, hc3⟩; have hA3 := below_alloc0 (Below.refl _ w3) (.cells #[.int .i64 0, .int .i64 0] 35); have hB3 := bjoin (bjoin hb1 hb1.size hb3) (bjoin hb1 hb1.size hb3).size hA3; have L3 := heap_alloc_new w3 (.cells #[.int .i64 0, .int .i64 0] 35); have H3W := H3.later hA3; have tok3 : Nat := 0)
    | (go_at_call 41; have tk := tok3; clear tok3; refine (rsymbols_row (bs s) s (of_bs s).symm r l _ rfl Hne.out Hl.out _).mono ?_; rintro e w4 ⟨g4, c4, rfl, hb4, H4, hg4, hk4, hc4⟩; have hA4 := below_alloc0 (Below.refl _ w4) (.cells #[.int .i64 0, .int .i64 0] 35); have hB4 := bjoin (bjoin hB3 hB3.size hb4) (bjoin hB3 hB3.size hb4).size hA4; have hj := bjoin hb4 hb4.size hA4; have L3' := (hj.block _ (lt_of_blk L3)).trans L3; have d0 := cell_of_blk L3' 0; have d1 := cell_of_blk L3' 1; have H3V := H3W.later hj; have H4V := H4.later hA4; have L4 := heap_alloc_new w4 (.cells #[.int .i64 0, .int .i64 0] 35); have hEq := fun W (hW : Below (w4.alloc (.cells #[.int .i64 0, .int .i64 0] 35)).heap.size (w4.alloc (.cells #[.int .i64 0, .int .i64 0] 35)) W) => equal_n g3 0 c3 g4 0 c4 l _ rfl hle W (H3V.later hW) (H4V.later hW); have tok4 : Nat := 0)
    | (go_at_call 42; have tk := tok4; clear tok4; refine (hEq _ (Below.refl _ _)).mono ?_; rintro e w5 ⟨rfl, m, rfl⟩; have hD := bdrewN (Below.refl (w4.alloc (.cells #[.int .i64 0, .int .i64 0] 35)).heap.size (w4.alloc (.cells #[.int .i64 0, .int .i64 0] 35))) m; have hB5 := bjoin hB4 hB4.size hD; have M3 := (hD.block _ (lt_of_blk L3')).trans L3'; have M4 := (hD.block _ (lt_of_blk L4)).trans L4; clear d0 d1; have d0 := cell_of_blk M3 0; have d1 := cell_of_blk M3 1; have d2 := cell_of_blk M4 0; have d3 := cell_of_blk M4 1))
  all_goals (go_ret; exact ⟨rfl, hB5⟩)
theorem reads_law (s : ByteArray) (r : Int) (w : World) (hS : SignsIn w) (hM : MaxIn w) :
    Calls Tryz.prog 8 #[.string s, .int .i64 r] w fun e w' => e = .returned (.bool true) ∧ Below w.heap.size w w' := by
  by_cases h1 : s.size ≤ 600
  · cases hX : Sp.symbols (bs s) r with
    | error f => exact reads_err1 s h1 r f hX w hS hM
    | ok l => exact reads_ok s h1 r l hX w hS hM
  · by_cases h2 : s.size ≤ 65536
    · exact reads_skip s (by omega) h2 r w hS hM
    · have hX : ∃ f, Sp.symbols (bs s) r = .error f := by
        cases hX : Sp.symbols (bs s) r with
        | error f => exact ⟨f, rfl⟩
        | ok l =>
          obtain ⟨_, _, h3, _⟩ := Sp.symbols_ok_scan _ _ _ hX
          rw [bs_length] at h3; omega
      obtain ⟨f, hX⟩ := hX
      exact reads_err2 s (by omega) r f hX w hS hM
end Go.Proofs.YtjghijeblddijaaGreatDoor
namespace Go.Proofs.YtjghijeblddijaaGreatDoor
open Go.ChangeShapes Go.WideShapes Go.ChangeAt Go.RowKit
open Go.ChangeMaps (open_string shut_string)

set_option maxRecDepth 100000 in
theorem stropReads_contract (H : Type) (enc : TypeId × Value → H) (W : World) (base : Nat) (args : Array Value) (ds gs : List (DataW H)) (before : List MemPlace)
    (hval : ∀ (j : Nat) t v, Tryz.f8.params[j]? = some t → args[j]? = some v → Value.okWide Tryz.prog W .any base t v)
    (hW : DataW.Whole enc Tryz.prog Tryz.f8.params.toList Rows.stropReadsSpec.vars false W args.toList ds gs before) (hL : laidMetH Tryz.prog Rows.stropRegimesRow.laid W) (hsh : W.ShapedOpen Tryz.prog) :
    Calls Tryz.prog 8 args W fun e W' => ∃ v, e = .returned v ∧ Rows.stropReadsSpec.post enc Tryz.prog Tryz.f8 false true false false W args v W' := by
  have hW' := hW
  obtain ⟨p, q, hA0, hV, rfl, hfz, hnd⟩ := hW
  have hA : DataW.TrodAll enc Tryz.prog W 0 (fun _ => true) true Tryz.f8.params.toList args.toList ds p := hA0
  rw [Tryz.params8] at hA hval
  obtain ⟨v0, vs0, d0, ds0, p0, q0, ha0, rfl, rfl, h0, r0⟩ := trodAll_cons hA
  obtain ⟨v1, vs1, d1, ds1, p1, q1, rfl, rfl, rfl, h1, r1⟩ := trodAll_cons r0
  obtain ⟨rfl, rfl, rfl⟩ := trodAll_nil r1
  obtain rfl : args = #[v0, v1] := by cases args; simp_all
  obtain ⟨rfl, rfl⟩ := trodVars_none hV
  obtain ⟨x0, rfl, rfl, rfl, w0⟩ := open_string Tryz.underlying9 (hval 0 9 v0 rfl rfl) h0
  obtain ⟨x1, rfl, rfl, rfl, w1⟩ := open_int Tryz.underlying3 (hval 1 3 v1 rfl rfl) h1
  clear hA0
  simp only [List.append_nil] at hW'
  refine (reads_law x0 x1 W (signs_of_laid hL) (max_of_shape hsh)).mono fun e W' ⟨he, hg⟩ => ?_
  subst he
  exact ⟨_, rfl, post_of_below (pa := []) (pv := []) hW' (fun _ _ _ => trodAll_cons_mk (shut_bool Tryz.underlying4 _) trodAll_mk0)
    (fun _ _ => trodAll_cons_mk (shut_string Tryz.underlying9 w0) (trodAll_cons_mk (shut_int Tryz.underlying3 w1) trodAll_mk0)) (fun _ _ => rfl) rfl
    hg (ok_one (by kernel_rfl) rfl (okWide_bool_mk Tryz.underlying4 _))⟩
set_option maxRecDepth 100000 in
theorem stropReads_reads (os : Os) {H : Type} (enc : TypeId × Value → H) : ∃ places, DataW.whole enc Tryz.prog ((laidW os).forCall (fun _ _ => 0) ⟨#[], #[.string ⟨#[]⟩, .int .i64 0], []⟩).memory Tryz.f8.params.toList Rows.stropReadsSpec.vars false #[Value.string ⟨#[]⟩, .int .i64 0].toList 8 = some ([.lit (.string []), .lit (.int .i64 0)], [], places) :=
  ⟨[], by kernel_rfl⟩
set_option maxRecDepth 100000 in
theorem stropReads_lifted (os : Os) (started : os.Started) (H : Type) (enc : TypeId × Value → H) (F : Stop.Interp) :
    ReturnsInHanded {} Tryz.checked os 8 .any ((OpenSpec.ofChange Rows.stropReadsSpec).preRow enc Tryz.prog Tryz.f8 Rows.stropReadsRow.domain false Rows.stropReadsRow.laid) (((OpenSpec.ofChange Rows.stropReadsSpec).at F).post enc Tryz.prog Tryz.f8 false true false false) := by
  obtain ⟨places, hx⟩ := stropReads_reads os enc
  refine returnsInHanded_of_row (C := Tryz.checked) (s := OpenSpec.ofChange Rows.stropReadsSpec) own_knob started (by kernel_rfl) Tryz.func8
    (witness_of_shape (enc := enc) (C := Tryz.checked) false (laidW os) #[.string ⟨#[]⟩, .int .i64 0] (World.laidAll_os _ _ _) (World.shaped_of_ZipB (by kernel_rfl) (by kernel_rfl)) (by kernel_rfl)
      (OpenSpec.preRow_of_cond 8 hx (by kernel_rfl) (fun k hk => by cases hk) (by kernel_rfl) (laidW_met os _))) ?_
  intro W base args ds gs before hval hW _ _ _ hL hsh _
  exact stropReads_contract H enc W base args ds gs before hval hW hL hsh
theorem stropReads_facts : joinedFacts Tryz.pinned.checked.prog 8 Tryz.f8 (OpenSpec.ofChange Rows.stropReadsSpec).bare Rows.stropReadsRow = true := by kernel_rfl
theorem stropReads_named : Tryz.pinned.checked.prog.funcNamed Rows.stropReadsRow.func = some 8 := by kernel_rfl
theorem stropReads_inst : (Tryz.f8).isInstance Tryz.pinned.checked.prog Rows.stropReadsRow.origin Rows.stropReadsRow.targs := of_decide_eq_true (by kernel_rfl)
theorem stropReads_wrap : (Tryz.f8).isWrapper Tryz.pinned.checked.prog Rows.stropReadsRow.wrapper Rows.stropReadsRow.mainSum := by unfold Func.isWrapper; first | (rw [if_pos (by decide +kernel)]; kernel_rfl) | (rw [if_neg (by decide +kernel)]; exact ⟨rfl, rfl⟩)
theorem stropReads_said : Rows.StropReadsSaid :=
  OpenClaim.holds_of_cond 8 Tryz.f8 rfl rfl rfl rfl rfl rfl rfl ⟨rfl, rfl, rfl, rfl, rfl⟩ rfl rfl rfl rfl rfl stropReads_named Tryz.func8 stropReads_facts stropReads_inst stropReads_wrap
    (fun os started H enc _ F => by rw [OpenClaim.pre_eq_preRow]; exact stropReads_lifted os started H enc F)
theorem stropReads_plain (f : FuncId) (fn : Func) (hf : Tryz.pinned.checked.prog.funcNamed "environ/environlaw04.StropReads" = some f) (hfn : Tryz.pinned.checked.prog.funcs[f]? = some fn) :
    true = Tryz.pinned.checked.prog.looks [] ∧ ∀ (j : Nat) t, fn.params[j]? = some t → Tryz.pinned.checked.prog.wantsStandIn t = false := by
  obtain rfl : f = 8 := Option.some.inj ((show Tryz.prog.funcNamed "environ/environlaw04.StropReads" = some 8 by kernel_rfl).symm.trans hf) |>.symm
  obtain rfl : fn = Tryz.f8 := (Option.some.inj (Tryz.func8.symm.trans hfn)).symm
  refine ⟨by kernel_rfl, fun j t ht => ?_⟩
  rw [Tryz.params8] at ht
  have hm : t ∈ [9, 3] := by simpa using Array.mem_of_getElem? ht
  have hall : ([9, 3].all fun u => !Tryz.prog.wantsStandIn u) = true := by kernel_rfl
  exact (show Tryz.prog.wantsStandIn t = false by simpa using List.all_eq_true.1 hall t hm)
/-- The card. -/
theorem stropReads_holds : Rows.StropReadsCardSaid :=
  Claim7.holds_tied_plain_at .later [] _ _ _ _ stropReads_said (fun _ h => by cases h) (by kernel_rfl) (fun _ h => by cases h) stropReads_row_tie rfl ⟨rfl, rfl⟩ (by kernel_rfl) rfl stropReads_plain (by kernel_rfl)
#print axioms stropReads_holds
end Go.Proofs.YtjghijeblddijaaGreatDoor
