/-
  StropRegimes: for every text and every two regimes the law returns true: a text behind a pragmat that sets a regime has the symbols that it has in that regime by itself (or the fault, further on by the pragmat's length). Conditions: those of the row alone (the listed tables lie as the program lays them).
-/
import Derived.Test.YtjghijeblddijaaGreatDoorStropRegW
import Derived.Test.YtjghijeblddijaaGreatDoorStropRow
import Derived.Test.YtjghijeblddijaaGreatDoorTie
import Derived.Test.YtjghijeblddijaaGreatDoorCards
namespace Go.Proofs.YtjghijeblddijaaGreatDoor
open Go.ChangeShapes Go.WideShapes Go.ChangeAt Go.RowKit
open Go.ChangeMaps (open_string shut_string)

set_option maxRecDepth 100000 in
set_option maxHeartbeats 4000000 in
theorem reg_early_300 (s : ByteArray) (fr to : Int) (h0 : 300 < s.size) (w : World) (hS : SignsIn w) (hM : MaxIn w) :
    Calls Tryz.prog 12 #[.string s, .int .i64 fr, .int .i64 to] w fun e w' => e = .returned (.bool true) ∧ Below w.heap.size w w' := by
  have e1 : decide (300 < (s.size : Int)) = true := by simp; omega
  have e1' : decide (300 < s.size) = true := by simp; omega
  go_enter Tryz.func12, Tryz.ntmps12
  go_wp2_with (first
    | (go_at_call 34; refine (awake_c _ hS hM).mono ?_; rintro e w1 ⟨rfl, hb1⟩))
  all_goals (go_ret; exact ⟨rfl, hb1⟩)
set_option maxRecDepth 100000 in
set_option maxHeartbeats 4000000 in
theorem reg_early_fr0 (s : ByteArray) (fr to : Int) (h0 : ¬ 300 < s.size) (h1 : fr < 0) (w : World) (hS : SignsIn w) (hM : MaxIn w) :
    Calls Tryz.prog 12 #[.string s, .int .i64 fr, .int .i64 to] w fun e w' => e = .returned (.bool true) ∧ Below w.heap.size w w' := by
  have e1 : decide (300 < (s.size : Int)) = false := by simp; omega
  have e1' : decide (300 < s.size) = false := by simp; omega
  have e2 : decide (fr < 0) = true := by simp; omega
  go_enter Tryz.func12, Tryz.ntmps12
  go_wp2_with (first
    | (go_at_call 34; refine (awake_c _ hS hM).mono ?_; rintro e w1 ⟨rfl, hb1⟩))
  all_goals (go_ret; exact ⟨rfl, hb1⟩)
set_option maxRecDepth 100000 in
set_option maxHeartbeats 4000000 in
theorem reg_early_fr2 (s : ByteArray) (fr to : Int) (h0 : ¬ 300 < s.size) (h1 : 2 < fr) (w : World) (hS : SignsIn w) (hM : MaxIn w) :
    Calls Tryz.prog 12 #[.string s, .int .i64 fr, .int .i64 to] w fun e w' => e = .returned (.bool true) ∧ Below w.heap.size w w' := by
  have e1 : decide (300 < (s.size : Int)) = false := by simp; omega
  have e1' : decide (300 < s.size) = false := by simp; omega
  have e2 : decide (fr < 0) = false := by simp; omega
  have e3 : decide (2 < fr) = true := by simp; omega
  go_enter Tryz.func12, Tryz.ntmps12
  go_wp2_with (first
    | (go_at_call 34; refine (awake_c _ hS hM).mono ?_; rintro e w1 ⟨rfl, hb1⟩))
  all_goals (go_ret; exact ⟨rfl, hb1⟩)
set_option maxRecDepth 100000 in
set_option maxHeartbeats 4000000 in
theorem reg_early_to0 (s : ByteArray) (fr to : Int) (h0 : ¬ 300 < s.size) (h1 : 0 ≤ fr) (h2 : fr ≤ 2) (h3 : to < 0) (w : World) (hS : SignsIn w) (hM : MaxIn w) :
    Calls Tryz.prog 12 #[.string s, .int .i64 fr, .int .i64 to] w fun e w' => e = .returned (.bool true) ∧ Below w.heap.size w w' := by
  have e1 : decide (300 < (s.size : Int)) = false := by simp; omega
  have e1' : decide (300 < s.size) = false := by simp; omega
  have e2 : decide (fr < 0) = false := by simp; omega
  have e3 : decide (2 < fr) = false := by simp; omega
  have e4 : decide (to < 0) = true := by simp; omega
  go_enter Tryz.func12, Tryz.ntmps12
  go_wp2_with (first
    | (go_at_call 34; refine (awake_c _ hS hM).mono ?_; rintro e w1 ⟨rfl, hb1⟩))
  all_goals (go_ret; exact ⟨rfl, hb1⟩)
set_option maxRecDepth 100000 in
set_option maxHeartbeats 4000000 in
theorem reg_early_to2 (s : ByteArray) (fr to : Int) (h0 : ¬ 300 < s.size) (h1 : 0 ≤ fr) (h2 : fr ≤ 2) (h3 : 2 < to) (w : World) (hS : SignsIn w) (hM : MaxIn w) :
    Calls Tryz.prog 12 #[.string s, .int .i64 fr, .int .i64 to] w fun e w' => e = .returned (.bool true) ∧ Below w.heap.size w w' := by
  have e1 : decide (300 < (s.size : Int)) = false := by simp; omega
  have e1' : decide (300 < s.size) = false := by simp; omega
  have e2 : decide (fr < 0) = false := by simp; omega
  have e3 : decide (2 < fr) = false := by simp; omega
  have e4 : decide (to < 0) = false := by simp; omega
  have e5 : decide (2 < to) = true := by simp; omega
  go_enter Tryz.func12, Tryz.ntmps12
  go_wp2_with (first
    | (go_at_call 34; refine (awake_c _ hS hM).mono ?_; rintro e w1 ⟨rfl, hb1⟩))
  all_goals (go_ret; exact ⟨rfl, hb1⟩)
theorem regimes_c (s : ByteArray) (fr to : Int) (w : World) (hS : SignsIn w) (hM : MaxIn w) :
    Calls Tryz.prog 12 #[.string s, .int .i64 fr, .int .i64 to] w fun e w' => e = .returned (.bool true) ∧ Below w.heap.size w w' := by
  by_cases h0 : 300 < s.size
  · exact reg_early_300 s fr to h0 w hS hM
  by_cases h1 : fr < 0
  · exact reg_early_fr0 s fr to h0 h1 w hS hM
  by_cases h2 : 2 < fr
  · exact reg_early_fr2 s fr to h0 h2 w hS hM
  by_cases h3 : to < 0
  · exact reg_early_to0 s fr to h0 (by omega) (by omega) h3 w hS hM
  by_cases h4 : 2 < to
  · exact reg_early_to2 s fr to h0 (by omega) (by omega) h4 w hS hM
  have hf : fr = 0 ∨ fr = 1 ∨ fr = 2 := by omega
  have ht : to = 0 ∨ to = 1 ∨ to = 2 := by omega
  clear h1 h2 h3 h4
  cases hX : Sp.symbols (bs s) to with
  | ok l =>
    rcases hf with rfl | rfl | rfl <;> rcases ht with rfl | rfl | rfl
    · exact reg_00_ok s (by omega) l hX w hS hM
    · exact reg_01_ok s (by omega) l hX w hS hM
    · exact reg_02_ok s (by omega) l hX w hS hM
    · exact reg_10_ok s (by omega) l hX w hS hM
    · exact reg_11_ok s (by omega) l hX w hS hM
    · exact reg_12_ok s (by omega) l hX w hS hM
    · exact reg_20_ok s (by omega) l hX w hS hM
    · exact reg_21_ok s (by omega) l hX w hS hM
    · exact reg_22_ok s (by omega) l hX w hS hM
  | error f =>
    rcases hf with rfl | rfl | rfl <;> rcases ht with rfl | rfl | rfl
    · exact reg_00_err s (by omega) f hX w hS hM
    · exact reg_01_err s (by omega) f hX w hS hM
    · exact reg_02_err s (by omega) f hX w hS hM
    · exact reg_10_err s (by omega) f hX w hS hM
    · exact reg_11_err s (by omega) f hX w hS hM
    · exact reg_12_err s (by omega) f hX w hS hM
    · exact reg_20_err s (by omega) f hX w hS hM
    · exact reg_21_err s (by omega) f hX w hS hM
    · exact reg_22_err s (by omega) f hX w hS hM

set_option maxRecDepth 100000 in
theorem regimes_contract (H : Type) (enc : TypeId × Value → H) (W : World) (base : Nat) (args : Array Value) (ds gs : List (DataW H)) (before : List MemPlace)
    (hval : ∀ (j : Nat) t v, Tryz.f12.params[j]? = some t → args[j]? = some v → Value.okWide Tryz.prog W .any base t v)
    (hW : DataW.Whole enc Tryz.prog Tryz.f12.params.toList Rows.stropRegimesSpec.vars false W args.toList ds gs before) (hL : laidMetH Tryz.prog Rows.stropRegimesRow.laid W) (hsh : W.ShapedOpen Tryz.prog) :
    Calls Tryz.prog 12 args W fun e W' => ∃ v, e = .returned v ∧ Rows.stropRegimesSpec.post enc Tryz.prog Tryz.f12 false true false false W args v W' := by
  have hW' := hW
  obtain ⟨p, q, hA0, hV, rfl, hfz, hnd⟩ := hW
  have hA : DataW.TrodAll enc Tryz.prog W 0 (fun _ => true) true Tryz.f12.params.toList args.toList ds p := hA0
  rw [Tryz.params12] at hA hval
  obtain ⟨v0, vs0, d0, ds0, p0, q0, ha0, rfl, rfl, h0, r0⟩ := trodAll_cons hA
  obtain ⟨v1, vs1, d1, ds1, p1, q1, rfl, rfl, rfl, h1, r1⟩ := trodAll_cons r0
  obtain ⟨v2, vs2, d2, ds2, p2, q2, rfl, rfl, rfl, h2, r2⟩ := trodAll_cons r1
  obtain ⟨rfl, rfl, rfl⟩ := trodAll_nil r2
  obtain rfl : args = #[v0, v1, v2] := by cases args; simp_all
  obtain ⟨rfl, rfl⟩ := trodVars_none hV
  obtain ⟨s, rfl, rfl, rfl, hs⟩ := open_string Tryz.underlying9 (hval 0 9 v0 rfl rfl) h0
  obtain ⟨fr, rfl, rfl, rfl, wf1⟩ := open_int Tryz.underlying3 (hval 1 3 v1 rfl rfl) h1
  obtain ⟨to, rfl, rfl, rfl, wf2⟩ := open_int Tryz.underlying3 (hval 2 3 v2 rfl rfl) h2
  clear hA0
  simp only [List.append_nil] at hW'
  refine (regimes_c s fr to W (signs_of_laid hL) (max_of_shape hsh)).mono fun e W' ⟨he, hg⟩ => ?_
  subst he
  exact ⟨_, rfl, post_of_below (pa := []) (pv := []) hW' (fun _ _ _ => trodAll_cons_mk (shut_bool Tryz.underlying4 _) trodAll_mk0)
    (fun _ _ => trodAll_cons_mk (shut_string Tryz.underlying9 hs) (trodAll_cons_mk (shut_int Tryz.underlying3 wf1) (trodAll_cons_mk (shut_int Tryz.underlying3 wf2) trodAll_mk0))) (fun _ _ => rfl) rfl
    hg (ok_one (by kernel_rfl) rfl (okWide_bool_mk Tryz.underlying4 _))⟩
set_option maxRecDepth 100000 in
theorem regimes_reads (os : Os) {H : Type} (enc : TypeId × Value → H) : ∃ places, DataW.whole enc Tryz.prog ((laidW os).forCall (fun _ _ => 0) ⟨#[], #[.string ⟨#[]⟩, .int .i64 0, .int .i64 0], []⟩).memory Tryz.f12.params.toList Rows.stropRegimesSpec.vars false #[Value.string ⟨#[]⟩, .int .i64 0, .int .i64 0].toList 8 = some ([.lit (.string []), .lit (.int .i64 0), .lit (.int .i64 0)], [], places) :=
  ⟨[], by kernel_rfl⟩
set_option maxRecDepth 100000 in
theorem regimes_lifted (os : Os) (started : os.Started) (H : Type) (enc : TypeId × Value → H) (F : Stop.Interp) :
    ReturnsInHanded {} Tryz.checked os 12 .any ((OpenSpec.ofChange Rows.stropRegimesSpec).preRow enc Tryz.prog Tryz.f12 Rows.stropRegimesRow.domain false Rows.stropRegimesRow.laid) (((OpenSpec.ofChange Rows.stropRegimesSpec).at F).post enc Tryz.prog Tryz.f12 false true false false) := by
  obtain ⟨places, hx⟩ := regimes_reads os enc
  refine returnsInHanded_of_row (C := Tryz.checked) (s := OpenSpec.ofChange Rows.stropRegimesSpec) own_knob started (by kernel_rfl) Tryz.func12
    (witness_of_shape (enc := enc) (C := Tryz.checked) false (laidW os) #[.string ⟨#[]⟩, .int .i64 0, .int .i64 0] (World.laidAll_os _ _ _) (World.shaped_of_ZipB (by kernel_rfl) (by kernel_rfl)) (by kernel_rfl)
      (OpenSpec.preRow_of_cond 8 hx (by kernel_rfl) (fun k hk => by cases hk) (by kernel_rfl) (laidW_met os _))) ?_
  intro W base args ds gs before hval hW _ _ _ hL hsh _
  exact regimes_contract H enc W base args ds gs before hval hW hL hsh
theorem regimes_facts : joinedFacts Tryz.pinned.checked.prog 12 Tryz.f12 (OpenSpec.ofChange Rows.stropRegimesSpec).bare Rows.stropRegimesRow = true := by kernel_rfl
theorem regimes_named : Tryz.pinned.checked.prog.funcNamed Rows.stropRegimesRow.func = some 12 := by kernel_rfl
theorem regimes_inst : (Tryz.f12).isInstance Tryz.pinned.checked.prog Rows.stropRegimesRow.origin Rows.stropRegimesRow.targs := of_decide_eq_true (by kernel_rfl)
theorem regimes_wrap : (Tryz.f12).isWrapper Tryz.pinned.checked.prog Rows.stropRegimesRow.wrapper Rows.stropRegimesRow.mainSum := by unfold Func.isWrapper; first | (rw [if_pos (by decide +kernel)]; kernel_rfl) | (rw [if_neg (by decide +kernel)]; exact ⟨rfl, rfl⟩)
theorem regimes_said : Rows.StropRegimesSaid :=
  OpenClaim.holds_of_cond 12 Tryz.f12 rfl rfl rfl rfl rfl rfl rfl ⟨rfl, rfl, rfl, rfl, rfl⟩ rfl rfl rfl rfl rfl regimes_named Tryz.func12 regimes_facts regimes_inst regimes_wrap
    (fun os started H enc _ F => by rw [OpenClaim.pre_eq_preRow]; exact regimes_lifted os started H enc F)
theorem regimes_plain (f : FuncId) (fn : Func) (hf : Tryz.pinned.checked.prog.funcNamed "environ/environlaw04.StropRegimes" = some f) (hfn : Tryz.pinned.checked.prog.funcs[f]? = some fn) :
    true = Tryz.pinned.checked.prog.looks [] ∧ ∀ (j : Nat) t, fn.params[j]? = some t → Tryz.pinned.checked.prog.wantsStandIn t = false := by
  obtain rfl : f = 12 := Option.some.inj ((show Tryz.prog.funcNamed "environ/environlaw04.StropRegimes" = some 12 by kernel_rfl).symm.trans hf) |>.symm
  obtain rfl : fn = Tryz.f12 := (Option.some.inj (Tryz.func12.symm.trans hfn)).symm
  refine ⟨by kernel_rfl, fun j t ht => ?_⟩
  rw [Tryz.params12] at ht
  have hm : t ∈ [9, 3, 3] := by simpa using Array.mem_of_getElem? ht
  have hall : ([9, 3, 3].all fun u => !Tryz.prog.wantsStandIn u) = true := by kernel_rfl
  exact (show Tryz.prog.wantsStandIn t = false by simpa using List.all_eq_true.1 hall t hm)
/-- The card. -/
theorem stropRegimes_holds : Rows.StropRegimesCardSaid :=
  Claim7.holds_tied_plain_at .later [] _ _ _ _ regimes_said (fun _ h => by cases h) (by kernel_rfl) (fun _ h => by cases h) stropRegimes_row_tie rfl ⟨rfl, rfl⟩ (by kernel_rfl) rfl regimes_plain (by kernel_rfl)
#print axioms stropRegimes_holds
end Go.Proofs.YtjghijeblddijaaGreatDoor
