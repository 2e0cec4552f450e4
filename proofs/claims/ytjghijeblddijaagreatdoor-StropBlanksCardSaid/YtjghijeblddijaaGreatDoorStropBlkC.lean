/-
  StropBlanks: for every text, regime and place the law returns true: comments and further blanks before a symbol change nothing but where the symbols stand.
  Conditions: those of the row alone (the listed tables lie as the program lays them).
-/
import Derived.Test.YtjghijeblddijaaGreatDoorStropBlkW
import Derived.Test.YtjghijeblddijaaGreatDoorStropRow
import Derived.Test.YtjghijeblddijaaGreatDoorTie
import Derived.Test.YtjghijeblddijaaGreatDoorCards
namespace Go.Proofs.YtjghijeblddijaaGreatDoor
open Go.ChangeShapes Go.WideShapes Go.ChangeAt Go.RowKit
open Go.ChangeMaps (open_string shut_string)

set_option maxRecDepth 100000 in
theorem stropBlanks_contract (H : Type) (enc : TypeId × Value → H) (W : World) (base : Nat) (args : Array Value) (ds gs : List (DataW H)) (before : List MemPlace)
    (hval : ∀ (j : Nat) t v, Tryz.f11.params[j]? = some t → args[j]? = some v → Value.okWide Tryz.prog W .any base t v)
    (hW : DataW.Whole enc Tryz.prog Tryz.f11.params.toList Rows.stropBlanksSpec.vars false W args.toList ds gs before) (hL : laidMetH Tryz.prog Rows.stropRegimesRow.laid W) (hsh : W.ShapedOpen Tryz.prog) :
    Calls Tryz.prog 11 args W fun e W' => ∃ v, e = .returned v ∧ Rows.stropBlanksSpec.post enc Tryz.prog Tryz.f11 false true false false W args v W' := by
  have hW' := hW
  obtain ⟨p, q, hA0, hV, rfl, hfz, hnd⟩ := hW
  have hA : DataW.TrodAll enc Tryz.prog W 0 (fun _ => true) true Tryz.f11.params.toList args.toList ds p := hA0
  rw [Tryz.params11] at hA hval
  obtain ⟨v0, vs0, d0, ds0, p0, q0, ha0, rfl, rfl, h0, r0⟩ := trodAll_cons hA
  obtain ⟨v1, vs1, d1, ds1, p1, q1, rfl, rfl, rfl, h1, r1⟩ := trodAll_cons r0
  obtain ⟨v2, vs2, d2, ds2, p2, q2, rfl, rfl, rfl, h2, r2⟩ := trodAll_cons r1
  obtain ⟨rfl, rfl, rfl⟩ := trodAll_nil r2
  obtain rfl : args = #[v0, v1, v2] := by cases args; simp_all
  obtain ⟨rfl, rfl⟩ := trodVars_none hV
  obtain ⟨x0, rfl, rfl, rfl, w0⟩ := open_string Tryz.underlying9 (hval 0 9 v0 rfl rfl) h0
  obtain ⟨x1, rfl, rfl, rfl, w1⟩ := open_int Tryz.underlying3 (hval 1 3 v1 rfl rfl) h1
  obtain ⟨x2, rfl, rfl, rfl, w2⟩ := open_int Tryz.underlying5 (hval 2 5 v2 rfl rfl) h2
  clear hA0
  simp only [List.append_nil] at hW'
  refine (blanks_law x0 x1 x2 (bounds_u8 w2) W (signs_of_laid hL) (max_of_shape hsh)).mono fun e W' ⟨he, hg⟩ => ?_
  subst he
  exact ⟨_, rfl, post_of_below (pa := []) (pv := []) hW' (fun _ _ _ => trodAll_cons_mk (shut_bool Tryz.underlying4 _) trodAll_mk0)
    (fun _ _ => trodAll_cons_mk (shut_string Tryz.underlying9 w0) (trodAll_cons_mk (shut_int Tryz.underlying3 w1) (trodAll_cons_mk (shut_int Tryz.underlying5 w2) trodAll_mk0))) (fun _ _ => rfl) rfl
    hg (ok_one (by kernel_rfl) rfl (okWide_bool_mk Tryz.underlying4 _))⟩
set_option maxRecDepth 100000 in
theorem stropBlanks_reads (os : Os) {H : Type} (enc : TypeId × Value → H) : ∃ places, DataW.whole enc Tryz.prog ((laidW os).forCall (fun _ _ => 0) ⟨#[], #[.string ⟨#[]⟩, .int .i64 0, .int .u8 0], []⟩).memory Tryz.f11.params.toList Rows.stropBlanksSpec.vars false #[Value.string ⟨#[]⟩, .int .i64 0, .int .u8 0].toList 8 = some ([.lit (.string []), .lit (.int .i64 0), .lit (.int .u8 0)], [], places) :=
  ⟨[], by kernel_rfl⟩
set_option maxRecDepth 100000 in
theorem stropBlanks_lifted (os : Os) (started : os.Started) (H : Type) (enc : TypeId × Value → H) (F : Stop.Interp) :
    ReturnsInHanded {} Tryz.checked os 11 .any ((OpenSpec.ofChange Rows.stropBlanksSpec).preRow enc Tryz.prog Tryz.f11 Rows.stropBlanksRow.domain false Rows.stropBlanksRow.laid) (((OpenSpec.ofChange Rows.stropBlanksSpec).at F).post enc Tryz.prog Tryz.f11 false true false false) := by
  obtain ⟨places, hx⟩ := stropBlanks_reads os enc
  refine returnsInHanded_of_row (C := Tryz.checked) (s := OpenSpec.ofChange Rows.stropBlanksSpec) own_knob started (by kernel_rfl) Tryz.func11
    (witness_of_shape (enc := enc) (C := Tryz.checked) false (laidW os) #[.string ⟨#[]⟩, .int .i64 0, .int .u8 0] (World.laidAll_os _ _ _) (World.shaped_of_ZipB (by kernel_rfl) (by kernel_rfl)) (by kernel_rfl)
      (OpenSpec.preRow_of_cond 8 hx (by kernel_rfl) (fun k hk => by cases hk) (by kernel_rfl) (laidW_met os _))) ?_
  intro W base args ds gs before hval hW _ _ _ hL hsh _
  exact stropBlanks_contract H enc W base args ds gs before hval hW hL hsh
theorem stropBlanks_facts : joinedFacts Tryz.pinned.checked.prog 11 Tryz.f11 (OpenSpec.ofChange Rows.stropBlanksSpec).bare Rows.stropBlanksRow = true := by kernel_rfl
theorem stropBlanks_named : Tryz.pinned.checked.prog.funcNamed Rows.stropBlanksRow.func = some 11 := by kernel_rfl
theorem stropBlanks_inst : (Tryz.f11).isInstance Tryz.pinned.checked.prog Rows.stropBlanksRow.origin Rows.stropBlanksRow.targs := of_decide_eq_true (by kernel_rfl)
theorem stropBlanks_wrap : (Tryz.f11).isWrapper Tryz.pinned.checked.prog Rows.stropBlanksRow.wrapper Rows.stropBlanksRow.mainSum := by unfold Func.isWrapper; first | (rw [if_pos (by decide +kernel)]; kernel_rfl) | (rw [if_neg (by decide +kernel)]; exact ⟨rfl, rfl⟩)
theorem stropBlanks_said : Rows.StropBlanksSaid :=
  OpenClaim.holds_of_cond 11 Tryz.f11 rfl rfl rfl rfl rfl rfl rfl ⟨rfl, rfl, rfl, rfl, rfl⟩ rfl rfl rfl rfl rfl stropBlanks_named Tryz.func11 stropBlanks_facts stropBlanks_inst stropBlanks_wrap
    (fun os started H enc _ F => by rw [OpenClaim.pre_eq_preRow]; exact stropBlanks_lifted os started H enc F)
theorem stropBlanks_plain (f : FuncId) (fn : Func) (hf : Tryz.pinned.checked.prog.funcNamed "environ/environlaw04.StropBlanks" = some f) (hfn : Tryz.pinned.checked.prog.funcs[f]? = some fn) :
    true = Tryz.pinned.checked.prog.looks [] ∧ ∀ (j : Nat) t, fn.params[j]? = some t → Tryz.pinned.checked.prog.wantsStandIn t = false := by
  obtain rfl : f = 11 := Option.some.inj ((show Tryz.prog.funcNamed "environ/environlaw04.StropBlanks" = some 11 by kernel_rfl).symm.trans hf) |>.symm
  obtain rfl : fn = Tryz.f11 := (Option.some.inj (Tryz.func11.symm.trans hfn)).symm
  refine ⟨by kernel_rfl, fun j t ht => ?_⟩
  rw [Tryz.params11] at ht
  have hm : t ∈ [9, 3, 5] := by simpa using Array.mem_of_getElem? ht
  have hall : ([9, 3, 5].all fun u => !Tryz.prog.wantsStandIn u) = true := by kernel_rfl
  exact (show Tryz.prog.wantsStandIn t = false by simpa using List.all_eq_true.1 hall t hm)
/-- The card. -/
theorem stropBlanks_holds : Rows.StropBlanksCardSaid :=
  Claim7.holds_tied_plain_at .later [] _ _ _ _ stropBlanks_said (fun _ h => by cases h) (by kernel_rfl) (fun _ h => by cases h) stropBlanks_row_tie rfl ⟨rfl, rfl⟩ (by kernel_rfl) rfl stropBlanks_plain (by kernel_rfl)
#print axioms stropBlanks_holds
end Go.Proofs.YtjghijeblddijaaGreatDoor
