/- Walks of chapter 05: BracketsMatches. BracketsMatches: Match of Match is the index; what lies between a bracket and its match is matched within; what lies outside is matched outside.
  Conditions: those of the row alone (the listed tables lie as the program lays them). -/
import Derived.Test.YtjghijeblddijaaGreatDoorBrkAwake
import Derived.Deep.OwnRows
import Derived.Test.YtjghijeblddijaaGreatDoorStropSyms
import Derived.Test.YtjghijeblddijaaGreatDoorTie
import Derived.Test.YtjghijeblddijaaGreatDoorCards
set_option linter.unusedVariables false
namespace Go.Proofs.YtjghijeblddijaaGreatDoor
open Go.RowKit
theorem Lies.isSlice {w : World} {v : Value} {l : List Sp.Sym} (h : Lies w v l) : ∃ A c, v = .slice A l.length c := by
  rcases h with ⟨a, c, h1, rfl⟩ | ⟨g, o, c, h1, _⟩
  · exact ⟨a, c, h1⟩
  · exact ⟨_, c, h1⟩
theorem matches1_tells (w : World) : SymTells w 22 #[] (fun x => x.kind == 0) := by
  refine ⟨enters_of Tryz.func22 (by kernel_rfl) rfl, fun W x hW => ?_⟩
  obtain ⟨k, t, p⟩ := x
  unfold symV
  dsimp only
  go_enter Tryz.func22, Tryz.ntmps22
  go_wp2
  go_ret
  exact ⟨rfl, below_alloc0 (Below.refl _ _) _⟩
theorem idxM_c (v : Value) (l : List Sp.Sym) (hl : l.length ≤ 1000000) (w : World) (H : Lies w v l) :
    Calls Tryz.prog 21 #[v, .func (.func 22) #[] #[]] w fun e w' => e = .returned (.int .i64 (idx (fun x => x.kind == 0) l)) ∧ Below w.heap.size w w' := by
  rcases H with ⟨a, c, rfl, rfl⟩ | ⟨g, o, c, rfl, h2, h3, h4⟩
  · refine (indexFuncB_nil a c _ w).mono ?_
    rintro e w1 ⟨rfl, rfl⟩
    exact ⟨rfl, Below.refl _ _⟩
  · exact indexFunc_c g o c l hl _ _ _ w h4 (matches1_tells w)
set_option maxRecDepth 100000 in
set_option maxHeartbeats 4000000 in
theorem matches_long (v : Value) (l : List Sp.Sym) (hl : l.length ≤ 9223372036854775807) (h : 120 < l.length) (w : World) (H : Lies w v l) (hS : SignsIn w) :
    Calls Tryz.prog 4 #[v] w fun e w' => e = .returned (.bool true) ∧ Below w.heap.size w w' := by
  obtain ⟨A, c, rfl⟩ := H.isSlice
  have e1 : decide (120 < (l.length : Int)) = true := decide_eq_true (by omega)
  have e2 : decide (120 < l.length) = true := decide_eq_true h
  clear h
  go_enter Tryz.func4, Tryz.ntmps4
  go_wp2_with (first
    | (go_at_call 14; refine (awake5_c _ hS).mono ?_; rintro e w1 ⟨rfl, hb1⟩))
  all_goals (go_ret; exact ⟨rfl, hb1⟩)
set_option maxRecDepth 100000 in
set_option maxHeartbeats 4000000 in
theorem matches_bad (v : Value) (l : List Sp.Sym) (h : l.length ≤ 120) (f : Int × Int) (hs : Bk.skeleton l = .error f) (w : World) (H : Lies w v l) (hS : SignsIn w) :
    Calls Tryz.prog 4 #[v] w fun e w' => e = .returned (.bool true) ∧ Below w.heap.size w w' := by
  obtain ⟨A, c, rfl⟩ := H.isSlice
  have e1 : decide (120 < (l.length : Int)) = false := decide_eq_false (by omega)
  have e2 : decide (120 < l.length) = false := decide_eq_false (by omega)
  have hne : (f.2 != 0) = true := bne_iff_ne.2 (Bk.skeleton_fault _ _ hs)
  have Hs := Lib.hid hs
  have Hl := Lib.hid h
  clear h hs
  go_enter Tryz.func4, Tryz.ntmps4
  go_wp2_with (first
    | (go_at_call 14; refine (awake5_c _ hS).mono ?_; rintro e w1 ⟨rfl, hb1⟩)
    | (go_at_call 17; refine (bSkel_c _ l (by have := Hl.out; omega) _ (H.later hb1)).mono ?_; rw [Hs.out]; rintro e w2 ⟨hb2, rfl⟩))
  all_goals (go_ret; exact ⟨rfl, below_alloc0 (below_alloc0 (bjoin hb1 hb1.size hb2) _) _⟩)
set_option maxRecDepth 100000 in
set_option maxHeartbeats 16000000 in
theorem matches_main (v : Value) (l : List Sp.Sym) (h : l.length ≤ 120) (n : Nat) (s : List Int) (kk : Bk.Fo) (hs : Bk.skeleton l = .ok (.node (-1) n s kk .nil)) (hwf : Bk.WFo (-1) (n : Int) kk) (hn : n ≤ l.length)
    (hidx : (idx (fun x => x.kind == 0) l = -1 ∧ l.length = n) ∨ idx (fun x => x.kind == 0) l = (n : Int)) (w : World) (H : Lies w v l) (hS : SignsIn w) :
    Calls Tryz.prog 4 #[v] w fun e w' => e = .returned (.bool true) ∧ Below w.heap.size w w' := by
  have hm : ∀ i : Nat, i < n → ∃ m : Nat, Bk.find kk i = (m : Int) ∧ m < n := fun i hi => by
    have h1 := Bk.find_in (i := (i : Int)) (by omega) (by omega) hwf
    exact ⟨(Bk.find kk i).toNat, by omega, by omega⟩
  have hmat : ∀ i : Nat, i < n → Bk.matched l i = (Bk.find kk i, 0, 0) := fun i hi => by
    unfold Bk.matched
    rw [hs]
    dsimp only
    rw [if_neg (by omega)]
  have hback : ∀ (i m : Nat), i < n → Bk.find kk i = (m : Int) → Bk.find kk m = (i : Int) := fun i m hi he => by
    rw [← he]; exact Bk.find_find hwf i (by omega) (by omega)
  have hnest : ∀ (i k m j : Nat), i < n → k < n → Bk.find kk i = (m : Int) → Bk.find kk k = (j : Int) → i < m → k ≠ i → k ≠ m → ((i < k ∧ k < m) ↔ (i < j ∧ j < m)) := fun i k m j hi hk h1 h2 h3 h4 h5 => by
    have h6 := Bk.find_nest hwf i k (by omega) (by omega) (by omega) (by omega) (by omega) (by omega) (by rw [h1]; omega)
    rw [h1, h2] at h6
    omega
  obtain ⟨A, c, rfl⟩ := H.isSlice
  generalize hlm : l.length = mL at *
  have e1 : decide (120 < (mL : Int)) = false := decide_eq_false (by omega)
  have e2 : decide (120 < mL) = false := decide_eq_false (by omega)
  have Hlm := Lib.hid hlm
  have Hs := Lib.hid hs
  have Hl := Lib.hid h
  have Hm := Lib.hid hm
  have Hmat := Lib.hid hmat
  have Hback := Lib.hid hback
  have Hnest := Lib.hid hnest
  have hn120 : n ≤ 120 := by omega
  clear h hs hm hmat hback hnest hwf hn hlm
  rcases hidx with ⟨h1, h2⟩ | h1
  case' inl =>
    have h3 := h2.symm
    clear h2
    subst h3
  all_goals
    have Hi := Lib.hid h1
    have H1e : Nat := 0
    have hmk : ∀ W : World, (Instr.makeSlice 26 (.int .i64 (n : Int)) (.int .i64 (n : Int))).run Tryz.prog W = .ok (.slice (some ⟨W.heap.size, 0, none⟩) n n) (W.alloc (.cells (madeCells #[.int .i64 0] n) 3)) := fun W => run_make_row' 26 3 (.int .i64 0) 8 Tryz.underlying26 info_int rfl .i64 .i64 n (by omega) (by omega) W
    clear h1
    go_enter Tryz.func4, Tryz.ntmps4
    go_wp2_with (first
      | (go_at_call 14; refine (awake5_c _ hS).mono ?_; rintro e w1 ⟨rfl, hb1⟩)
      | (go_at_call 17; refine (bSkel_c _ l (by have := Hl.out; have := Hlm.out; omega) _ (H.later hb1)).mono ?_; rw [Hs.out]; rintro e w2 ⟨hb2, a', b', s', k', sv, kv, F0, F1, hn, rfl, hI, hR⟩; injection hn with hn1 hn2 hn3 hn4 _; subst hn1; subst hn2; subst hn3; subst hn4; obtain ⟨A0, n0, c0, rfl⟩ := hI.isSlice; obtain ⟨A1, n1, c1, rfl⟩ := hR.isSlice; have hbA := below_alloc0 (below_alloc0 (bjoin hb1 hb1.size hb2) (.cells #[.int .i64 (-1), .int .i64 n, .slice A0 n0 c0, .slice A1 n1 c1] 32)) (.cells #[.int .i64 0, .int .i64 0] 35))
      | (go_at_call 21; refine (idxM_c _ l (by have := Hl.out; have := Hlm.out; omega) _ (H.later hbA)).mono ?_; rw [Hi.out]; rintro e w3 ⟨rfl, hb3⟩; have hbB := bjoin hbA hbA.size hb3))
  all_goals
    clear hR hI Hi H1e
    have hR0 : (w3.alloc (.cells (madeCells #[.int .i64 0] n) 3)).rowIs w3.heap.size 3 n (fun j => if j < 0 then .int .i64 (Bk.find kk j) else .int .i64 0) := (World.rowIs_made w3 (.int .i64 0) n 3).congr fun j _ => by rw [if_neg (Nat.not_lt_zero _)]
    have hBM : Below w.heap.size w (w3.alloc (.cells (madeCells #[.int .i64 0] n) 3)) := below_alloc0 hbB _
    have hMw : w.heap.size ≤ w3.heap.size := hbB.size
    generalize w3.alloc (.cells (madeCells #[.int .i64 0] n) 3) = WL at *
    generalize w3.heap.size = M at *
    go_loopw [37] (fun t37 wr => ∃ k : Nat, k ≤ n ∧ t37 = .int .i64 k ∧ Below w.heap.size w wr ∧ wr.rowIs M 3 n (fun j => if j < k then .int .i64 (Bk.find kk j) else .int .i64 0)) (fun t37 _ => n - (intOf t37).toNat)
    case atStart => exact ⟨0, by omega, rfl, hBM, hR0⟩
    case round =>
      obtain ⟨k, hk, rfl, hB, hR⟩ := hrel
      clear hR0 hBM
      by_cases hlt : k < n
      · obtain ⟨m, he, hml⟩ := Hm.out k hlt
        have d1 : decide ((m : Int) < 0) = false := decide_eq_false (by omega)
        have d2 : decide ((n : Int) ≤ (m : Int)) = false := decide_eq_false (by omega)
        have He := Lib.hid he
        have HR := Lib.hid hR
        clear he hR
        go_wp2_with (first
          | (go_at_call 23; refine (bMatch_c _ l (by have := Hl.out; have := Hlm.out; omega) _ (H.later hB) (k : Int)).mono ?_; unfold MatchPost; rw [Hmat.out k hlt, He.out]; rintro e w5 ⟨rfl, hb5⟩
             have hlM := HR.out.lt
             have hR5 := (HR.out.of_block (hb5.block _ hlM)).alloc (.cells #[.int .i64 0, .int .i64 0] 35)
             have hB5 : Below w.heap.size w (w5.alloc (.cells #[.int .i64 0, .int .i64 0] 35)) := below_alloc0 (bjoin hB hB.size hb5) _
             have q := hR5.cell hlt
             have qf := hR5.frozen k
             have HR5 := Lib.hid hR5
             clear hR5))
        go_roundw
        case rel =>
          refine ⟨k + 1, by omega, by go_num, hB5.setCell hMw _, (HR5.out.set k (.int .i64 (m : Int))).congr fun j hj => ?_⟩
          by_cases e : j = k
          · rw [if_pos e, if_pos (by omega), e, He.out]
          · rw [if_neg e]
            by_cases e2 : j < k
            · rw [if_pos e2, if_pos (by omega)]
            · rw [if_neg e2, if_neg (by omega)]
        case measure => simp [intOf]; omega
      · have hkn : k = n := by omega
        subst hkn
        have hR2 : wr.rowIs M 3 k (fun j => .int .i64 (Bk.find kk j)) := hR.congr fun j hj => if_pos hj
        have HR := Lib.hid hR2
        have HB := Lib.hid hB
        clear hR hR2 hB
        go_wp2
        go_loopw [65] (fun t65 wq => ∃ i : Nat, i ≤ k ∧ t65 = .int .i64 i ∧ wq = wr) (fun t65 _ => k - (intOf t65).toNat)
        case atStart => exact ⟨0, by omega, rfl, rfl⟩
        case round =>
          obtain ⟨i, hi, rfl, rfl⟩ := hrel
          by_cases hit : i < k
          · obtain ⟨m, he, hml⟩ := Hm.out i hit
            have q1 := (HR.out.cell hit).trans (by rw [he])
            have q2 := (HR.out.cell hml).trans (by rw [Hback.out i m hit he])
            have He := Lib.hid he
            clear he
            go_wp2
            go_loopw [78] (fun t78 wq => ∃ j : Nat, j ≤ k ∧ t78 = .int .i64 j ∧ wq = wr) (fun t78 _ => k - (intOf t78).toNat)
            case atStart => exact ⟨0, by omega, rfl, rfl⟩
            case round =>
              obtain ⟨j, hj, rfl, rfl⟩ := hrel
              by_cases hjt : j < k
              · obtain ⟨p, hp, hpl⟩ := Hm.out j hjt
                have q3 := (HR.out.cell hjt).trans (by rw [hp])
                have hne := Hnest.out i j m p hit hjt He.out hp
                clear hp
                by_cases c1 : i < m
                · have hne1 := hne c1
                  clear hne
                  by_cases ci : j = i
                  · clear hne1
                    subst ci
                    go_wp2
                    all_goals first
                      | (go_roundw
                         case rel => exact ⟨j + 1, by omega, by go_num, by trivial⟩
                         case measure => simp [intOf]; omega)
                      | (exfalso; omega)
                  · by_cases cm : j = m
                    · clear hne1
                      subst cm
                      go_wp2
                      all_goals first
                        | (go_roundw
                           case rel => exact ⟨j + 1, by omega, by go_num, by trivial⟩
                           case measure => simp [intOf]; omega)
                        | (exfalso; omega)
                    · have hne2 := hne1 ci cm
                      clear hne1
                      have Hne := Lib.hid hne2
                      clear hne2
                      go_wp2
                      all_goals have hne2 := Hne.out
                      all_goals first
                        | (go_roundw
                           case rel => exact ⟨j + 1, by omega, by go_num, by trivial⟩
                           case measure => simp [intOf]; omega)
                        | (exfalso; omega)
                · clear hne
                  go_wp2
                  go_roundw
                  case rel => exact ⟨j + 1, by omega, by go_num, by trivial⟩
                  case measure => simp [intOf]; omega
              · go_wp2
                go_roundw
                case rel => exact ⟨i + 1, by omega, by go_num, by trivial⟩
                case measure => simp [intOf]; omega
          · go_wp2
            go_ret
            exact ⟨rfl, HB.out⟩
/-- BracketsMatches. -/
theorem matches_v (v : Value) (l : List Sp.Sym) (hl : l.length ≤ 9223372036854775807) (w : World) (H : Lies w v l) (hS : SignsIn w) (hM : MaxIn w) :
    Calls Tryz.prog 4 #[v] w fun e w' => e = .returned (.bool true) ∧ Below w.heap.size w w' := by
  by_cases h : 120 < l.length
  · exact matches_long v l hl h w H hS
  · cases hs : Bk.skeleton l with
    | error f => exact matches_bad v l (by omega) f hs w H hS
    | ok t =>
      obtain ⟨s, k, rfl, hwf⟩ := Bk.skeleton_ok l t hs
      refine matches_main v l (by omega) (Bk.ends l).1 s k hs hwf ?_ ?_ w H hS
      · unfold Bk.ends
        split
        · rename_i i hi
          rw [List.findIdx?_eq_some_iff_getElem] at hi
          exact Nat.le_of_lt hi.1
        · exact Nat.le_refl _
      · unfold Bk.ends idx
        cases l.findIdx? (fun x => x.kind == 0) with
        | some i => right; rfl
        | none => left; exact ⟨rfl, rfl⟩
end Go.Proofs.YtjghijeblddijaaGreatDoor
namespace Go.Proofs.YtjghijeblddijaaGreatDoor
open Go.ChangeShapes Go.WideShapes Go.ChangeAt Go.RowKit
open Go.ChangeMaps (open_string shut_string)

set_option maxRecDepth 100000 in
theorem bracketsMatches_contract (H : Type) (enc : TypeId × Value → H) (W : World) (base : Nat) (args : Array Value) (ds gs : List (DataW H)) (before : List MemPlace)
    (hval : ∀ (j : Nat) t v, Tryz.f4.params[j]? = some t → args[j]? = some v → Value.okWide Tryz.prog W .any base t v)
    (hW : DataW.Whole enc Tryz.prog Tryz.f4.params.toList Rows.bracketsMatchesSpec.vars false W args.toList ds gs before) (hL : laidMetH Tryz.prog Rows.stropRegimesRow.laid W) (hsh : W.ShapedOpen Tryz.prog) :
    Calls Tryz.prog 4 args W fun e W' => ∃ v, e = .returned v ∧ Rows.bracketsMatchesSpec.post enc Tryz.prog Tryz.f4 false true false false W args v W' := by
  have hW' := hW
  obtain ⟨p, q, hA0, hV, rfl, hfz, hnd⟩ := hW
  have hA : DataW.TrodAll enc Tryz.prog W 0 (fun _ => true) true Tryz.f4.params.toList args.toList ds p := hA0
  rw [Tryz.params4] at hA hval
  obtain ⟨v0, vs0, d0, ds0, p0, q0, ha0, rfl, rfl, h0, r0⟩ := trodAll_cons hA
  obtain ⟨rfl, rfl, rfl⟩ := trodAll_nil r0
  obtain rfl : args = #[v0] := by cases args; simp_all
  obtain ⟨rfl, rfl⟩ := trodVars_none hV
  obtain ⟨a0, len0, cap0, rfl⟩ := okWide_slice Tryz.underlying22 (hval 0 22 v0 rfl rfl)
  have hk0 := h0
  obtain ⟨fuel0, hf0⟩ := h0
  obtain ⟨x0, hl0, hx0⟩ := open_syms hf0
  clear hA0
  simp only [List.append_nil] at hW'
  refine (matches_v (.slice a0 len0 cap0) x0 hl0 W hx0 (signs_of_laid hL) (max_of_shape hsh)).mono fun e W' ⟨he, hg⟩ => ?_
  subst he
  have hlt := fun x hx => hW'.lt x hx
  exact ⟨_, rfl, post_of_below (pa := (p0 ++ [])) (pv := []) hW' (fun _ _ _ => trodAll_cons_mk (shut_bool Tryz.underlying4 _) trodAll_mk0)
    (fun sp hsp => trodAll_cons_mk (Go.WideElems.Trod_stays laid_out (by kernel_rfl) (of_decide_eq_true (by kernel_rfl)) hk0 (fun x hx => hg.same (hlt x (by simp [hx]))) (fun x hx => hsp x (by simp [hx]))) trodAll_mk0) (fun _ _ => rfl) (by simp)
    hg (ok_one (by kernel_rfl) rfl (okWide_bool_mk Tryz.underlying4 _))⟩
set_option maxRecDepth 100000 in
theorem bracketsMatches_reads (os : Os) {H : Type} (enc : TypeId × Value → H) : ∃ places, DataW.whole enc Tryz.prog ((laidW os).forCall (fun _ _ => 0) ⟨#[], #[.slice none 0 0], []⟩).memory Tryz.f4.params.toList Rows.bracketsMatchesSpec.vars false #[Value.slice none 0 0].toList 8 = some ([.nil], [], places) :=
  ⟨[], by kernel_rfl⟩
set_option maxRecDepth 100000 in
theorem bracketsMatches_lifted (os : Os) (started : os.Started) (H : Type) (enc : TypeId × Value → H) (F : Stop.Interp) :
    ReturnsInHanded {} Tryz.checked os 4 .any ((OpenSpec.ofChange Rows.bracketsMatchesSpec).preRow enc Tryz.prog Tryz.f4 Rows.bracketsMatchesRow.domain false Rows.bracketsMatchesRow.laid) (((OpenSpec.ofChange Rows.bracketsMatchesSpec).at F).post enc Tryz.prog Tryz.f4 false true false false) := by
  obtain ⟨places, hx⟩ := bracketsMatches_reads os enc
  refine returnsInHanded_of_row (C := Tryz.checked) (s := OpenSpec.ofChange Rows.bracketsMatchesSpec) own_knob started (by kernel_rfl) Tryz.func4
    (witness_of_shape (enc := enc) (C := Tryz.checked) false (laidW os) #[.slice none 0 0] (World.laidAll_os _ _ _) (World.shaped_of_ZipB (by kernel_rfl) (by kernel_rfl)) (by kernel_rfl)
      (OpenSpec.preRow_of_cond 8 hx (by kernel_rfl) (fun k hk => by cases hk) (by kernel_rfl) (laidW_met os _))) ?_
  intro W base args ds gs before hval hW _ _ _ hL hsh _
  exact bracketsMatches_contract H enc W base args ds gs before hval hW hL hsh
theorem bracketsMatches_facts : joinedFacts Tryz.pinned.checked.prog 4 Tryz.f4 (OpenSpec.ofChange Rows.bracketsMatchesSpec).bare Rows.bracketsMatchesRow = true := by kernel_rfl
theorem bracketsMatches_named : Tryz.pinned.checked.prog.funcNamed Rows.bracketsMatchesRow.func = some 4 := by kernel_rfl
theorem bracketsMatches_inst : (Tryz.f4).isInstance Tryz.pinned.checked.prog Rows.bracketsMatchesRow.origin Rows.bracketsMatchesRow.targs := of_decide_eq_true (by kernel_rfl)
theorem bracketsMatches_wrap : (Tryz.f4).isWrapper Tryz.pinned.checked.prog Rows.bracketsMatchesRow.wrapper Rows.bracketsMatchesRow.mainSum := by unfold Func.isWrapper; first | (rw [if_pos (by decide +kernel)]; kernel_rfl) | (rw [if_neg (by decide +kernel)]; exact ⟨rfl, rfl⟩)
theorem bracketsMatches_said : Rows.BracketsMatchesSaid :=
  OpenClaim.holds_of_cond 4 Tryz.f4 rfl rfl rfl rfl rfl rfl rfl ⟨rfl, rfl, rfl, rfl, rfl⟩ rfl rfl rfl rfl rfl bracketsMatches_named Tryz.func4 bracketsMatches_facts bracketsMatches_inst bracketsMatches_wrap
    (fun os started H enc _ F => by rw [OpenClaim.pre_eq_preRow]; exact bracketsMatches_lifted os started H enc F)
theorem bracketsMatches_plain (f : FuncId) (fn : Func) (hf : Tryz.pinned.checked.prog.funcNamed "environ/environlaw05.BracketsMatches" = some f) (hfn : Tryz.pinned.checked.prog.funcs[f]? = some fn) :
    true = Tryz.pinned.checked.prog.looks [] ∧ ∀ (j : Nat) t, fn.params[j]? = some t → Tryz.pinned.checked.prog.wantsStandIn t = false := by
  obtain rfl : f = 4 := Option.some.inj ((show Tryz.prog.funcNamed "environ/environlaw05.BracketsMatches" = some 4 by kernel_rfl).symm.trans hf) |>.symm
  obtain rfl : fn = Tryz.f4 := (Option.some.inj (Tryz.func4.symm.trans hfn)).symm
  refine ⟨by kernel_rfl, fun j t ht => ?_⟩
  rw [Tryz.params4] at ht
  have hm : t ∈ [22] := by simpa using Array.mem_of_getElem? ht
  have hall : ([22].all fun u => !Tryz.prog.wantsStandIn u) = true := by kernel_rfl
  exact (show Tryz.prog.wantsStandIn t = false by simpa using List.all_eq_true.1 hall t hm)
/-- The card. -/
theorem bracketsMatches_holds : Rows.BracketsMatchesCardSaid :=
  Claim7.holds_tied_plain_at .later [] _ _ _ _ bracketsMatches_said (fun _ h => by cases h) (by kernel_rfl) (fun _ h => by cases h) bracketsMatches_row_tie rfl ⟨rfl, rfl⟩ (by kernel_rfl) rfl bracketsMatches_plain (by kernel_rfl)
#print axioms bracketsMatches_holds
end Go.Proofs.YtjghijeblddijaaGreatDoor
