/- Walks of chapter 05: slices.Contains over texts; complete. Walks of chapter 05: what may follow a separator; take. Walks of chapter 05: take, where the separator may stand. Printed by wip/tools/takeC.py. -/
import Derived.Test.YtjghijeblddijaaGreatDoorBrkForms
import Derived.BigQuiet
import Derived.Test.YtjghijeblddijaaGreatDoorBrkTree
set_option linter.unusedVariables false
namespace Go.Proofs.YtjghijeblddijaaGreatDoor
open Go.RowKit
set_option maxRecDepth 100000 in
set_option maxHeartbeats 4000000 in
theorem indexStr_c (g c : Nat) (l : List (List UInt8)) (hl : l.length ≤ 1000) (t : List UInt8) (w : World) (H : StrRow w g (l.map bst)) :
    Calls Tryz.prog 55 #[.slice (some ⟨g, 0, none⟩) l.length c, .string ⟨t.toArray⟩] w fun e w' => ∃ z : Int, e = .returned (.int .i64 z) ∧ w' = w ∧ (0 ≤ z ↔ t ∈ l) := by
  go_enter Tryz.func55, Tryz.ntmps55
  go_wp2
  go_loop [8] (fun i => ∃ k : Nat, k ≤ l.length ∧ i = .int .i64 k ∧ Hid (∀ (j : Nat) x, j < k → l[j]? = some x → x ≠ t)) (fun i => l.length - (intOf i).toNat)
  case atStart => exact ⟨0, by omega, rfl, Lib.hid fun j _ hj => absurd hj (Nat.not_lt_zero j)⟩
  case round =>
    obtain ⟨k, hk, rfl, hh⟩ := hrel
    by_cases hlt : k < l.length
    · obtain ⟨x, hx⟩ : ∃ x, l[k]? = some x := ⟨l[k], List.getElem?_eq_getElem hlt⟩
      have q : w.cell? ⟨g, k, none⟩ = some (.string ⟨x.toArray⟩) := H k (bst x) (by simp [hx])
      have Hx := Lib.hid hx
      clear hx
      by_cases he : t = x
      · have d1 : (t == x) = true := beq_iff_eq.2 he
        have hc : t ∈ l := by rw [he]; exact List.mem_of_getElem? Hx.out
        have Hc := Lib.hid hc
        clear hc he
        go_wp2
        go_ret
        exact ⟨(k : Int), rfl, rfl, fun _ => Hc.out, fun _ => by omega⟩
      · have d1 : (t == x) = false := beq_eq_false_iff_ne.2 he
        have He : Hid (t ≠ x) := Lib.hid he
        clear he
        go_wp2
        go_round
        case rel =>
          refine ⟨k + 1, by omega, by go_num, Lib.hid fun j y hj hy => ?_⟩
          by_cases hjk : j = k
          · subst hjk
            rw [Hx.out] at hy
            injection hy with hy
            rw [← hy]; exact fun e => He.out e.symm
          · exact hh.out j y (by omega) hy
        case measure => simp [intOf]; omega
    · have hc : ¬ t ∈ l := by
        intro h
        obtain ⟨j, hj⟩ := List.getElem?_of_mem h
        have hjl := (List.getElem?_eq_some_iff.1 hj).1
        exact hh.out j t (by omega) hj rfl
      have Hc := Lib.hid hc
      clear hc hh
      go_wp2
      go_ret
      exact ⟨-1, rfl, rfl, fun h => absurd h (by decide), fun h => absurd h Hc.out⟩
set_option maxRecDepth 100000 in
set_option maxHeartbeats 4000000 in
theorem containsStr_c (g c : Nat) (l : List (List UInt8)) (hl : l.length ≤ 1000) (t : List UInt8) (w : World) (H : StrRow w g (l.map bst)) :
    Calls Tryz.prog 16 #[.slice (some ⟨g, 0, none⟩) l.length c, .string ⟨t.toArray⟩] w fun e w' => e = .returned (.bool (l.contains t)) ∧ w' = w := by
  go_enter Tryz.func16, Tryz.ntmps16
  go_wp2_with (first | (go_at_call 55; refine (indexStr_c g c l hl t _ H).mono ?_; rintro e w1 ⟨z, rfl, rfl, hz⟩))
  all_goals (go_ret; exact ⟨ret_bool (by simp [hz]), rfl⟩)
set_option maxRecDepth 100000 in
set_option maxHeartbeats 4000000 in
theorem indexStr_nil (t : ByteArray) (w : World) :
    Calls Tryz.prog 55 #[.slice none 0 0, .string t] w fun e w' => e = .returned (.int .i64 (-1)) ∧ w' = w := by
  go_enter Tryz.func55, Tryz.ntmps55
  go_wp2
  go_loop [8] (fun i => i = .int .i64 0) (fun _ => 0)
  case atStart => exact rfl
  case round =>
    subst hrel
    go_wp2
    go_ret
    exact ⟨rfl, rfl⟩
set_option maxRecDepth 100000 in
set_option maxHeartbeats 4000000 in
theorem containsStr_nil (t : ByteArray) (w : World) :
    Calls Tryz.prog 16 #[.slice none 0 0, .string t] w fun e w' => e = .returned (.bool false) ∧ w' = w := by
  go_enter Tryz.func16, Tryz.ntmps16
  go_wp2_with (first | (go_at_call 55; refine (indexStr_nil _ _).mono ?_; rintro e w1 ⟨rfl, rfl⟩))
  all_goals (go_ret; exact ⟨rfl, rfl⟩)
/-- A row of texts, as a value. -/
def RowV (w : World) (v : Value) (l : List (List UInt8)) : Prop := (l = [] ∧ v = .slice none 0 0) ∨ ∃ g c, v = .slice (some ⟨g, 0, none⟩) l.length c ∧ StrRow w g (l.map bst)
theorem containsV (v : Value) (l : List (List UInt8)) (hl : l.length ≤ 1000) (t : List UInt8) (w : World) (H : RowV w v l) :
    Calls Tryz.prog 16 #[v, .string ⟨t.toArray⟩] w fun e w' => e = .returned (.bool (l.contains t)) ∧ w' = w := by
  rcases H with ⟨rfl, rfl⟩ | ⟨g, c, rfl, h⟩
  · exact containsStr_nil _ _
  · exact containsStr_c g c l hl t w h
theorem RowV.drewN {w : World} {v : Value} {l : List (List UInt8)} (h : RowV w v l) (n : Nat) : RowV (w.drewN n) v l := by
  rcases h with h | ⟨g, c, h1, h2⟩
  · exact .inl h
  · exact .inr ⟨g, c, h1, h2.keep rfl⟩
theorem FormAt.rowV {w : World} {op : Bk.Op} {mp cs : Value} {F : List Nat} (h : FormAt w op mp cs F) : RowV w cs (Bk.closes op) := by
  rcases h.closes with h1 | ⟨g, c, h1, h2, _⟩
  · exact .inl h1
  · exact .inr ⟨g, c, h1, h2⟩
theorem closes_len (op : Bk.Op) : (Bk.closes op).length ≤ 1000 := by cases op <;> decide
theorem after_len (op : Bk.Op) (t : List UInt8) : (Bk.after op t).length ≤ 1000 := by
  unfold Bk.after
  split
  · simp
  · repeat' split
    all_goals simp
set_option maxRecDepth 100000 in
set_option maxHeartbeats 4000000 in
theorem bComplete_c (g : Nat) (f : Bk.Fr) (v0 v1 v2 v3 v4 mp cs : Value) (F : List Nat) (w : World) (K : w.heap[g]? = some (.cells #[v0, v1, v2, v3, v4, mp, cs, .string ⟨f.last.toArray⟩] 88 (0, 0))) (H : FormAt w f.op mp cs F) :
    Calls Tryz.prog 59 #[.pointer (some ⟨g, 0, none⟩)] w fun e w' => e = .returned (.bool (Bk.complete f)) ∧ ∃ n, w' = w.drewN n := by
  have c6 : w.cell? ⟨g, 6, none⟩ = some cs := (cell_of_blk K 6).trans rfl
  have c7 : w.cell? ⟨g, 7, none⟩ = some (.string ⟨f.last.toArray⟩) := (cell_of_blk K 7).trans rfl
  have hR := H.rowV
  have hl := closes_len f.op
  have HR := Lib.hid hR
  by_cases he : f.last = Bk.FIN
  · have d1 : (f.last == [101, 110, 100]) = true := beq_iff_eq.2 he
    have hfin : Bk.complete f = true := by unfold Bk.complete; rw [he]; rfl
    rw [hfin]
    clear hfin he hR K H
    go_enter Tryz.func59, Tryz.ntmps59
    go_wp2
    go_quiet (fail)
    go_wp2
    go_ret
    exact ⟨rfl, _, rfl⟩
  · have d1 : (f.last == [101, 110, 100]) = false := beq_eq_false_iff_ne.2 he
    have hfin : Bk.complete f = (Bk.closes f.op).contains f.last := by
      unfold Bk.complete
      rw [show (f.last == Bk.FIN) = false from beq_eq_false_iff_ne.2 he, Bool.false_or]
    rw [hfin]
    clear hfin he hR K H
    go_enter Tryz.func59, Tryz.ntmps59
    go_wp2
    go_quiet (first | (go_at_call 16; exact Calls.quiet_of_same (containsV _ _ hl _ _ (HR.out.drewN _))))
    go_wp2
    go_ret
    exact ⟨ret_bool (by simp), _, rfl⟩
end Go.Proofs.YtjghijeblddijaaGreatDoor
set_option linter.unusedVariables false
namespace Go.Proofs.YtjghijeblddijaaGreatDoor
open Go.RowKit
theorem look_nil (key : ByteArray) (W : World) : (Instr.lookup 84 (.map none) (.string key) false).run Tryz.prog W = .ok (.slice none 0 0) W := by
  have hz : ∀ w, (zeroValue 25).run Tryz.prog w = .ok (.slice none 0 0) w := fun w => by kernel_rfl
  simp [Instr.lookup, run_underlying Tryz.underlying84, run_underlying Tryz.underlying9, checkKey_str Tryz.underlying9, Instr.findKey, Instr.findNow, hz]
theorem bst_ne {a b : List UInt8} (h : a ≠ b) : bst a ≠ bst b := by
  intro e
  unfold bst at e
  injection e with e
  exact h (by simpa using congrArg Array.toList e)
/-- What the map of a form tells of a separator. -/
theorem FormAt.look {w : World} {op : Bk.Op} {mp cs : Value} {F : List Nat} (h : FormAt w op mp cs F) (last : List UInt8) :
    ∃ v, (∀ W : World, W.heap = w.heap → (Instr.lookup 84 mp (.string ⟨last.toArray⟩) false).run Tryz.prog W = .ok v W) ∧ RowV w v (Bk.after op last) := by
  have hm := h.map
  cases hc : Bk.chain op with
  | none =>
    rw [hc] at hm
    dsimp only at hm
    subst hm
    exact ⟨.slice none 0 0, fun W _ => look_nil _ W, .inl ⟨by unfold Bk.after; rw [hc], rfl⟩⟩
  | some p =>
    obtain ⟨t, a, l⟩ := p
    rw [hc] at hm
    obtain ⟨m, r1, r2, r3, base, rfl, hC, _, _, _, _⟩ := hm
    obtain ⟨es, c, hes, hT⟩ := hC.map
    have hA : Bk.after op last = if last = [] then [t] else if last = t then [a, l] else if last = a then [t] else [] := by unfold Bk.after; rw [hc]
    have get : ∀ (v : Value), (∃ i, find es ⟨last.toArray⟩ = some (some (i, v))) → ∀ W : World, W.heap = w.heap → (Instr.lookup 84 (.map (some m)) (.string ⟨last.toArray⟩) false).run Tryz.prog W = .ok v W := by
      intro v ⟨i, hi⟩ W hW
      exact map_get Tryz.underlying84 Tryz.underlying9 W m es c (by rw [hW]; exact hes) _ i v hi
    by_cases h1 : last = []
    · rw [hA, if_pos h1]
      subst h1
      exact ⟨_, get _ (hT.t1 rfl), .inr ⟨r1, 1, rfl, strRow_of hC.w1⟩⟩
    rw [if_neg h1] at hA
    by_cases h2 : last = t
    · rw [hA, if_pos h2]
      subst h2
      exact ⟨_, get _ (hT.t2 rfl), .inr ⟨r2, 2, rfl, strRow_of hC.w2⟩⟩
    rw [if_neg h2] at hA
    by_cases h3 : last = a
    · rw [hA, if_pos h3]
      subst h3
      exact ⟨_, get _ (hT.t3 rfl), .inr ⟨r3, 1, rfl, strRow_of hC.w3⟩⟩
    rw [hA, if_neg h3]
    refine ⟨.slice none 0 0, fun W hW => ?_, .inl ⟨rfl, rfl⟩⟩
    have hno := hT.no ⟨last.toArray⟩ (fun _ => bst_ne (b := []) h1) (fun _ => bst_ne h2) (fun _ => bst_ne h3)
    exact map_miss Tryz.underlying84 Tryz.underlying9 (.slice none 0 0) (fun w => by kernel_rfl) W m es c (by rw [hW]; exact hes) _ hno
theorem heap_drewN (w : World) (n : Nat) : (w.drewN n).heap = w.heap := rfl
theorem info_int : (Tryz.prog.info? 3).map (fun i => (i.zero, i.size, i.bytes)) = some (some (.int .i64 0), 1, 8) := by kernel_rfl
set_option maxRecDepth 100000 in
set_option maxHeartbeats 8000000 in
/-- A separator that cannot stand there. -/
theorem bTake_no (g : Nat) (f : Bk.Fr) (t : List UInt8) (i : Int) (ht : Bk.take f t = none) (v0 v1 v2 v3 v4 mp cs : Value) (F : List Nat) (w : World) (K : w.heap[g]? = some (.cells #[v0, v1, v2, v3, v4, mp, cs, .string ⟨f.last.toArray⟩] 88 (0, 0))) (H : FormAt w f.op mp cs F) :
    Calls Tryz.prog 60 #[.pointer (some ⟨g, 0, none⟩), .string ⟨t.toArray⟩, .int .i64 i] w fun e w' => e = .returned (.bool false) ∧ ∃ n, w' = w.drewN n := by
  have c5 : w.cell? ⟨g, 5, none⟩ = some mp := (cell_of_blk K 5).trans rfl
  have c7 : w.cell? ⟨g, 7, none⟩ = some (.string ⟨f.last.toArray⟩) := (cell_of_blk K 7).trans rfl
  obtain ⟨va, hlook, hR⟩ := H.look f.last
  have hla := after_len f.op f.last
  have HR := Lib.hid hR
  have hlk : ∀ n, (Instr.lookup 84 mp (.string ⟨f.last.toArray⟩) false).run Tryz.prog (w.drewN n) = .ok va (w.drewN n) := fun n => hlook _ (heap_drewN w n)
  by_cases he : f.last = Bk.FIN
  · have d1 : (f.last == [101, 110, 100]) = true := beq_iff_eq.2 he
    clear he hR K H hlook hlk ht
    go_enter Tryz.func60, Tryz.ntmps60
    go_wp2
    go_quiet (fail)
    go_wp2
    go_ret
    exact ⟨rfl, _, rfl⟩
  · have d1 : (f.last == [101, 110, 100]) = false := beq_eq_false_iff_ne.2 he
    have hno : (Bk.after f.op f.last).contains t = false := by
      unfold Bk.take at ht
      rw [if_neg he] at ht
      cases hc : (Bk.after f.op f.last).contains t with
      | false => rfl
      | true => rw [hc, if_pos rfl] at ht; cases ht
    have hcon : ∀ n, Calls Tryz.prog 16 #[va, .string ⟨t.toArray⟩] (w.drewN n) fun e w' => e = .returned (.bool false) ∧ w' = w.drewN n := fun n => (containsV _ _ hla t _ (HR.out.drewN n)).mono (by rw [hno]; exact fun _ _ h => h)
    have Hcon := Lib.hid hcon
    clear he hR K H hlook ht hno hcon
    go_enter Tryz.func60, Tryz.ntmps60
    go_wp2
    go_quiet (first | (go_at_call 16; exact Calls.quiet_of_same (Hcon.out _)))
    go_wp2
    go_ret
    exact ⟨rfl, _, rfl⟩
end Go.Proofs.YtjghijeblddijaaGreatDoor
set_option linter.unusedVariables false
namespace Go.Proofs.YtjghijeblddijaaGreatDoor
open Go.RowKit
/-- What take leaves. -/
def TakeYes (base g : Nat) (f : Bk.Fr) (i : Int) (l' : List UInt8) (v0 v1 v3 v4 mp cs : Value) (A : Option Addr) (c : Nat) (w : World) (e : Ending) (w' : World) : Prop :=
  e = .returned (.bool true) ∧ ∃ A' c', w'.heap[g]? = some (.cells #[v0, v1, .slice A' (f.seps.length + 1) c', v3, v4, mp, cs, .string ⟨l'.toArray⟩] 88 (0, 0)) ∧
    w'.ownsRow base 3 1 (.slice A' (f.seps.length + 1) c') (f.seps.length + 1) ((f.seps ++ [i]).map (Value.int .i64)) ∧ Below base w w' ∧
    (∀ b, b < w.heap.size → b ≠ g → (Value.slice A f.seps.length c).ownBlock ≠ some b → w'.heap[b]? = w.heap[b]?) ∧
    ((Value.slice A' (f.seps.length + 1) c').ownBlock = (Value.slice A f.seps.length c).ownBlock ∨ ∃ b, (Value.slice A' (f.seps.length + 1) c').ownBlock = some b ∧ w.heap.size ≤ b)
set_option maxRecDepth 100000 in
set_option maxHeartbeats 8000000 in
theorem bTake_plain (base g : Nat) (f : Bk.Fr) (t : List UInt8) (i : Int) (hfin : f.last ≠ Bk.FIN) (hmay : (Bk.after f.op f.last).contains t = true) (h1 : f.last ≠ t) (h2 : t ≠ Bk.ELSE) (h3 : t ≠ Bk.OUT) (v0 v1 v3 v4 mp cs : Value) (A : Option Addr) (c : Nat) (F : List Nat) (w : World)
    (K : w.heap[g]? = some (.cells #[v0, v1, .slice A f.seps.length c, v3, v4, mp, cs, .string ⟨f.last.toArray⟩] 88 (0, 0))) (H : FormAt w f.op mp cs F) (hb : base ≤ g) (HO : w.ownsRow base 3 1 (.slice A f.seps.length c) f.seps.length (f.seps.map (Value.int .i64)))
    (hne : (Value.slice A f.seps.length c).ownBlock ≠ some g) (hlen : f.seps.length ≤ 1000000) :
    Calls Tryz.prog 60 #[.pointer (some ⟨g, 0, none⟩), .string ⟨t.toArray⟩, .int .i64 i] w (TakeYes base g f i t v0 v1 v3 v4 mp cs A c w) := by
  have c5 : w.cell? ⟨g, 5, none⟩ = some mp := (cell_of_blk K 5).trans rfl
  have c7 : w.cell? ⟨g, 7, none⟩ = some (.string ⟨f.last.toArray⟩) := (cell_of_blk K 7).trans rfl
  obtain ⟨va, hlook, hR⟩ := H.look f.last
  have hla := after_len f.op f.last
  have HR := Lib.hid hR
  have hlk : ∀ n, (Instr.lookup 84 mp (.string ⟨f.last.toArray⟩) false).run Tryz.prog (w.drewN n) = .ok va (w.drewN n) := fun n => hlook _ (heap_drewN w n)
  have d1 : (f.last == [101, 110, 100]) = false := beq_eq_false_iff_ne.2 hfin
  have hcon : ∀ n, Calls Tryz.prog 16 #[va, .string ⟨t.toArray⟩] (w.drewN n) fun e w' => e = .returned (.bool true) ∧ w' = w.drewN n := fun n => (containsV _ _ hla t _ (HR.out.drewN n)).mono (by rw [hmay]; exact fun _ _ h => h)
  have Hcon := Lib.hid hcon
  have d2 : (f.last == t) = false := beq_eq_false_iff_ne.2 h1
  have d3 : (t == [69, 76, 83, 69]) = false := beq_eq_false_iff_ne.2 h2
  have d4 : (t == [79, 85, 84]) = false := beq_eq_false_iff_ne.2 h3
  clear h1 h2 h3
  have HK := Lib.hid K
  have HHO := Lib.hid HO
  have Hne := Lib.hid hne
  clear hR K H hlook hmay hfin hcon HO hne
  unfold TakeYes
  go_enter Tryz.func60, Tryz.ntmps60
  go_wp2
  go_quiet (first | (go_at_call 16; exact Calls.quiet_of_same (Hcon.out _)))
  have K1 : (w.drewN nq).heap[g]? = some (.cells #[v0, v1, .slice A f.seps.length c, v3, v4, mp, cs, .string ⟨f.last.toArray⟩] 88 (0, 0)) := HK.out
  have HO1 : (w.drewN nq).ownsRow base 3 1 (.slice A f.seps.length c) f.seps.length (f.seps.map (Value.int .i64)) := HHO.out.kept ⟨rfl, rfl, rfl, Nat.le_refl _, fun _ _ _ => rfl⟩ (row := none) (by cases (Value.slice A f.seps.length c).ownBlock <;> simp)
  have hBd := bdrewN (Below.refl base w) nq
  have hhp : Hid ((w.drewN nq).heap = w.heap) := Lib.hid rfl
  generalize w.drewN nq = W at *
  have p2 := cell_of_blk K1 2
  have p7 := cell_of_blk K1 7
  have q2 := free_of_blk K1 2
  have q7 := free_of_blk K1 7
  have K2 := blk_setCell K1 7 (.string ⟨t.toArray⟩)
  have tk : Nat := 0
  have hgl := lt_of_blk K2
  clear c5 c7 hlk
  go_wp2_with (at_builtin; refine append_lit base rfl _ _ 26 3 (.int .i64 0) 1 8 rfl Tryz.underlying26 info_int rfl (by decide) (by decide) A f.seps.length c (f.seps.map (Value.int .i64)) [.int .i64 i] rfl (by simp [go_sem]) rfl (by simp [Value.oneCell']) (own_setCell HO1 _ Hne.out _) (Nat.le_trans hb (Nat.le_of_lt hgl)) (by omega) ?_; intro A' c' w2 hown hgr hbel hat; have L2 := (hgr.block g hgl (Ne.symm Hne.out)).trans K2; have r2 := cell_of_blk L2 2; have s2 := free_of_blk L2 2)
  go_ret
  have hlt7 : w.heap.size = W.heap.size := by rw [hhp.out]
  refine ⟨rfl, A', c', ?_, ?_, ?_, fun b hb1 hb2 hb3 => ?_, ?_⟩
  · rw [blk_setCell L2 2]; rfl
  · rw [List.map_append]
    refine own_setCell hown _ ?_ _
    rcases hat with h | ⟨b, h, hbb⟩
    · rw [h]; exact Hne.out
    · rw [h]; intro e; injection e with e; replace e : b = g := e; simp only [World.size_setCell] at hbb; have := hgl; simp only [World.size_setCell] at this; omega
  · exact ((hBd.trans ((Below.refl base W).setCell hb _)).trans hbel).setCell hb _
  · rw [Below.heap_setCell _ _ _ _ hb2, hgr.block b (by simp only [World.size_setCell]; omega) (fun e => hb3 e.symm), Below.heap_setCell _ _ _ _ hb2, hhp.out]
  · rcases hat with h | ⟨b, h, hbb⟩
    · exact .inl h
    · exact .inr ⟨b, h, by simp only [World.size_setCell] at hbb; omega⟩
set_option maxRecDepth 100000 in
set_option maxHeartbeats 8000000 in
theorem bTake_again (base g : Nat) (f : Bk.Fr) (t : List UInt8) (i : Int) (hfin : f.last ≠ Bk.FIN) (hmay : (Bk.after f.op f.last).contains t = true) (h1 : f.last = t) (v0 v1 v3 v4 mp cs : Value) (A : Option Addr) (c : Nat) (F : List Nat) (w : World)
    (K : w.heap[g]? = some (.cells #[v0, v1, .slice A f.seps.length c, v3, v4, mp, cs, .string ⟨f.last.toArray⟩] 88 (0, 0))) (H : FormAt w f.op mp cs F) (hb : base ≤ g) (HO : w.ownsRow base 3 1 (.slice A f.seps.length c) f.seps.length (f.seps.map (Value.int .i64)))
    (hne : (Value.slice A f.seps.length c).ownBlock ≠ some g) (hlen : f.seps.length ≤ 1000000) :
    Calls Tryz.prog 60 #[.pointer (some ⟨g, 0, none⟩), .string ⟨t.toArray⟩, .int .i64 i] w (TakeYes base g f i Bk.FIN v0 v1 v3 v4 mp cs A c w) := by
  have c5 : w.cell? ⟨g, 5, none⟩ = some mp := (cell_of_blk K 5).trans rfl
  have c7 : w.cell? ⟨g, 7, none⟩ = some (.string ⟨f.last.toArray⟩) := (cell_of_blk K 7).trans rfl
  obtain ⟨va, hlook, hR⟩ := H.look f.last
  have hla := after_len f.op f.last
  have HR := Lib.hid hR
  have hlk : ∀ n, (Instr.lookup 84 mp (.string ⟨f.last.toArray⟩) false).run Tryz.prog (w.drewN n) = .ok va (w.drewN n) := fun n => hlook _ (heap_drewN w n)
  have d1 : (f.last == [101, 110, 100]) = false := beq_eq_false_iff_ne.2 hfin
  have hcon : ∀ n, Calls Tryz.prog 16 #[va, .string ⟨t.toArray⟩] (w.drewN n) fun e w' => e = .returned (.bool true) ∧ w' = w.drewN n := fun n => (containsV _ _ hla t _ (HR.out.drewN n)).mono (by rw [hmay]; exact fun _ _ h => h)
  have Hcon := Lib.hid hcon
  have d2 : (f.last == t) = true := beq_iff_eq.2 h1
  clear h1
  have HK := Lib.hid K
  have HHO := Lib.hid HO
  have Hne := Lib.hid hne
  clear hR K H hlook hmay hfin hcon HO hne
  unfold TakeYes
  go_enter Tryz.func60, Tryz.ntmps60
  go_wp2
  go_quiet (first | (go_at_call 16; exact Calls.quiet_of_same (Hcon.out _)))
  have K1 : (w.drewN nq).heap[g]? = some (.cells #[v0, v1, .slice A f.seps.length c, v3, v4, mp, cs, .string ⟨f.last.toArray⟩] 88 (0, 0)) := HK.out
  have HO1 : (w.drewN nq).ownsRow base 3 1 (.slice A f.seps.length c) f.seps.length (f.seps.map (Value.int .i64)) := HHO.out.kept ⟨rfl, rfl, rfl, Nat.le_refl _, fun _ _ _ => rfl⟩ (row := none) (by cases (Value.slice A f.seps.length c).ownBlock <;> simp)
  have hBd := bdrewN (Below.refl base w) nq
  have hhp : Hid ((w.drewN nq).heap = w.heap) := Lib.hid rfl
  generalize w.drewN nq = W at *
  have p2 := cell_of_blk K1 2
  have p7 := cell_of_blk K1 7
  have q2 := free_of_blk K1 2
  have q7 := free_of_blk K1 7
  have K2 := blk_setCell K1 7 (.string ⟨t.toArray⟩)
  have K3 := blk_setCell K2 7 (.string ⟨#[101, 110, 100]⟩)
  have hgl := lt_of_blk K3
  clear c5 c7 hlk
  go_wp2_with (at_builtin; refine append_lit base rfl _ _ 26 3 (.int .i64 0) 1 8 rfl Tryz.underlying26 info_int rfl (by decide) (by decide) A f.seps.length c (f.seps.map (Value.int .i64)) [.int .i64 i] rfl (by simp [go_sem]) rfl (by simp [Value.oneCell']) (own_setCell (own_setCell HO1 _ Hne.out _) _ Hne.out _) (Nat.le_trans hb (Nat.le_of_lt hgl)) (by omega) ?_; intro A' c' w2 hown hgr hbel hat; have L2 := (hgr.block g hgl (Ne.symm Hne.out)).trans K3; have r2 := cell_of_blk L2 2; have s2 := free_of_blk L2 2)
  go_ret
  have hlt7 : w.heap.size = W.heap.size := by rw [hhp.out]
  refine ⟨rfl, A', c', ?_, ?_, ?_, fun b hb1 hb2 hb3 => ?_, ?_⟩
  · rw [blk_setCell L2 2]; rfl
  · rw [List.map_append]
    refine own_setCell hown _ ?_ _
    rcases hat with h | ⟨b, h, hbb⟩
    · rw [h]; exact Hne.out
    · rw [h]; intro e; injection e with e; replace e : b = g := e; simp only [World.size_setCell] at hbb; have := hgl; simp only [World.size_setCell] at this; omega
  · exact ((hBd.trans (((Below.refl base W).setCell hb _).setCell hb _)).trans hbel).setCell hb _
  · rw [Below.heap_setCell _ _ _ _ hb2, hgr.block b (by simp only [World.size_setCell]; omega) (fun e => hb3 e.symm), Below.heap_setCell _ _ _ _ hb2, Below.heap_setCell _ _ _ _ hb2, hhp.out]
  · rcases hat with h | ⟨b, h, hbb⟩
    · exact .inl h
    · exact .inr ⟨b, h, by simp only [World.size_setCell] at hbb; omega⟩
set_option maxRecDepth 100000 in
set_option maxHeartbeats 8000000 in
theorem bTake_else (base g : Nat) (f : Bk.Fr) (t : List UInt8) (i : Int) (hfin : f.last ≠ Bk.FIN) (hmay : (Bk.after f.op f.last).contains t = true) (h1 : f.last ≠ t) (h2 : t = Bk.ELSE) (v0 v1 v3 v4 mp cs : Value) (A : Option Addr) (c : Nat) (F : List Nat) (w : World)
    (K : w.heap[g]? = some (.cells #[v0, v1, .slice A f.seps.length c, v3, v4, mp, cs, .string ⟨f.last.toArray⟩] 88 (0, 0))) (H : FormAt w f.op mp cs F) (hb : base ≤ g) (HO : w.ownsRow base 3 1 (.slice A f.seps.length c) f.seps.length (f.seps.map (Value.int .i64)))
    (hne : (Value.slice A f.seps.length c).ownBlock ≠ some g) (hlen : f.seps.length ≤ 1000000) :
    Calls Tryz.prog 60 #[.pointer (some ⟨g, 0, none⟩), .string ⟨t.toArray⟩, .int .i64 i] w (TakeYes base g f i Bk.FIN v0 v1 v3 v4 mp cs A c w) := by
  have c5 : w.cell? ⟨g, 5, none⟩ = some mp := (cell_of_blk K 5).trans rfl
  have c7 : w.cell? ⟨g, 7, none⟩ = some (.string ⟨f.last.toArray⟩) := (cell_of_blk K 7).trans rfl
  obtain ⟨va, hlook, hR⟩ := H.look f.last
  have hla := after_len f.op f.last
  have HR := Lib.hid hR
  have hlk : ∀ n, (Instr.lookup 84 mp (.string ⟨f.last.toArray⟩) false).run Tryz.prog (w.drewN n) = .ok va (w.drewN n) := fun n => hlook _ (heap_drewN w n)
  have d1 : (f.last == [101, 110, 100]) = false := beq_eq_false_iff_ne.2 hfin
  have hcon : ∀ n, Calls Tryz.prog 16 #[va, .string ⟨t.toArray⟩] (w.drewN n) fun e w' => e = .returned (.bool true) ∧ w' = w.drewN n := fun n => (containsV _ _ hla t _ (HR.out.drewN n)).mono (by rw [hmay]; exact fun _ _ h => h)
  have Hcon := Lib.hid hcon
  have d2 : (f.last == t) = false := beq_eq_false_iff_ne.2 h1
  have d3 : (t == [69, 76, 83, 69]) = true := beq_iff_eq.2 h2
  clear h1 h2
  have HK := Lib.hid K
  have HHO := Lib.hid HO
  have Hne := Lib.hid hne
  clear hR K H hlook hmay hfin hcon HO hne
  unfold TakeYes
  go_enter Tryz.func60, Tryz.ntmps60
  go_wp2
  go_quiet (first | (go_at_call 16; exact Calls.quiet_of_same (Hcon.out _)))
  have K1 : (w.drewN nq).heap[g]? = some (.cells #[v0, v1, .slice A f.seps.length c, v3, v4, mp, cs, .string ⟨f.last.toArray⟩] 88 (0, 0)) := HK.out
  have HO1 : (w.drewN nq).ownsRow base 3 1 (.slice A f.seps.length c) f.seps.length (f.seps.map (Value.int .i64)) := HHO.out.kept ⟨rfl, rfl, rfl, Nat.le_refl _, fun _ _ _ => rfl⟩ (row := none) (by cases (Value.slice A f.seps.length c).ownBlock <;> simp)
  have hBd := bdrewN (Below.refl base w) nq
  have hhp : Hid ((w.drewN nq).heap = w.heap) := Lib.hid rfl
  generalize w.drewN nq = W at *
  have p2 := cell_of_blk K1 2
  have p7 := cell_of_blk K1 7
  have q2 := free_of_blk K1 2
  have q7 := free_of_blk K1 7
  have K2 := blk_setCell K1 7 (.string ⟨t.toArray⟩)
  have K3 := blk_setCell K2 7 (.string ⟨#[101, 110, 100]⟩)
  have hgl := lt_of_blk K3
  clear c5 c7 hlk
  go_wp2_with (at_builtin; refine append_lit base rfl _ _ 26 3 (.int .i64 0) 1 8 rfl Tryz.underlying26 info_int rfl (by decide) (by decide) A f.seps.length c (f.seps.map (Value.int .i64)) [.int .i64 i] rfl (by simp [go_sem]) rfl (by simp [Value.oneCell']) (own_setCell (own_setCell HO1 _ Hne.out _) _ Hne.out _) (Nat.le_trans hb (Nat.le_of_lt hgl)) (by omega) ?_; intro A' c' w2 hown hgr hbel hat; have L2 := (hgr.block g hgl (Ne.symm Hne.out)).trans K3; have r2 := cell_of_blk L2 2; have s2 := free_of_blk L2 2)
  go_ret
  have hlt7 : w.heap.size = W.heap.size := by rw [hhp.out]
  refine ⟨rfl, A', c', ?_, ?_, ?_, fun b hb1 hb2 hb3 => ?_, ?_⟩
  · rw [blk_setCell L2 2]; rfl
  · rw [List.map_append]
    refine own_setCell hown _ ?_ _
    rcases hat with h | ⟨b, h, hbb⟩
    · rw [h]; exact Hne.out
    · rw [h]; intro e; injection e with e; replace e : b = g := e; simp only [World.size_setCell] at hbb; have := hgl; simp only [World.size_setCell] at this; omega
  · exact ((hBd.trans (((Below.refl base W).setCell hb _).setCell hb _)).trans hbel).setCell hb _
  · rw [Below.heap_setCell _ _ _ _ hb2, hgr.block b (by simp only [World.size_setCell]; omega) (fun e => hb3 e.symm), Below.heap_setCell _ _ _ _ hb2, Below.heap_setCell _ _ _ _ hb2, hhp.out]
  · rcases hat with h | ⟨b, h, hbb⟩
    · exact .inl h
    · exact .inr ⟨b, h, by simp only [World.size_setCell] at hbb; omega⟩
set_option maxRecDepth 100000 in
set_option maxHeartbeats 8000000 in
theorem bTake_out (base g : Nat) (f : Bk.Fr) (t : List UInt8) (i : Int) (hfin : f.last ≠ Bk.FIN) (hmay : (Bk.after f.op f.last).contains t = true) (h1 : f.last ≠ t) (h2 : t ≠ Bk.ELSE) (h3 : t = Bk.OUT) (v0 v1 v3 v4 mp cs : Value) (A : Option Addr) (c : Nat) (F : List Nat) (w : World)
    (K : w.heap[g]? = some (.cells #[v0, v1, .slice A f.seps.length c, v3, v4, mp, cs, .string ⟨f.last.toArray⟩] 88 (0, 0))) (H : FormAt w f.op mp cs F) (hb : base ≤ g) (HO : w.ownsRow base 3 1 (.slice A f.seps.length c) f.seps.length (f.seps.map (Value.int .i64)))
    (hne : (Value.slice A f.seps.length c).ownBlock ≠ some g) (hlen : f.seps.length ≤ 1000000) :
    Calls Tryz.prog 60 #[.pointer (some ⟨g, 0, none⟩), .string ⟨t.toArray⟩, .int .i64 i] w (TakeYes base g f i Bk.FIN v0 v1 v3 v4 mp cs A c w) := by
  have c5 : w.cell? ⟨g, 5, none⟩ = some mp := (cell_of_blk K 5).trans rfl
  have c7 : w.cell? ⟨g, 7, none⟩ = some (.string ⟨f.last.toArray⟩) := (cell_of_blk K 7).trans rfl
  obtain ⟨va, hlook, hR⟩ := H.look f.last
  have hla := after_len f.op f.last
  have HR := Lib.hid hR
  have hlk : ∀ n, (Instr.lookup 84 mp (.string ⟨f.last.toArray⟩) false).run Tryz.prog (w.drewN n) = .ok va (w.drewN n) := fun n => hlook _ (heap_drewN w n)
  have d1 : (f.last == [101, 110, 100]) = false := beq_eq_false_iff_ne.2 hfin
  have hcon : ∀ n, Calls Tryz.prog 16 #[va, .string ⟨t.toArray⟩] (w.drewN n) fun e w' => e = .returned (.bool true) ∧ w' = w.drewN n := fun n => (containsV _ _ hla t _ (HR.out.drewN n)).mono (by rw [hmay]; exact fun _ _ h => h)
  have Hcon := Lib.hid hcon
  have d2 : (f.last == t) = false := beq_eq_false_iff_ne.2 h1
  have d3 : (t == [69, 76, 83, 69]) = false := beq_eq_false_iff_ne.2 h2
  have d4 : (t == [79, 85, 84]) = true := beq_iff_eq.2 h3
  clear h1 h2 h3
  have HK := Lib.hid K
  have HHO := Lib.hid HO
  have Hne := Lib.hid hne
  clear hR K H hlook hmay hfin hcon HO hne
  unfold TakeYes
  go_enter Tryz.func60, Tryz.ntmps60
  go_wp2
  go_quiet (first | (go_at_call 16; exact Calls.quiet_of_same (Hcon.out _)))
  have K1 : (w.drewN nq).heap[g]? = some (.cells #[v0, v1, .slice A f.seps.length c, v3, v4, mp, cs, .string ⟨f.last.toArray⟩] 88 (0, 0)) := HK.out
  have HO1 : (w.drewN nq).ownsRow base 3 1 (.slice A f.seps.length c) f.seps.length (f.seps.map (Value.int .i64)) := HHO.out.kept ⟨rfl, rfl, rfl, Nat.le_refl _, fun _ _ _ => rfl⟩ (row := none) (by cases (Value.slice A f.seps.length c).ownBlock <;> simp)
  have hBd := bdrewN (Below.refl base w) nq
  have hhp : Hid ((w.drewN nq).heap = w.heap) := Lib.hid rfl
  generalize w.drewN nq = W at *
  have p2 := cell_of_blk K1 2
  have p7 := cell_of_blk K1 7
  have q2 := free_of_blk K1 2
  have q7 := free_of_blk K1 7
  have K2 := blk_setCell K1 7 (.string ⟨t.toArray⟩)
  have K3 := blk_setCell K2 7 (.string ⟨#[101, 110, 100]⟩)
  have hgl := lt_of_blk K3
  clear c5 c7 hlk
  go_wp2_with (at_builtin; refine append_lit base rfl _ _ 26 3 (.int .i64 0) 1 8 rfl Tryz.underlying26 info_int rfl (by decide) (by decide) A f.seps.length c (f.seps.map (Value.int .i64)) [.int .i64 i] rfl (by simp [go_sem]) rfl (by simp [Value.oneCell']) (own_setCell (own_setCell HO1 _ Hne.out _) _ Hne.out _) (Nat.le_trans hb (Nat.le_of_lt hgl)) (by omega) ?_; intro A' c' w2 hown hgr hbel hat; have L2 := (hgr.block g hgl (Ne.symm Hne.out)).trans K3; have r2 := cell_of_blk L2 2; have s2 := free_of_blk L2 2)
  go_ret
  have hlt7 : w.heap.size = W.heap.size := by rw [hhp.out]
  refine ⟨rfl, A', c', ?_, ?_, ?_, fun b hb1 hb2 hb3 => ?_, ?_⟩
  · rw [blk_setCell L2 2]; rfl
  · rw [List.map_append]
    refine own_setCell hown _ ?_ _
    rcases hat with h | ⟨b, h, hbb⟩
    · rw [h]; exact Hne.out
    · rw [h]; intro e; injection e with e; replace e : b = g := e; simp only [World.size_setCell] at hbb; have := hgl; simp only [World.size_setCell] at this; omega
  · exact ((hBd.trans (((Below.refl base W).setCell hb _).setCell hb _)).trans hbel).setCell hb _
  · rw [Below.heap_setCell _ _ _ _ hb2, hgr.block b (by simp only [World.size_setCell]; omega) (fun e => hb3 e.symm), Below.heap_setCell _ _ _ _ hb2, Below.heap_setCell _ _ _ _ hb2, hhp.out]
  · rcases hat with h | ⟨b, h, hbb⟩
    · exact .inl h
    · exact .inr ⟨b, h, by simp only [World.size_setCell] at hbb; omega⟩
theorem bTake_yes (base g : Nat) (f : Bk.Fr) (t : List UInt8) (i : Int) (l' : List UInt8) (ht : Bk.take f t = some l') (v0 v1 v3 v4 mp cs : Value) (A : Option Addr) (c : Nat) (F : List Nat) (w : World)
    (K : w.heap[g]? = some (.cells #[v0, v1, .slice A f.seps.length c, v3, v4, mp, cs, .string ⟨f.last.toArray⟩] 88 (0, 0))) (H : FormAt w f.op mp cs F) (hb : base ≤ g) (HO : w.ownsRow base 3 1 (.slice A f.seps.length c) f.seps.length (f.seps.map (Value.int .i64)))
    (hne : (Value.slice A f.seps.length c).ownBlock ≠ some g) (hlen : f.seps.length ≤ 1000000) :
    Calls Tryz.prog 60 #[.pointer (some ⟨g, 0, none⟩), .string ⟨t.toArray⟩, .int .i64 i] w (TakeYes base g f i l' v0 v1 v3 v4 mp cs A c w) := by
  unfold Bk.take at ht
  by_cases hfin : f.last = Bk.FIN
  · rw [if_pos hfin] at ht; cases ht
  rw [if_neg hfin] at ht
  cases hmay : (Bk.after f.op f.last).contains t with
  | false => rw [hmay, if_neg (by decide)] at ht; cases ht
  | true =>
    rw [hmay, if_pos rfl] at ht
    injection ht with ht
    by_cases h1 : f.last = t
    · rw [if_pos (.inl h1)] at ht
      subst ht
      exact bTake_again base g f t i hfin hmay h1 v0 v1 v3 v4 mp cs A c F w K H hb HO hne hlen
    by_cases h2 : t = Bk.ELSE
    · rw [if_pos (.inr (.inl h2))] at ht
      subst ht
      exact bTake_else base g f t i hfin hmay h1 h2 v0 v1 v3 v4 mp cs A c F w K H hb HO hne hlen
    by_cases h3 : t = Bk.OUT
    · rw [if_pos (.inr (.inr h3))] at ht
      subst ht
      exact bTake_out base g f t i hfin hmay h1 h2 h3 v0 v1 v3 v4 mp cs A c F w K H hb HO hne hlen
    rw [if_neg (by rintro (h | h | h) <;> contradiction)] at ht
    subst ht
    exact bTake_plain base g f t i hfin hmay h1 h2 h3 v0 v1 v3 v4 mp cs A c F w K H hb HO hne hlen
end Go.Proofs.YtjghijeblddijaaGreatDoor
