/- Walks: the deferred function of Symbols. -/
import Derived.Test.YtjghijeblddijaaGreatDoorStropWalkU
import Derived.Defers
import Derived.Recover
import Derived.Laws.Pointers
namespace Go.Proofs.YtjghijeblddijaaGreatDoor
open Go.RowKit

theorem assert_fault (W : World) (v : Value) (x : TypeId) : (Instr.typeAssert (.iface 35 v) x 35 true).run Tryz.prog W = .ok (.tuple #[v, .bool true]) W := by kernel_rfl

set_option maxRecDepth 100000 in
set_option maxHeartbeats 4000000 in
theorem catch_panicking (B b0 b1 : Nat) (hB0 : B ≤ b0) (hB1 : B ≤ b1) (hne : b0 ≠ b1) (at_ cd : Int) (older : List PanicEntry) (w : World) (v0 : Value) (u0 u1 : Value)
    (k0 : w.heap[b0]? = some (.cells #[v0] 22 (0, 0))) (k1 : w.heap[b1]? = some (.cells #[u0, u1] 35 (0, 0))) :
    CallsD Tryz.prog 79 #[.pointer (some ⟨b0, 0, none⟩), .pointer (some ⟨b1, 0, none⟩)] (.panicking ({ v := .iface 35 (.agg #[.int .i64 at_, .int .i64 cd]), recovered := false } :: older)) w fun e u' w' =>
      e = .returned (.tuple #[]) ∧ u' = .panicking ({ v := .iface 35 (.agg #[.int .i64 at_, .int .i64 cd]), recovered := true } :: older) ∧
      w'.heap[b0]? = some (.cells #[.slice none 0 0] 22 (0, 0)) ∧ w'.heap[b1]? = some (.cells #[.int .i64 at_, .int .i64 cd] 35 (0, 0)) ∧ Below B w w' := by
  have l0 := lt_of_blk k0
  have l1 := lt_of_blk k1
  have K0 : (w.alloc (.cells #[.int .i64 at_, .int .i64 cd] 35)).heap[b0]? = some (.cells #[v0] 22 (0, 0)) := (heap_alloc_old _ _ l0).trans k0
  have K1 : (w.alloc (.cells #[.int .i64 at_, .int .i64 cd] 35)).heap[b1]? = some (.cells #[u0, u1] 35 (0, 0)) := (heap_alloc_old _ _ l1).trans k1
  have c0 : (w.alloc (.cells #[.int .i64 at_, .int .i64 cd] 35)).cell? ⟨b0, 0, none⟩ = some v0 := (cell_of_blk K0 0).trans rfl
  have c1 : (w.alloc (.cells #[.int .i64 at_, .int .i64 cd] 35)).cell? ⟨b1, 0, none⟩ = some u0 := (cell_of_blk K1 0).trans rfl
  have c2 : (w.alloc (.cells #[.int .i64 at_, .int .i64 cd] 35)).cell? ⟨b1, 1, none⟩ = some u1 := (cell_of_blk K1 1).trans rfl
  have f0 := free_of_blk K0 0
  have f1 := free_of_blk K1 0
  have f2 := free_of_blk K1 1
  have d0 : w.cell? ⟨b0, 0, none⟩ = some v0 := (cell_of_blk k0 0).trans rfl
  have d1 : w.cell? ⟨b1, 0, none⟩ = some u0 := (cell_of_blk k1 0).trans rfl
  have d2 : w.cell? ⟨b1, 1, none⟩ = some u1 := (cell_of_blk k1 1).trans rfl
  have g0 := free_of_blk k0 0
  have g1 := free_of_blk k1 0
  have g2 := free_of_blk k1 1
  have hta := assert_fault
  have hsz : B ≤ w.heap.size := by omega
  have HD0 := Lib.hid k0
  have HD1 := Lib.hid k1
  clear k0 k1 K0 K1
  refine callsD_of_wpS Tryz.func79 rfl fun c₀ cs hu => ?_
  simp only [Tryz.ntmps79, List.size_toArray, List.length_cons, List.length_nil, Nat.reduceAdd, Nat.reduceSub, Array.replicate_succ, Array.replicate_zero, List.push_toArray, List.append_toArray, List.nil_append, List.cons_append]
  apply wpS_seq
  apply wpS_region
  simp [wpOpsS, go_sem, recoverD, hu, Exit.thenS]
  refine wpS_of_wp ?_
  go_wp2
  go_region
  go_wp2
  refine ⟨rfl, _, rfl, .tuple #[], results_none rfl _ _ _, rfl, rfl, ?_, ?_, ?_⟩
  · have e0 := blk_setCell (g := b0) HD0.out 0 (.slice none 0 0)
    have e1 : ((((w.setCell ⟨b0, 0, none⟩ (.slice none 0 0)).setCell ⟨b1, 0, none⟩ (.int .i64 at_)).setCell ⟨b1, 1, none⟩ (.int .i64 cd))).heap[b0]? = some (.cells #[.slice none 0 0] 22 (0, 0)) := by
      rw [Below.heap_setCell _ _ _ b0 hne, Below.heap_setCell _ _ _ b0 hne, e0]; rfl
    exact (heap_alloc_old _ _ (lt_of_blk e1)).trans e1
  · have e0 : (w.setCell ⟨b0, 0, none⟩ (.slice none 0 0)).heap[b1]? = some (.cells #[u0, u1] 35 (0, 0)) := by
      rw [Below.heap_setCell _ _ _ b1 (Ne.symm hne)]; exact HD1.out
    have e1 := blk_setCell (blk_setCell e0 0 (.int .i64 at_)) 1 (.int .i64 cd)
    exact (heap_alloc_old _ _ (lt_of_blk e1)).trans e1
  · exact ((((Below.refl B w).setCell hB0 _).setCell hB1 _).setCell hB1 _ |>.alloc (by simpa using hsz) _).drew
end Go.Proofs.YtjghijeblddijaaGreatDoor
