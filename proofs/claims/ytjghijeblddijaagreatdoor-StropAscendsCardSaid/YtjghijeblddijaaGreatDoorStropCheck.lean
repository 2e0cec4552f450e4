/- Walks: Check, joins. -/
import Derived.Test.YtjghijeblddijaaGreatDoorStropWalkZ
namespace Go.Proofs.YtjghijeblddijaaGreatDoor
open Go.RowKit

/-- A symbol as a value. -/
def symV (x : Sp.Sym) : Value := .agg #[.int .i64 x.kind, .string ⟨x.text.toArray⟩, .int .i64 x.pos]

set_option maxRecDepth 100000 in
set_option maxHeartbeats 4000000 in
theorem check_kind (x : Sp.Sym) (h : x.kind < 0 ∨ 8 < x.kind) (w : World) :
    Calls Tryz.prog 36 #[symV x] w fun e w' => e = .returned (.int .i64 (Sp.check x)) ∧ Below w.heap.size w w' := by
  have hfin : Sp.check x = 13 := by unfold Sp.check; rw [if_pos h]
  rw [hfin]
  obtain ⟨k, t, p⟩ := x
  clear hfin
  unfold symV
  dsimp only at h ⊢
  go_enter Tryz.func36, Tryz.ntmps36
  go_wp2
  all_goals (go_ret; exact ⟨rfl, below_alloc0 (Below.refl _ _) _⟩)
set_option maxRecDepth 100000 in
set_option maxHeartbeats 4000000 in
theorem check_end (x : Sp.Sym) (h : x.kind = 0) (w : World) :
    Calls Tryz.prog 36 #[symV x] w fun e w' => e = .returned (.int .i64 (Sp.check x)) ∧ Below w.heap.size w w' := by
  have hfin : Sp.check x = if x.text.isEmpty = true then 0 else 2 := by
    unfold Sp.check
    rw [if_neg (by rw [h]; omega), if_pos h]
    cases x.text <;> rfl
  rw [hfin]
  obtain ⟨k, t, p⟩ := x
  dsimp only at h ⊢
  subst h
  clear hfin
  unfold symV
  dsimp only
  cases ht : t.isEmpty with
  | true =>
    rw [if_pos rfl]
    go_enter Tryz.func36, Tryz.ntmps36
    go_wp2
    all_goals (go_ret; exact ⟨rfl, below_alloc0 (Below.refl _ _) _⟩)
  | false =>
    rw [if_neg (by decide)]
    go_enter Tryz.func36, Tryz.ntmps36
    go_wp2
    all_goals (go_ret; exact ⟨rfl, below_alloc0 (Below.refl _ _) _⟩)
set_option maxRecDepth 100000 in
set_option maxHeartbeats 4000000 in
theorem check_form (x : Sp.Sym) (h1 : 0 < x.kind) (h8 : x.kind ≤ 8) (hs : x.text.length ≤ 100000) (ha : ∀ c ∈ x.text, c.toNat < 128) (w : World) (hS : SignsIn w) (hM : MaxIn w) :
    Calls Tryz.prog 36 #[symV x] w fun e w' => e = .returned (.int .i64 (Sp.check x)) ∧ Below w.heap.size w w' := by
  have hfin : Sp.check x = if Sp.formed x.kind x.text = true then 0 else 2 := by
    unfold Sp.check
    rw [if_neg (by omega), if_neg (by omega)]
  rw [hfin]
  obtain ⟨k, t, p⟩ := x
  dsimp only at h1 h8 hs ha ⊢
  have hB : Below w.heap.size w (w.alloc (.cells #[.int .i64 k, .string ⟨t.toArray⟩, .int .i64 p] 28)) := below_alloc0 (Below.refl _ _) _
  have hc := formed_c k t hs ha _ (hS.later hB) (hM.later hB)
  have Hc := Lib.hid hc
  have e1 : decide (k < 0) = false := by simp; omega
  have e2 : decide (8 < k) = false := by simp; omega
  have e3 : (k == 0) = false := by rw [beq_eq_false_iff_ne]; omega
  have e4 : (k != 0) = true := by rw [bne_iff_ne]; omega
  clear hfin hc ha h1 h8
  unfold symV
  dsimp only
  cases hf : Sp.formed k t with
  | true =>
    rw [if_pos rfl]
    have Hf := Lib.hid hf
    clear hf
    go_enter Tryz.func36, Tryz.ntmps36
    go_wp2_with (first | (go_at_call 69; refine Hc.out.mono ?_; rw [Hf.out]; rintro e w1 ⟨rfl, hb1⟩))
    all_goals (go_ret; exact ⟨rfl, bjoin hB hB.size hb1⟩)
  | false =>
    rw [if_neg (by decide)]
    have Hf := Lib.hid hf
    clear hf
    go_enter Tryz.func36, Tryz.ntmps36
    go_wp2_with (first | (go_at_call 69; refine Hc.out.mono ?_; rw [Hf.out]; rintro e w1 ⟨rfl, hb1⟩))
    all_goals (go_ret; exact ⟨rfl, bjoin hB hB.size hb1⟩)
theorem check_c (x : Sp.Sym) (hs : x.text.length ≤ 100000) (ha : ∀ c ∈ x.text, c.toNat < 128) (w : World) (hS : SignsIn w) (hM : MaxIn w) :
    Calls Tryz.prog 36 #[symV x] w fun e w' => e = .returned (.int .i64 (Sp.check x)) ∧ Below w.heap.size w w' := by
  by_cases h : x.kind < 0 ∨ 8 < x.kind
  · exact check_kind x h w
  by_cases h0 : x.kind = 0
  · exact check_end x h0 w
  exact check_form x (by omega) (by omega) hs ha w hS hM
set_option maxRecDepth 100000 in
set_option maxHeartbeats 4000000 in
theorem joins_c (x : Sp.Sym) (w : World) :
    Calls Tryz.prog 73 #[symV x] w fun e w' => e = .returned (.bool (Sp.joins x)) ∧ Below w.heap.size w w' := by
  obtain ⟨k, t, p⟩ := x
  unfold symV Sp.joins
  dsimp only
  go_enter Tryz.func73, Tryz.ntmps73
  go_wp2
  all_goals (go_ret; exact ⟨ret_bool (by simp [*]), below_alloc0 (Below.refl _ _) _⟩)
end Go.Proofs.YtjghijeblddijaaGreatDoor
