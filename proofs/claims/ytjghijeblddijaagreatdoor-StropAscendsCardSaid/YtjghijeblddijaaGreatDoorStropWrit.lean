/- Walks: written. -/
import Derived.Test.YtjghijeblddijaaGreatDoorStropCheck
namespace Go.Proofs.YtjghijeblddijaaGreatDoor
open Go.RowKit

theorem index3_0 (a b c : Value) (w : World) : (Instr.index 164 (.agg #[a, b, c]) (.int .i64 0)).run Tryz.prog w = .ok a w := by
  have hz := Tryz.sizeOf9
  have ha := Tryz.isAgg9
  simp [Instr.index, run_underlying Tryz.underlying164, asIntOf, part, go_sem, Sem.run_bind, hz, ha]
theorem index3_1 (a b c : Value) (w : World) : (Instr.index 164 (.agg #[a, b, c]) (.int .i64 1)).run Tryz.prog w = .ok b w := by
  have hz := Tryz.sizeOf9
  have ha := Tryz.isAgg9
  simp [Instr.index, run_underlying Tryz.underlying164, asIntOf, part, go_sem, Sem.run_bind, hz, ha]
theorem index3_2 (a b c : Value) (w : World) : (Instr.index 164 (.agg #[a, b, c]) (.int .i64 2)).run Tryz.prog w = .ok c w := by
  have hz := Tryz.sizeOf9
  have ha := Tryz.isAgg9
  simp [Instr.index, run_underlying Tryz.underlying164, asIntOf, part, go_sem, Sem.run_bind, hz, ha]

/-- What is held on to, while ToLower is called twice. -/
abbrev Held (w : World) (t : List UInt8) (W : World) : Prop := W.cell? ⟨w.heap.size, 1, none⟩ = some (.string ⟨t.toArray⟩) ∧ Below w.heap.size w W
theorem Held.on {w : World} {t : List UInt8} {W W' : World} (h : Held w t W) (hb : Below W.heap.size W W') : Held w t W' := ⟨cell_later hb h.1, bjoin h.2 h.2.size hb⟩

set_option maxRecDepth 100000 in
set_option maxHeartbeats 8000000 in
theorem written_bold (x : Sp.Sym) (r : Nat) (hr : r ≤ 2) (hk : x.kind = 1) (hs : x.text.length ≤ 100000) (ha : ∀ c ∈ x.text, c.toNat < 128) (w : World) :
    Calls Tryz.prog 75 #[symV x, .int .i64 (r : Int)] w fun e w' => e = .returned (.string ⟨(Sp.written x r).toArray⟩) ∧ Below w.heap.size w w' := by
  have hfin : Sp.written x r = if r = 0 then x.text else if r = 1 then 46 :: x.text.map Sp.low else 39 :: x.text.map Sp.low ++ [39] := by unfold Sp.written; rw [if_pos hk]
  rw [hfin]
  obtain ⟨k, t, p⟩ := x
  dsimp only at hk hs ha ⊢
  subst hk
  clear hfin
  unfold symV
  dsimp only
  have hB : Below w.heap.size w (w.alloc (.cells #[.int .i64 1, .string ⟨t.toArray⟩, .int .i64 p] 28)) := below_alloc0 (Below.refl _ _) _
  have hq : (w.alloc (.cells #[.int .i64 1, .string ⟨t.toArray⟩, .int .i64 p] 28)).cell? ⟨w.heap.size, 1, none⟩ = some (.string ⟨t.toArray⟩) :=
    (cell_of_blk (heap_alloc_new w _) 1).trans rfl
  have hH : Held w t (w.alloc (.cells #[.int .i64 1, .string ⟨t.toArray⟩, .int .i64 p] 28)).drew := ⟨hq, hB.drew⟩
  have hH0 : Held w t (w.alloc (.cells #[.int .i64 1, .string ⟨t.toArray⟩, .int .i64 p] 28)) := ⟨hq, hB⟩
  have hl := lower_c t (by omega) ha
  generalize hlo : t.map Sp.low = lo at hl ⊢
  have hlen : lo.length ≤ 100000 := by rw [← hlo, List.length_map]; exact hs
  have h46 := bcat [46] lo
  have h39 := bcat [39] lo
  have h392 := bcat (39 :: lo) [39]
  have hsum : 1 + lo.length ≤ 9223372036854775807 := by omega
  have hsum2 : 1 + lo.length + 1 ≤ 9223372036854775807 := by omega
  have n1 : ¬ 9223372036854775807 < 1 + lo.length := by omega
  have n2 : ¬ 9223372036854775807 < 1 + lo.length + 1 := by omega
  have hi0 := index3_0
  have hi1 := index3_1
  have hi2 := index3_2
  have Hl := Lib.hid hl
  have H46 := Lib.hid h46
  have H39 := Lib.hid h39
  have H392 := Lib.hid h392
  have Ha := Lib.hid ha
  clear hl h46 h39 h392 ha hlo
  have hr3 : r = 0 ∨ r = 1 ∨ r = 2 := by omega
  rcases hr3 with rfl | rfl | rfl
  · rw [if_pos rfl]
    go_enter Tryz.func75, Tryz.ntmps75
    go_wp2
    go_region_held3 (fun w' => w'.cell? ⟨w.heap.size, 1, none⟩ = some (.string ⟨t.toArray⟩) ∧ Below w.heap.size w w') (first | exact hH | exact hH0 | assumption | exact Held.on (by assumption) (by assumption)) (first | (go_at_call 130; refine (Hl.out _).mono ?_; rintro e w' ⟨rfl, hb1⟩))
    all_goals
      rename_i hheld
      have hq2 := hheld.1
      go_wp2
      go_ret
      exact ⟨rfl, hheld.2⟩
  · rw [if_neg (by decide), if_pos rfl, show (46 :: lo) = [46] ++ lo from rfl, ← H46.out]
    go_enter Tryz.func75, Tryz.ntmps75
    go_wp2
    go_region_held3 (fun w' => w'.cell? ⟨w.heap.size, 1, none⟩ = some (.string ⟨t.toArray⟩) ∧ Below w.heap.size w w') (first | exact hH | exact hH0 | assumption | exact Held.on (by assumption) (by assumption)) (first | (go_at_call 130; refine (Hl.out _).mono ?_; rintro e w' ⟨rfl, hb1⟩))
    all_goals
      rename_i hheld
      have hq2 := hheld.1
      go_wp2
      go_ret
      exact ⟨rfl, hheld.2⟩
  · rw [if_neg (by decide), if_neg (by decide), ← H392.out, show (39 :: lo) = [39] ++ lo from rfl, ← H39.out]
    go_enter Tryz.func75, Tryz.ntmps75
    go_wp2
    go_region_held3 (fun w' => w'.cell? ⟨w.heap.size, 1, none⟩ = some (.string ⟨t.toArray⟩) ∧ Below w.heap.size w w') (first | exact hH | exact hH0 | assumption | exact Held.on (by assumption) (by assumption)) (first | (go_at_call 130; refine (Hl.out _).mono ?_; rintro e w' ⟨rfl, hb1⟩))
    all_goals
      rename_i hheld
      have hq2 := hheld.1
      go_wp2
      go_ret
      exact ⟨rfl, hheld.2⟩

set_option maxRecDepth 100000 in
set_option maxHeartbeats 8000000 in
theorem written_else (x : Sp.Sym) (r : Nat) (hk : x.kind ≠ 1) (hs : x.text.length ≤ 100000) (w : World) (hM : MaxIn w) :
    Calls Tryz.prog 75 #[symV x, .int .i64 (r : Int)] w fun e w' => e = .returned (.string ⟨(Sp.written x r).toArray⟩) ∧ Below w.heap.size w w' := by
  have hfin : Sp.written x r = Sp.asText x.kind x.text := by unfold Sp.written; rw [if_neg hk]
  rw [hfin]
  obtain ⟨k, t, p⟩ := x
  dsimp only at hk hs ⊢
  clear hfin
  unfold symV
  dsimp only
  have hB : Below w.heap.size w (w.alloc (.cells #[.int .i64 k, .string ⟨t.toArray⟩, .int .i64 p] 28)) := below_alloc0 (Below.refl _ _) _
  have hr := replace_c t (by omega) _ (hM.later hB)
  have hdl := Sp.dq_len t
  have hc1 : (⟨#[34]⟩ : ByteArray) ++ ⟨(Sp.dq t).toArray⟩ ++ ⟨#[34]⟩ = ⟨(34 :: Sp.dq t ++ [34]).toArray⟩ := by
    rw [show (⟨#[34]⟩ : ByteArray) = ⟨([34] : List UInt8).toArray⟩ from rfl, bcat, bcat]; rfl
  have hc2 : (⟨#[36]⟩ : ByteArray) ++ ⟨t.toArray⟩ ++ ⟨#[36]⟩ = ⟨(36 :: t ++ [36]).toArray⟩ := by
    rw [show (⟨#[36]⟩ : ByteArray) = ⟨([36] : List UInt8).toArray⟩ from rfl, bcat, bcat]; rfl
  have Hr := Lib.hid hr
  have Hc1 := Lib.hid hc1
  have Hc2 := Lib.hid hc2
  have e1 : (k == 1) = false := beq_eq_false_iff_ne.2 hk
  clear hr hc1 hc2 hk
  by_cases h6 : k = 6
  · have e6 : (k == 6) = true := by rw [h6]; rfl
    have hT : Sp.asText k t = 34 :: Sp.dq t ++ [34] := by unfold Sp.asText; rw [if_pos h6]
    rw [hT, ← Hc1.out]
    have s1 : 1 + (Sp.dq t).length ≤ 9223372036854775807 := by omega
    have s2 : 1 + (Sp.dq t).length + 1 ≤ 9223372036854775807 := by omega
    clear hT h6
    go_enter Tryz.func75, Tryz.ntmps75
    go_wp2_with (first | (go_at_call 127; refine Hr.out.mono ?_; rintro e w1 ⟨rfl, hb1⟩))
    go_ret
    exact ⟨rfl, bjoin hB hB.size hb1⟩
  by_cases h7 : k = 7
  · have e6 : (k == 6) = false := beq_eq_false_iff_ne.2 h6
    have e7 : (k == 7) = true := by rw [h7]; rfl
    have hT : Sp.asText k t = 36 :: t ++ [36] := by unfold Sp.asText; rw [if_neg h6, if_pos h7]
    rw [hT, ← Hc2.out]
    have s1 : 1 + t.length ≤ 9223372036854775807 := by omega
    have s2 : 1 + t.length + 1 ≤ 9223372036854775807 := by omega
    clear hT h6 h7
    go_enter Tryz.func75, Tryz.ntmps75
    go_wp2
    go_ret
    exact ⟨rfl, hB⟩
  · have e6 : (k == 6) = false := beq_eq_false_iff_ne.2 h6
    have e7 : (k == 7) = false := beq_eq_false_iff_ne.2 h7
    have hT : Sp.asText k t = t := by unfold Sp.asText; rw [if_neg h6, if_neg h7]
    rw [hT]
    clear hT h6 h7
    go_enter Tryz.func75, Tryz.ntmps75
    go_wp2
    go_ret
    exact ⟨rfl, hB⟩
theorem written_c (x : Sp.Sym) (r : Nat) (hr : r ≤ 2) (hs : x.text.length ≤ 100000) (ha : ∀ c ∈ x.text, c.toNat < 128) (w : World) (hM : MaxIn w) :
    Calls Tryz.prog 75 #[symV x, .int .i64 (r : Int)] w fun e w' => e = .returned (.string ⟨(Sp.written x r).toArray⟩) ∧ Below w.heap.size w w' := by
  by_cases hk : x.kind = 1
  · exact written_bold x r hr hk hs ha w
  · exact written_else x r hk hs w hM
end Go.Proofs.YtjghijeblddijaaGreatDoor
