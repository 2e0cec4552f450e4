/- Walks: Check, joins. Walks: written. Walks: IndexFunc over symbols. -/
import Derived.Test.YtjghijeblddijaaGreatDoorStropWalkZ
namespace Go.Proofs.YtjghijeblddijaaGreatDoor
open Go.RowKit

/-- A symbol as a value. -/
def symV (x : Sp.Sym) : Value := .agg #[.int .i64 x.kind, .string ⟨x.text.toArray⟩, .int .i64 x.pos]

set_option maxRecDepth 100000 in
set_option maxHeartbeats 4000000 in
theorem check_kind (x : Sp.Sym) (h : x.kind < 0 ∨ 8 < x.kind) (w : World) :
    Calls Tryz.prog 36 #[symV x] w fun e w' => e = .returned (.int .i64 (Sp.check x)) ∧ Below w.heap.size w w' := by
  have hfin : Sp.check x = 13 := by unfold Sp.check; rw [if_pos h]
  rw [hfin]
  obtain ⟨k, t, p⟩ := x
  clear hfin
  unfold symV
  dsimp only at h ⊢
  go_enter Tryz.func36, Tryz.ntmps36
  go_wp2
  all_goals (go_ret; exact ⟨rfl, below_alloc0 (Below.refl _ _) _⟩)
set_option maxRecDepth 100000 in
set_option maxHeartbeats 4000000 in
theorem check_end (x : Sp.Sym) (h : x.kind = 0) (w : World) :
    Calls Tryz.prog 36 #[symV x] w fun e w' => e = .returned (.int .i64 (Sp.check x)) ∧ Below w.heap.size w w' := by
  have hfin : Sp.check x = if x.text.isEmpty = true then 0 else 2 := by
    unfold Sp.check
    rw [if_neg (by rw [h]; omega), if_pos h]
    cases x.text <;> rfl
  rw [hfin]
  obtain ⟨k, t, p⟩ := x
  dsimp only at h ⊢
  subst h
  clear hfin
  unfold symV
  dsimp only
  cases ht : t.isEmpty with
  | true =>
    rw [if_pos rfl]
    go_enter Tryz.func36, Tryz.ntmps36
    go_wp2
    all_goals (go_ret; exact ⟨rfl, below_alloc0 (Below.refl _ _) _⟩)
  | false =>
    rw [if_neg (by decide)]
    go_enter Tryz.func36, Tryz.ntmps36
    go_wp2
    all_goals (go_ret; exact ⟨rfl, below_alloc0 (Below.refl _ _) _⟩)
set_option maxRecDepth 100000 in
set_option maxHeartbeats 4000000 in
theorem check_form (x : Sp.Sym) (h1 : 0 < x.kind) (h8 : x.kind ≤ 8) (hs : x.text.length ≤ 100000) (ha : True) (w : World) (hS : SignsIn w) (hM : MaxIn w) :
    Calls Tryz.prog 36 #[symV x] w fun e w' => e = .returned (.int .i64 (Sp.check x)) ∧ Below w.heap.size w w' := by
  have hfin : Sp.check x = if Sp.formed x.kind x.text = true then 0 else 2 := by
    unfold Sp.check
    rw [if_neg (by omega), if_neg (by omega)]
  rw [hfin]
  obtain ⟨k, t, p⟩ := x
  dsimp only at h1 h8 hs ha ⊢
  have hB : Below w.heap.size w (w.alloc (.cells #[.int .i64 k, .string ⟨t.toArray⟩, .int .i64 p] 28)) := below_alloc0 (Below.refl _ _) _
  have hc := formed_c k t hs ha _ (hS.later hB) (hM.later hB)
  have Hc := Lib.hid hc
  have e1 : decide (k < 0) = false := by simp; omega
  have e2 : decide (8 < k) = false := by simp; omega
  have e3 : (k == 0) = false := by rw [beq_eq_false_iff_ne]; omega
  have e4 : (k != 0) = true := by rw [bne_iff_ne]; omega
  clear hfin hc ha h1 h8
  unfold symV
  dsimp only
  cases hf : Sp.formed k t with
  | true =>
    rw [if_pos rfl]
    have Hf := Lib.hid hf
    clear hf
    go_enter Tryz.func36, Tryz.ntmps36
    go_wp2_with (first | (go_at_call 69; refine Hc.out.mono ?_; rw [Hf.out]; rintro e w1 ⟨rfl, hb1⟩))
    all_goals (go_ret; exact ⟨rfl, bjoin hB hB.size hb1⟩)
  | false =>
    rw [if_neg (by decide)]
    have Hf := Lib.hid hf
    clear hf
    go_enter Tryz.func36, Tryz.ntmps36
    go_wp2_with (first | (go_at_call 69; refine Hc.out.mono ?_; rw [Hf.out]; rintro e w1 ⟨rfl, hb1⟩))
    all_goals (go_ret; exact ⟨rfl, bjoin hB hB.size hb1⟩)
theorem check_any (x : Sp.Sym) (hs : x.text.length ≤ 100000) (ha : True) (w : World) (hS : SignsIn w) (hM : MaxIn w) :
    Calls Tryz.prog 36 #[symV x] w fun e w' => e = .returned (.int .i64 (Sp.check x)) ∧ Below w.heap.size w w' := by
  by_cases h : x.kind < 0 ∨ 8 < x.kind
  · exact check_kind x h w
  by_cases h0 : x.kind = 0
  · exact check_end x h0 w
  exact check_form x (by omega) (by omega) hs ha w hS hM
theorem check_c (x : Sp.Sym) (hs : x.text.length ≤ 100000) (_ha : ∀ c ∈ x.text, c.toNat < 128) (w : World) (hS : SignsIn w) (hM : MaxIn w) :
    Calls Tryz.prog 36 #[symV x] w fun e w' => e = .returned (.int .i64 (Sp.check x)) ∧ Below w.heap.size w w' :=
  check_any x hs trivial w hS hM
set_option maxRecDepth 100000 in
set_option maxHeartbeats 4000000 in
theorem joins_c (x : Sp.Sym) (w : World) :
    Calls Tryz.prog 73 #[symV x] w fun e w' => e = .returned (.bool (Sp.joins x)) ∧ Below w.heap.size w w' := by
  obtain ⟨k, t, p⟩ := x
  unfold symV Sp.joins
  dsimp only
  go_enter Tryz.func73, Tryz.ntmps73
  go_wp2
  all_goals (go_ret; exact ⟨ret_bool (by simp [*]), below_alloc0 (Below.refl _ _) _⟩)
end Go.Proofs.YtjghijeblddijaaGreatDoor
namespace Go.Proofs.YtjghijeblddijaaGreatDoor
open Go.RowKit

theorem index3_0 (a b c : Value) (w : World) : (Instr.index 164 (.agg #[a, b, c]) (.int .i64 0)).run Tryz.prog w = .ok a w := by
  have hz := Tryz.sizeOf9
  have ha := Tryz.isAgg9
  simp [Instr.index, run_underlying Tryz.underlying164, asIntOf, part, go_sem, Sem.run_bind, hz, ha]
theorem index3_1 (a b c : Value) (w : World) : (Instr.index 164 (.agg #[a, b, c]) (.int .i64 1)).run Tryz.prog w = .ok b w := by
  have hz := Tryz.sizeOf9
  have ha := Tryz.isAgg9
  simp [Instr.index, run_underlying Tryz.underlying164, asIntOf, part, go_sem, Sem.run_bind, hz, ha]
theorem index3_2 (a b c : Value) (w : World) : (Instr.index 164 (.agg #[a, b, c]) (.int .i64 2)).run Tryz.prog w = .ok c w := by
  have hz := Tryz.sizeOf9
  have ha := Tryz.isAgg9
  simp [Instr.index, run_underlying Tryz.underlying164, asIntOf, part, go_sem, Sem.run_bind, hz, ha]

/-- What is held on to, while ToLower is called twice. -/
abbrev Held (w : World) (t : List UInt8) (W : World) : Prop := W.cell? ⟨w.heap.size, 1, none⟩ = some (.string ⟨t.toArray⟩) ∧ Below w.heap.size w W
theorem Held.on {w : World} {t : List UInt8} {W W' : World} (h : Held w t W) (hb : Below W.heap.size W W') : Held w t W' := ⟨cell_later hb h.1, bjoin h.2 h.2.size hb⟩

set_option maxRecDepth 100000 in
set_option maxHeartbeats 8000000 in
theorem written_bold (x : Sp.Sym) (r : Nat) (hr : r ≤ 2) (hk : x.kind = 1) (hs : x.text.length ≤ 100000) (ha : ∀ c ∈ x.text, c.toNat < 128) (w : World) :
    Calls Tryz.prog 75 #[symV x, .int .i64 (r : Int)] w fun e w' => e = .returned (.string ⟨(Sp.written x r).toArray⟩) ∧ Below w.heap.size w w' := by
  have hfin : Sp.written x r = if r = 0 then x.text else if r = 1 then 46 :: x.text.map Sp.low else 39 :: x.text.map Sp.low ++ [39] := by unfold Sp.written; rw [if_pos hk]
  rw [hfin]
  obtain ⟨k, t, p⟩ := x
  dsimp only at hk hs ha ⊢
  subst hk
  clear hfin
  unfold symV
  dsimp only
  have hB : Below w.heap.size w (w.alloc (.cells #[.int .i64 1, .string ⟨t.toArray⟩, .int .i64 p] 28)) := below_alloc0 (Below.refl _ _) _
  have hq : (w.alloc (.cells #[.int .i64 1, .string ⟨t.toArray⟩, .int .i64 p] 28)).cell? ⟨w.heap.size, 1, none⟩ = some (.string ⟨t.toArray⟩) :=
    (cell_of_blk (heap_alloc_new w _) 1).trans rfl
  have hH : Held w t (w.alloc (.cells #[.int .i64 1, .string ⟨t.toArray⟩, .int .i64 p] 28)).drew := ⟨hq, hB.drew⟩
  have hH0 : Held w t (w.alloc (.cells #[.int .i64 1, .string ⟨t.toArray⟩, .int .i64 p] 28)) := ⟨hq, hB⟩
  have hl := lower_c t (by omega) ha
  generalize hlo : t.map Sp.low = lo at hl ⊢
  have hlen : lo.length ≤ 100000 := by rw [← hlo, List.length_map]; exact hs
  have h46 := bcat [46] lo
  have h39 := bcat [39] lo
  have h392 := bcat (39 :: lo) [39]
  have hsum : 1 + lo.length ≤ 9223372036854775807 := by omega
  have hsum2 : 1 + lo.length + 1 ≤ 9223372036854775807 := by omega
  have n1 : ¬ 9223372036854775807 < 1 + lo.length := by omega
  have n2 : ¬ 9223372036854775807 < 1 + lo.length + 1 := by omega
  have hi0 := index3_0
  have hi1 := index3_1
  have hi2 := index3_2
  have Hl := Lib.hid hl
  have H46 := Lib.hid h46
  have H39 := Lib.hid h39
  have H392 := Lib.hid h392
  have Ha := Lib.hid ha
  clear hl h46 h39 h392 ha hlo
  have hr3 : r = 0 ∨ r = 1 ∨ r = 2 := by omega
  rcases hr3 with rfl | rfl | rfl
  · rw [if_pos rfl]
    go_enter Tryz.func75, Tryz.ntmps75
    go_wp2
    go_region_held3 (fun w' => w'.cell? ⟨w.heap.size, 1, none⟩ = some (.string ⟨t.toArray⟩) ∧ Below w.heap.size w w') (first | exact hH | exact hH0 | assumption | exact Held.on (by assumption) (by assumption)) (first | (go_at_call 130; refine (Hl.out _).mono ?_; rintro e w' ⟨rfl, hb1⟩))
    all_goals
      rename_i hheld
      have hq2 := hheld.1
      go_wp2
      go_ret
      exact ⟨rfl, hheld.2⟩
  · rw [if_neg (by decide), if_pos rfl, show (46 :: lo) = [46] ++ lo from rfl, ← H46.out]
    go_enter Tryz.func75, Tryz.ntmps75
    go_wp2
    go_region_held3 (fun w' => w'.cell? ⟨w.heap.size, 1, none⟩ = some (.string ⟨t.toArray⟩) ∧ Below w.heap.size w w') (first | exact hH | exact hH0 | assumption | exact Held.on (by assumption) (by assumption)) (first | (go_at_call 130; refine (Hl.out _).mono ?_; rintro e w' ⟨rfl, hb1⟩))
    all_goals
      rename_i hheld
      have hq2 := hheld.1
      go_wp2
      go_ret
      exact ⟨rfl, hheld.2⟩
  · rw [if_neg (by decide), if_neg (by decide), ← H392.out, show (39 :: lo) = [39] ++ lo from rfl, ← H39.out]
    go_enter Tryz.func75, Tryz.ntmps75
    go_wp2
    go_region_held3 (fun w' => w'.cell? ⟨w.heap.size, 1, none⟩ = some (.string ⟨t.toArray⟩) ∧ Below w.heap.size w w') (first | exact hH | exact hH0 | assumption | exact Held.on (by assumption) (by assumption)) (first | (go_at_call 130; refine (Hl.out _).mono ?_; rintro e w' ⟨rfl, hb1⟩))
    all_goals
      rename_i hheld
      have hq2 := hheld.1
      go_wp2
      go_ret
      exact ⟨rfl, hheld.2⟩

set_option maxRecDepth 100000 in
set_option maxHeartbeats 8000000 in
theorem written_else (x : Sp.Sym) (r : Nat) (hk : x.kind ≠ 1) (hs : x.text.length ≤ 100000) (w : World) (hM : MaxIn w) :
    Calls Tryz.prog 75 #[symV x, .int .i64 (r : Int)] w fun e w' => e = .returned (.string ⟨(Sp.written x r).toArray⟩) ∧ Below w.heap.size w w' := by
  have hfin : Sp.written x r = Sp.asText x.kind x.text := by unfold Sp.written; rw [if_neg hk]
  rw [hfin]
  obtain ⟨k, t, p⟩ := x
  dsimp only at hk hs ⊢
  clear hfin
  unfold symV
  dsimp only
  have hB : Below w.heap.size w (w.alloc (.cells #[.int .i64 k, .string ⟨t.toArray⟩, .int .i64 p] 28)) := below_alloc0 (Below.refl _ _) _
  have hr := replace_c t (by omega) _ (hM.later hB)
  have hdl := Sp.dq_len t
  have hc1 : (⟨#[34]⟩ : ByteArray) ++ ⟨(Sp.dq t).toArray⟩ ++ ⟨#[34]⟩ = ⟨(34 :: Sp.dq t ++ [34]).toArray⟩ := by
    rw [show (⟨#[34]⟩ : ByteArray) = ⟨([34] : List UInt8).toArray⟩ from rfl, bcat, bcat]; rfl
  have hc2 : (⟨#[36]⟩ : ByteArray) ++ ⟨t.toArray⟩ ++ ⟨#[36]⟩ = ⟨(36 :: t ++ [36]).toArray⟩ := by
    rw [show (⟨#[36]⟩ : ByteArray) = ⟨([36] : List UInt8).toArray⟩ from rfl, bcat, bcat]; rfl
  have Hr := Lib.hid hr
  have Hc1 := Lib.hid hc1
  have Hc2 := Lib.hid hc2
  have e1 : (k == 1) = false := beq_eq_false_iff_ne.2 hk
  clear hr hc1 hc2 hk
  by_cases h6 : k = 6
  · have e6 : (k == 6) = true := by rw [h6]; rfl
    have hT : Sp.asText k t = 34 :: Sp.dq t ++ [34] := by unfold Sp.asText; rw [if_pos h6]
    rw [hT, ← Hc1.out]
    have s1 : 1 + (Sp.dq t).length ≤ 9223372036854775807 := by omega
    have s2 : 1 + (Sp.dq t).length + 1 ≤ 9223372036854775807 := by omega
    clear hT h6
    go_enter Tryz.func75, Tryz.ntmps75
    go_wp2_with (first | (go_at_call 127; refine Hr.out.mono ?_; rintro e w1 ⟨rfl, hb1⟩))
    go_ret
    exact ⟨rfl, bjoin hB hB.size hb1⟩
  by_cases h7 : k = 7
  · have e6 : (k == 6) = false := beq_eq_false_iff_ne.2 h6
    have e7 : (k == 7) = true := by rw [h7]; rfl
    have hT : Sp.asText k t = 36 :: t ++ [36] := by unfold Sp.asText; rw [if_neg h6, if_pos h7]
    rw [hT, ← Hc2.out]
    have s1 : 1 + t.length ≤ 9223372036854775807 := by omega
    have s2 : 1 + t.length + 1 ≤ 9223372036854775807 := by omega
    clear hT h6 h7
    go_enter Tryz.func75, Tryz.ntmps75
    go_wp2
    go_ret
    exact ⟨rfl, hB⟩
  · have e6 : (k == 6) = false := beq_eq_false_iff_ne.2 h6
    have e7 : (k == 7) = false := beq_eq_false_iff_ne.2 h7
    have hT : Sp.asText k t = t := by unfold Sp.asText; rw [if_neg h6, if_neg h7]
    rw [hT]
    clear hT h6 h7
    go_enter Tryz.func75, Tryz.ntmps75
    go_wp2
    go_ret
    exact ⟨rfl, hB⟩
theorem written_c (x : Sp.Sym) (r : Nat) (hr : r ≤ 2) (hs : x.text.length ≤ 100000) (ha : ∀ c ∈ x.text, c.toNat < 128) (w : World) (hM : MaxIn w) :
    Calls Tryz.prog 75 #[symV x, .int .i64 (r : Int)] w fun e w' => e = .returned (.string ⟨(Sp.written x r).toArray⟩) ∧ Below w.heap.size w w' := by
  by_cases hk : x.kind = 1
  · exact written_bold x r hr hk hs ha w
  · exact written_else x r hk hs w hM
end Go.Proofs.YtjghijeblddijaaGreatDoor
namespace Go.Proofs.YtjghijeblddijaaGreatDoor
open Go.RowKit

/-- Symbols lie in a row from cell o of block g on. -/
def Row (w : World) (g o : Nat) (l : List Sp.Sym) : Prop := ∀ (k : Nat) (x : Sp.Sym), l[k]? = some x →
  w.cell? ⟨g, o + k * 3, none⟩ = some (.int .i64 x.kind) ∧ w.cell? ⟨g, o + k * 3 + 1, none⟩ = some (.string ⟨x.text.toArray⟩) ∧ w.cell? ⟨g, o + k * 3 + 2, none⟩ = some (.int .i64 x.pos)
theorem Row.later {w w' : World} {g o : Nat} {l : List Sp.Sym} (h : Row w g o l) (hb : Below w.heap.size w w') : Row w' g o l := fun k x hk =>
  ⟨cell_later hb (h k x hk).1, cell_later hb (h k x hk).2.1, cell_later hb (h k x hk).2.2⟩
theorem Row.take {w : World} {g o : Nat} {l : List Sp.Sym} (h : Row w g o l) (n : Nat) : Row w g o (l.take n) := fun k x hk => by
  rw [List.getElem?_take] at hk
  split at hk
  · exact h k x hk
  · cases hk
/-- A function value that tells symbols apart. -/
structure SymTells (w : World) (f : Nat) (cap : Array Value) (q : Sp.Sym → Bool) : Prop where
  eg : ∀ args w, (callFunc f args).run Tryz.prog w = .ok (.enter f args) w
  gives : ∀ (W : World) (x : Sp.Sym), Below w.heap.size w W → Calls Tryz.prog f (#[symV x] ++ cap) W fun e w' => e = .returned (.bool (q x)) ∧ Below W.heap.size W w'
def idx (q : Sp.Sym → Bool) (l : List Sp.Sym) : Int := match l.findIdx? q with | some i => (i : Int) | none => -1
theorem idx_none (q : Sp.Sym → Bool) (l : List Sp.Sym) (h : ∀ (j : Nat) x, l[j]? = some x → q x = false) : idx q l = -1 := by
  unfold idx
  have : l.findIdx? q = none := by
    rw [List.findIdx?_eq_none_iff]
    intro x hx
    obtain ⟨j, hj⟩ := List.getElem?_of_mem hx
    exact h j x hj
  rw [this]
theorem idx_some (q : Sp.Sym → Bool) (l : List Sp.Sym) (k : Nat) (x : Sp.Sym) (hk : l[k]? = some x) (hx : q x = true) (h : ∀ (j : Nat), j < k → ∀ x, l[j]? = some x → q x = false) : idx q l = (k : Int) := by
  unfold idx
  obtain ⟨hlt, he⟩ := List.getElem?_eq_some_iff.1 hk
  have : l.findIdx? q = some k := by
    rw [List.findIdx?_eq_some_iff_getElem]
    refine ⟨hlt, by rw [he]; exact hx, fun j hj => ?_⟩
    rw [h j hj _ (List.getElem?_eq_getElem (by omega))]; simp
  rw [this]

set_option maxRecDepth 100000 in
set_option maxHeartbeats 8000000 in
theorem indexFunc_c (g o c : Nat) (l : List Sp.Sym) (hl : l.length ≤ 1000000) (f : Nat) (cap : Array Value) (q : Sp.Sym → Bool) (w : World) (H : Row w g o l) (HT : SymTells w f cap q) :
    Calls Tryz.prog 21 #[.slice (some ⟨g, o, none⟩) l.length c, .func (.func f) #[] cap] w fun e w' => e = .returned (.int .i64 (idx q l)) ∧ Below w.heap.size w w' := by
  have eg := HT.eg
  go_enter Tryz.func21, Tryz.ntmps21
  go_wp2
  go_loopw [8] (fun t wr => ∃ k : Nat, k ≤ l.length ∧ t = .int .i64 k ∧ Below w.heap.size w wr ∧ Hid (∀ j : Nat, j < k → ∀ x, l[j]? = some x → q x = false)) (fun t _ => l.length - (intOf t).toNat)
  case atStart => exact ⟨0, by omega, rfl, Below.refl _ _, Lib.hid fun j hj => absurd hj (Nat.not_lt_zero j)⟩
  case round =>
    obtain ⟨k, hk, rfl, hB, hh⟩ := hrel
    by_cases hlt : k < l.length
    · obtain ⟨x, hx⟩ : ∃ x, l[k]? = some x := ⟨l[k], List.getElem?_eq_getElem hlt⟩
      obtain ⟨q0, q1, q2⟩ := H.later hB k x hx
      have Hx := Lib.hid hx
      have hg := HT.gives wr x hB
      clear hx
      cases hq : q x with
      | true =>
        have Hq := Lib.hid hq
        have Hg := Lib.hid hg
        clear hq hg
        go_wp2_with (refine Hg.out.mono ?_; rw [Hq.out]; rintro e w1 ⟨rfl, hb1⟩)
        go_ret
        exact ⟨by rw [idx_some q l k x Hx.out Hq.out hh.out]; rfl, bjoin hB hB.size hb1⟩
      | false =>
        have Hq := Lib.hid hq
        have Hg := Lib.hid hg
        clear hq hg
        go_wp2_with (refine Hg.out.mono ?_; rw [Hq.out]; rintro e w1 ⟨rfl, hb1⟩)
        go_roundw
        case rel =>
          refine ⟨k + 1, by omega, by go_num, bjoin hB hB.size hb1, Lib.hid fun j hj y hy => ?_⟩
          by_cases hjk : j = k
          · subst hjk
            rw [Hx.out] at hy
            injection hy with hy
            rw [← hy]; exact Hq.out
          · exact hh.out j (by omega) y hy
        case measure => simp [intOf]; omega
    · go_wp2
      go_ret
      refine ⟨?_, hB⟩
      rw [idx_none q l fun j x hx => hh.out j (by have := (List.getElem?_eq_some_iff.1 hx).1; omega) x hx]
      rfl
theorem text1_tells (w : World) : SymTells w 71 #[] (fun x => x.kind == 0) := by
  refine ⟨enters_of Tryz.func71 (by kernel_rfl) rfl, fun W x hW => ?_⟩
  obtain ⟨k, t, p⟩ := x
  unfold symV
  dsimp only
  go_enter Tryz.func71, Tryz.ntmps71
  go_wp2
  go_ret
  exact ⟨rfl, below_alloc0 (Below.refl _ _) _⟩
end Go.Proofs.YtjghijeblddijaaGreatDoor
