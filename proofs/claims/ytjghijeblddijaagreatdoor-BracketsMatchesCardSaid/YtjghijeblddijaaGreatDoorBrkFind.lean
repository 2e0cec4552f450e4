/- Walks of chapter 05: groups in memory; find. -/
import Derived.Test.YtjghijeblddijaaGreatDoorBrkTakeC
set_option linter.unusedVariables false
namespace Go.Proofs.YtjghijeblddijaaGreatDoor
open Go.RowKit
/-- The cells of a row of numbers. -/
def IntsAt (w : World) (v : Value) (l : List Int) (F : List Nat) : Prop :=
  (l = [] ∧ v = .slice none 0 0 ∧ F = []) ∨ ∃ g c, v = .slice (some ⟨g, 0, none⟩) l.length c ∧ (∀ (j : Nat) x, l[j]? = some x → w.cell? ⟨g, j, none⟩ = some (.int .i64 x)) ∧ F = [g] ∧ l.length ≤ c
/-- Groups side by side, as the cells of a row; the blocks that they lie in. -/
def KidsAt (w : World) : Bk.Fo → List Value → List Nat → Prop
  | .nil, vs, F => vs = [] ∧ F = []
  | .node a b s k r, vs, F => ∃ sv kv vs' F0 F1 F2, vs = .int .i64 a :: .int .i64 b :: sv :: kv :: vs' ∧ IntsAt w sv s F0 ∧
      ((k = .nil ∧ kv = .slice none 0 0 ∧ F1 = []) ∨ ∃ g c vals F', kv = .slice (some ⟨g, 0, none⟩) k.len c ∧ k.len ≤ c ∧ g < w.heap.size ∧ (∀ (j : Nat) x, vals[j]? = some x → w.cell? ⟨g, j, none⟩ = some x) ∧ KidsAt w k vals F' ∧ F1 = g :: F') ∧
      KidsAt w r vs' F2 ∧ F = F0 ++ F1 ++ F2
/-- A row of groups, as a value. -/
def RowAt (w : World) (kv : Value) (k : Bk.Fo) (F1 : List Nat) : Prop :=
  (k = .nil ∧ kv = .slice none 0 0 ∧ F1 = []) ∨ ∃ g c vals F', kv = .slice (some ⟨g, 0, none⟩) k.len c ∧ k.len ≤ c ∧ g < w.heap.size ∧ (∀ (j : Nat) x, vals[j]? = some x → w.cell? ⟨g, j, none⟩ = some x) ∧ KidsAt w k vals F' ∧ F1 = g :: F'
theorem IntsAt.later {w w' : World} {v : Value} {l : List Int} {F : List Nat} (h : IntsAt w v l F) (hb : Below w.heap.size w w') : IntsAt w' v l F := by
  rcases h with h | ⟨g, c, h1, h2, h3, h4⟩
  · exact .inl h
  · exact .inr ⟨g, c, h1, fun j x hx => cell_later hb (h2 j x hx), h3, h4⟩
theorem KidsAt.later {w w' : World} (hb : Below w.heap.size w w') : ∀ {k : Bk.Fo} {vs : List Value} {F : List Nat}, KidsAt w k vs F → KidsAt w' k vs F := by
  intro k
  induction k with
  | nil => intro vs F h; exact h
  | node a b s k r ihk ihr =>
    intro vs F ⟨sv, kv, vs', F0, F1, F2, h1, h2, h3, h4, h5⟩
    refine ⟨sv, kv, vs', F0, F1, F2, h1, h2.later hb, ?_, ihr h4, h5⟩
    rcases h3 with h3 | ⟨g, c, vals, F', g1, g2, g3, g4, g5, g6⟩
    · exact .inl h3
    · exact .inr ⟨g, c, vals, F', g1, g2, Nat.lt_of_lt_of_le g3 hb.size, fun j x hx => cell_later hb (g4 j x hx), ihk g5, g6⟩
theorem RowAt.later {w w' : World} (hb : Below w.heap.size w w') {kv : Value} {k : Bk.Fo} {F : List Nat} (h : RowAt w kv k F) : RowAt w' kv k F := by
  rcases h with h3 | ⟨g, c, vals, F', g1, g2, g3, g4, g5, g6⟩
  · exact .inl h3
  · exact .inr ⟨g, c, vals, F', g1, g2, Nat.lt_of_lt_of_le g3 hb.size, fun j x hx => cell_later hb (g4 j x hx), g5.later hb, g6⟩
def Bk.Fo.size : Bk.Fo → Nat
  | .nil => 0
  | .node _ _ _ k r => k.size + r.size + 1
theorem KidsAt.len {w : World} : ∀ {k : Bk.Fo} {vs : List Value} {F : List Nat}, KidsAt w k vs F → vs.length = 4 * k.len := by
  intro k
  induction k with
  | nil => intro vs F h; rw [h.1]; rfl
  | node a b s k r _ ihr =>
    intro vs F ⟨sv, kv, vs', F0, F1, F2, h1, h2, h3, h4, h5⟩
    rw [h1, List.length_cons, List.length_cons, List.length_cons, List.length_cons, ihr h4, Bk.Fo.len]
    omega
theorem IntsAt.isSlice {w : World} {v : Value} {l : List Int} {F : List Nat} (h : IntsAt w v l F) : ∃ A n c, v = .slice A n c := by
  rcases h with ⟨_, h, _⟩ | ⟨g, c, h, _⟩
  · exact ⟨none, 0, 0, h⟩
  · exact ⟨_, _, c, h⟩
theorem RowAt.isSlice {w : World} {v : Value} {k : Bk.Fo} {F : List Nat} (h : RowAt w v k F) : ∃ A n c, v = .slice A n c := by
  rcases h with ⟨_, h, _⟩ | ⟨g, c, _, _, h, _⟩
  · exact ⟨none, 0, 0, h⟩
  · exact ⟨_, _, c, h⟩
theorem Bk.Fo.len_le : ∀ k : Bk.Fo, k.len ≤ k.size := by
  intro k
  induction k with
  | nil => exact Nat.le_refl _
  | node a b s k r _ ihr => rw [Bk.Fo.len, Bk.Fo.size]; omega
set_option maxRecDepth 100000 in
set_option maxHeartbeats 8000000 in
theorem bFind_n : ∀ (n : Nat) (k : Bk.Fo), k.size = n → n ≤ 1000000 → ∀ (a b i : Int) (sv kv : Value) (F : List Nat) (w : World), RowAt w kv k F →
    Calls Tryz.prog 61 #[.agg #[.int .i64 a, .int .i64 b, sv, kv], .int .i64 i] w fun e w' => e = .returned (.int .i64 (Bk.find k i)) ∧ Below w.heap.size w w' := by
  intro n
  induction n using Nat.strongRecOn with
  | ind n ih =>
    intro k hkn hn a b i sv kv F w H
    have hB1 : Below w.heap.size w (w.alloc (.cells #[.int .i64 a, .int .i64 b, sv, kv] 32)) := below_alloc0 (Below.refl _ _) _
    have L1 := heap_alloc_new w (.cells #[.int .i64 a, .int .i64 b, sv, kv] 32)
    rcases H with ⟨rfl, rfl, rfl⟩ | ⟨g, c, vals, F', rfl, hlc, hgl, hcell, hK, rfl⟩
    · go_enter Tryz.func61, Tryz.ntmps61
      go_wp2
      generalize w.alloc (.cells #[.int .i64 a, .int .i64 b, sv, .slice none 0 0] 32) = W at *
      go_loopw [10] (fun t wr => t = .int .i64 0 ∧ wr = W) (fun _ _ => 0)
      case atStart => exact ⟨rfl, rfl⟩
      case round =>
        obtain ⟨rfl, rfl⟩ := hrel
        go_wp2
        go_ret
        exact ⟨rfl, hB1⟩
    · have hlen := hK.len
      have hkl := Bk.Fo.len_le k
      have Hcell := Lib.hid hcell
      have HK := Lib.hid hK
      have Ih := Lib.hid ih
      clear hcell hK ih
      go_enter Tryz.func61, Tryz.ntmps61
      go_wp2
      generalize w.alloc (.cells #[.int .i64 a, .int .i64 b, sv, .slice (some ⟨g, 0, none⟩) k.len c] 32) = W at *
      go_loopw [10] (fun t wr => ∃ (j : Nat) (fo : Bk.Fo) (F2 : List Nat), t = .int .i64 j ∧ j + fo.len = k.len ∧ Below w.heap.size w wr ∧ Hid (KidsAt w fo (vals.drop (4 * j)) F2) ∧ Hid (Bk.find k i = Bk.find fo i) ∧ fo.size ≤ k.size) (fun t _ => k.len - (intOf t).toNat)
      case atStart => exact ⟨0, k, _, rfl, by omega, hB1, Lib.hid (by rw [Nat.mul_zero, List.drop_zero]; exact HK.out), Lib.hid rfl, Nat.le_refl _⟩
      case round =>
        obtain ⟨j, fo, F2, rfl, hj, hB, hKj, hf, hsz⟩ := hrel
        cases fo with
        | nil =>
          have hjl : j = k.len := by have h := hj; rw [Bk.Fo.len] at h; omega
          have hfin : Bk.find k i = i := hf.out
          have Hfin := Lib.hid hfin
          clear hfin hf
          go_wp2
          go_ret
          exact ⟨by rw [Hfin.out]; rfl, hB⟩
        | node a' b' s' k' r' =>
          obtain ⟨sv', kv', vs', F0, F1, F3, hv, hints, hrow, hrest, _⟩ := hKj.out
          have hrow' : RowAt w kv' k' F1 := hrow
          obtain ⟨sA, sn, sc, rfl⟩ := hints.isSlice
          obtain ⟨kA, kn, kc, rfl⟩ := hrow'.isSlice
          have hjl : j < k.len := by have h := hj; rw [Bk.Fo.len] at h; omega
          have at_ : ∀ m x, (vals.drop (4 * j))[m]? = some x → wr.cell? ⟨g, j * 4 + m, none⟩ = some x := fun m x hx => by
            rw [List.getElem?_drop] at hx
            rw [show j * 4 + m = 4 * j + m from by omega]
            exact cell_later hB (Hcell.out _ x hx)
          have q0 : wr.cell? ⟨g, j * 4, none⟩ = some (.int .i64 a') := at_ 0 _ (by rw [hv]; rfl)
          have q1 : wr.cell? ⟨g, j * 4 + 1, none⟩ = some (.int .i64 b') := at_ 1 _ (by rw [hv]; rfl)
          have q2 : wr.cell? ⟨g, j * 4 + 2, none⟩ = some (.slice sA sn sc) := at_ 2 _ (by rw [hv]; rfl)
          have q3 : wr.cell? ⟨g, j * 4 + 3, none⟩ = some (.slice kA kn kc) := at_ 3 _ (by rw [hv]; rfl)
          have hgr : g < wr.heap.size := Nat.lt_of_lt_of_le hgl hB.size
          have hgn := Nat.ne_of_lt hgr
          have hB2 : Below w.heap.size w (wr.alloc (.cells #[.int .i64 a', .int .i64 b', .slice sA sn sc, .slice kA kn kc] 32)) := bjoin hB hB.size (below_alloc0 (Below.refl _ _) _)
          have hk' : k'.size < n := by have h := hsz; rw [Bk.Fo.size] at h; omega
          have hr' : r'.size ≤ k.size := by have h := hsz; rw [Bk.Fo.size] at h; omega
          have hjr : j + 1 + r'.len = k.len := by have h := hj; rw [Bk.Fo.len] at h; omega
          have hdrop : vals.drop (4 * (j + 1)) = vs' := by
            rw [show 4 * (j + 1) = 4 * j + 4 from by omega, ← List.drop_drop, hv]; rfl
          have Hrow := Lib.hid (hrow'.later hB2)
          have Hrest : Hid (KidsAt w r' (vals.drop (4 * (j + 1))) F3) := Lib.hid (by rw [hdrop]; exact hrest)
          have hcall := Ih.out k'.size hk' k' rfl (by omega) a' b' i (.slice sA sn sc) (.slice kA kn kc) F1 _ Hrow.out
          have Hcall := Lib.hid hcall
          clear hv hrow hrow' hrest at_ hdrop hKj hcall
          by_cases e1 : i = a'
          · have d1 : (i == a') = true := beq_iff_eq.2 e1
            have hfin : Bk.find k i = b' := by rw [hf.out, Bk.find, if_pos e1]
            have Hfin := Lib.hid hfin
            clear hfin hf e1
            go_wp2
            go_ret
            exact ⟨by rw [Hfin.out]; rfl, hB2⟩
          have d1 : (i == a') = false := beq_eq_false_iff_ne.2 e1
          by_cases e2 : i = b'
          · have d2 : (i == b') = true := beq_iff_eq.2 e2
            have hfin : Bk.find k i = a' := by rw [hf.out, Bk.find, if_neg e1, if_pos e2]
            have Hfin := Lib.hid hfin
            clear hfin hf e1 e2
            go_wp2
            go_ret
            exact ⟨by rw [Hfin.out]; rfl, hB2⟩
          have d2 : (i == b') = false := beq_eq_false_iff_ne.2 e2
          by_cases e3 : a' < i
          · have d3 : decide (a' < i) = true := decide_eq_true e3
            by_cases e4 : i < b'
            · have d4 : decide (i < b') = true := decide_eq_true e4
              have hfin : Bk.find k i = Bk.find k' i := by rw [hf.out, Bk.find, if_neg e1, if_neg e2, if_pos ⟨e3, e4⟩]
              have Hfin := Lib.hid hfin
              clear hfin hf e1 e2 e3 e4
              go_wp2_with (first | (go_at_call 61; refine Hcall.out.mono ?_; rintro e w3 ⟨rfl, hb3⟩))
              go_ret
              exact ⟨by rw [Hfin.out]; rfl, bjoin hB2 hB2.size hb3⟩
            · have d4 : decide (i < b') = false := decide_eq_false e4
              have hfin : Bk.find k i = Bk.find r' i := by rw [hf.out, Bk.find, if_neg e1, if_neg e2, if_neg (fun h => e4 h.2)]
              have Hfin := Lib.hid hfin
              clear hfin hf e1 e2 e3 e4
              go_wp2
              go_roundw
              case rel => exact ⟨j + 1, r', F3, by go_num, hjr, hB2, Hrest, Hfin, hr'⟩
              case measure => simp [intOf]; omega
          · have d3 : decide (a' < i) = false := decide_eq_false e3
            have hfin : Bk.find k i = Bk.find r' i := by rw [hf.out, Bk.find, if_neg e1, if_neg e2, if_neg (fun h => e3 h.1)]
            have Hfin := Lib.hid hfin
            clear hfin hf e1 e2 e3
            go_wp2
            go_roundw
            case rel => exact ⟨j + 1, r', F3, by go_num, hjr, hB2, Hrest, Hfin, hr'⟩
            case measure => simp [intOf]; omega
theorem bFind_c (k : Bk.Fo) (hk : k.size ≤ 1000000) (a b i : Int) (sv kv : Value) (F : List Nat) (w : World) (H : RowAt w kv k F) :
    Calls Tryz.prog 61 #[.agg #[.int .i64 a, .int .i64 b, sv, kv], .int .i64 i] w fun e w' => e = .returned (.int .i64 (Bk.find k i)) ∧ Below w.heap.size w w' :=
  bFind_n k.size k rfl hk a b i sv kv F w H
end Go.Proofs.YtjghijeblddijaaGreatDoor
