/- Walks of chapter 05: Skeleton of any list, Match. Walks of chapter 05: slices.Equal over numbers; the example of the chapter. Walks of chapter 05: the example of the chapter. -/
import Derived.Test.YtjghijeblddijaaGreatDoorBrkSkel
import Derived.Test.YtjghijeblddijaaGreatDoorStropSyms
import Derived.Test.YtjghijeblddijaaGreatDoorStropAwake
set_option linter.unusedVariables false
namespace Go.Proofs.YtjghijeblddijaaGreatDoor
open Go.RowKit
namespace Bk
open Sp (Sym)
theorem Fo.size_snoc (a b : Int) (s : List Int) (k : Fo) : ∀ f : Fo, (f.snoc a b s k).size = f.size + k.size + 1 := by
  intro f
  induction f with
  | nil => simp only [Fo.snoc, Fo.size]; omega
  | node a' b' s' k' t _ ih => rw [Fo.snoc, Fo.size, Fo.size, ih]; omega
def tot : List Fr → Nat
  | [] => 0
  | f :: r => f.kids.size + 1 + tot r
theorem bracket_fault (i : Int) (x : Sym) (top : Fr) (rest : List Fr) (f : Int × Int) (h : bracket i x top rest = .error f) : f.2 ≠ 0 := by
  unfold bracket at h
  split at h
  · split at h
    · injection h with h; subst h; exact (by decide : (3 : Int) ≠ 0)
    · cases h
  · split at h
    · cases h
    · split at h
      · cases h
      · injection h with h; subst h; exact (by decide : (9 : Int) ≠ 0)
theorem bracket_tot (i : Int) (x : Sym) (top : Fr) (rest st : List Fr) (h : bracket i x top rest = .ok st) : tot st ≤ tot (top :: rest) + 1 := by
  unfold bracket at h
  split at h
  · split at h
    · cases h
    · injection h with h; subst h
      simp only [tot, Fo.size]; omega
  · split at h
    · injection h with h; subst h
      simp only [tot, Fo.size_snoc]; omega
    · split at h
      · injection h with h; subst h
        simp only [tot]; omega
      · cases h
theorem run_fault : ∀ (l : List Sym) (i : Nat) (st : List Fr) (f : Int × Int), run i l st = .error f → f.2 ≠ 0 := by
  intro l
  induction l with
  | nil => intro i st f h; rw [run] at h; cases h
  | cons x l ih =>
    intro i st f h
    rw [run.eq_def i] at h
    dsimp only at h
    split at h
    · cases st with
      | nil => cases h
      | cons top rest =>
        dsimp only at h
        cases hb : bracket i x top rest with
        | ok st' => rw [hb] at h; exact ih _ _ _ h
        | error e => rw [hb] at h; injection h with h; subst h; exact bracket_fault _ _ _ _ _ hb
    · exact ih _ _ _ h
theorem run_tot : ∀ (l : List Sym) (i : Nat) (st st' : List Fr), run i l st = .ok st' → tot st' ≤ tot st + l.length := by
  intro l
  induction l with
  | nil => intro i st st' h; rw [run] at h; injection h with h; subst h; exact Nat.le_refl _
  | cons x l ih =>
    intro i st st' h
    rw [run.eq_def i] at h
    dsimp only at h
    rw [List.length_cons]
    split at h
    · cases st with
      | nil => injection h with h; subst h; simp [tot]
      | cons top rest =>
        dsimp only at h
        cases hb : bracket i x top rest with
        | ok st2 =>
          rw [hb] at h
          have h1 := ih _ _ _ h
          have h2 := bracket_tot _ _ _ _ _ hb
          omega
        | error e => rw [hb] at h; cases h
    · have := ih _ _ _ h; omega
theorem skeleton_fault (l : List Sym) (f : Int × Int) (h : skeleton l = .error f) : f.2 ≠ 0 := by
  unfold skeleton at h
  cases hr : run 0 (l.take (ends l).1) start with
  | error e => rw [hr] at h; injection h with h; subst h; exact run_fault _ _ _ _ hr
  | ok st =>
    rw [hr] at h
    match st with
    | [] => injection h with h; subst h; exact (by decide : (16 : Int) ≠ 0)
    | [f1] => cases h
    | f1 :: f2 :: r => injection h with h; subst h; exact (by decide : (16 : Int) ≠ 0)
theorem skeleton_size (l : List Sym) (a b : Int) (s : List Int) (k r : Fo) (h : skeleton l = .ok (.node a b s k r)) : k.size ≤ l.length := by
  unfold skeleton at h
  cases hr : run 0 (l.take (ends l).1) start with
  | error e => rw [hr] at h; cases h
  | ok st =>
    rw [hr] at h
    have ht := run_tot _ _ _ _ hr
    match st with
    | [] => cases h
    | [f1] =>
      injection h with h
      injection h with _ _ _ h4 _
      have h0 : tot start = 1 := rfl
      rw [h0, List.length_take] at ht
      simp only [tot] at ht
      rw [← h4]; omega
    | f1 :: f2 :: r => cases h
/-- What Match answers. -/
def matched (l : List Sym) (i : Int) : Int × Int × Int :=
  match skeleton l with
  | .error f => (0, f.1, f.2)
  | .ok (.node _ b _ k _) => if i < 0 ∨ b ≤ i then (0, 0, 11) else (find k i, 0, 0)
  | .ok .nil => (0, 0, 0)
end Bk
set_option maxRecDepth 100000 in
set_option maxHeartbeats 4000000 in
theorem indexFuncB_nil (a : Option Addr) (c : Nat) (v : Value) (w : World) :
    Calls Tryz.prog 21 #[.slice a 0 c, v] w fun e w' => e = .returned (.int .i64 (-1)) ∧ w' = w := by
  go_enter Tryz.func21, Tryz.ntmps21
  go_wp2
  go_loopw [8] (fun t wr => t = .int .i64 0 ∧ wr = w) (fun _ _ => 0)
  case atStart => exact ⟨rfl, rfl⟩
  case round =>
    obtain ⟨rfl, rfl⟩ := hrel
    go_wp2
    go_ret
    exact ⟨rfl, rfl⟩
set_option maxRecDepth 100000 in
set_option maxHeartbeats 4000000 in
theorem bEnd_e (a : Option Addr) (c : Nat) (w : World) : Calls Tryz.prog 56 #[.slice a 0 c] w fun e w' => e = .returned (.tuple #[.int .i64 0, .int .i64 0]) ∧ Below w.heap.size w w' := by
  go_enter Tryz.func56, Tryz.ntmps56
  go_wp2_with (first | (go_at_call 21; refine (indexFuncB_nil a c _ _).mono ?_; rintro e w1 ⟨rfl, rfl⟩))
  all_goals (go_ret2; exact ⟨rfl, Below.refl _ _⟩)
set_option maxRecDepth 100000 in
set_option maxHeartbeats 8000000 in
theorem bSkel_e (a : Option Addr) (c : Nat) (w : World) : Calls Tryz.prog 17 #[.slice a 0 c] w (SkelPost w (Bk.skeleton [])) := by
  rw [show Bk.skeleton [] = .ok (.node (-1) 0 [] .nil .nil) from rfl]
  generalize hWA : ((w.alloc (.cells #[.int .i64 0, .int .i64 0, .slice none 0 0, .slice none 0 0] 32)).alloc (.cells #[.int .i64 0, .int .i64 0] 35)) = WA
  have hBA : Below w.heap.size w WA := by
    rw [← hWA]; exact below_alloc0 (below_alloc0 (Below.refl _ _) _) _
  have hsA : WA.heap.size = w.heap.size + 2 := by rw [← hWA]; simp
  have KA0 : WA.heap[w.heap.size]? = some (.cells #[.int .i64 0, .int .i64 0, .slice none 0 0, .slice none 0 0] 32 (0, 0)) := by
    rw [← hWA]; exact alloc_keep (heap_alloc_new w _)
  have KA1 : WA.heap[w.heap.size + 1]? = some (.cells #[.int .i64 0, .int .i64 0] 35 (0, 0)) := by
    rw [← hWA]
    have := heap_alloc_new (w.alloc (.cells #[.int .i64 0, .int .i64 0, .slice none 0 0, .slice none 0 0] 32)) (.cells #[.int .i64 0, .int .i64 0] 35)
    simpa using this
  have HWA := Lib.hid hWA
  clear hWA
  go_enter Tryz.func17, Tryz.ntmps17
  go_wp2_with (first | (go_at_call 56; rw [HWA.out]; refine (bEnd_e a c _).mono ?_; rintro e w1 ⟨rfl, hb1⟩))
  have hst := Stk.first (W1 := w1) (base := WA.heap.size) hb1.size (0 : Int)
  generalize hWL : (w1.alloc (.cells #[.int .i64 (-1), .int .i64 0, .slice none 0 0, .slice none 0 0, .string ⟨#[]⟩, .map none, .slice none 0 0, .string ⟨#[]⟩] 88)).alloc (.cells #[.pointer (some ⟨w1.heap.size, 0, none⟩)] 83) = WL at *
  have hBL : Below WA.heap.size WA WL := by
    rw [← hWL]; exact below_alloc0 (below_alloc0 hb1 _) _
  clear hWL
  go_loopw [6, 27] (fun t6 t27 wr => t6 = .slice (some ⟨w1.heap.size + 1, 0, none⟩) 1 1 ∧ t27 = .int .i64 0 ∧ wr = WL) (fun _ _ _ => 0)
  case atStart => exact ⟨rfl, rfl, rfl⟩
  case round =>
    obtain ⟨rfl, rfl, rfl⟩ := hrel
    have d0 := cell_of_blk ((hBL.block w.heap.size (by omega)).trans KA0) 0
    have d1 := cell_of_blk ((hBL.block w.heap.size (by omega)).trans KA0) 1
    have d2 := cell_of_blk ((hBL.block w.heap.size (by omega)).trans KA0) 2
    have d3 := cell_of_blk ((hBL.block w.heap.size (by omega)).trans KA0) 3
    have e0 := cell_of_blk ((hBL.block (w.heap.size + 1) (by omega)).trans KA1) 0
    have e1 := cell_of_blk ((hBL.block (w.heap.size + 1) (by omega)).trans KA1) 1
    have df := free_of_blk ((hBL.block w.heap.size (by omega)).trans KA0)
    have ef := free_of_blk ((hBL.block (w.heap.size + 1) (by omega)).trans KA1)
    have df0 := df 0
    have df1 := df 1
    have df2 := df 2
    have df3 := df 3
    have ef0 := ef 0
    have ef1 := ef 1
    have HK0 := Lib.hid ((hBL.block w.heap.size (by omega)).trans KA0)
    have HK1 := Lib.hid ((hBL.block (w.heap.size + 1) (by omega)).trans KA1)
    obtain ⟨own, ps, hs⟩ := hst
    obtain ⟨g0, ps', rfl, ⟨to_, A, sc, kA, kc, mp, cs, F, vals, FK, hto, hst⟩, hps'⟩ := hs.sts
    obtain rfl : ps' = [] := hps'
    obtain rfl : to_ = 0 := hto rfl
    have cR : wr.cell? ⟨w1.heap.size + 1, 0, none⟩ = some (.pointer (some ⟨g0, 0, none⟩)) := (World.ownsRow.cellAt hs.row 0 (by simp)).trans rfl
    have b0 := cell_of_blk hst.blk 0
    have b1 := cell_of_blk hst.blk 1
    have b2 := cell_of_blk hst.blk 2
    have b3 := cell_of_blk hst.blk 3
    have Hst := Lib.hid hst
    have Hs := Lib.hid hs
    clear hst hs df ef KA0 KA1
    go_wp2
    have X := six_ok HK0.out HK1.out (.int .i64 (-1)) (.int .i64 0) (.slice A 0 sc) (.slice kA 0 kc) (.int .i64 0) (.int .i64 0)
    obtain ⟨SI, hI, hSI⟩ := IntsAt.of_own rfl Hst.out.seps
    obtain ⟨SR, hR, hSR⟩ := RowAt.of_own rfl Hst.out.kids Hst.out.deep
    have hdom : ∀ b, own b ≠ 0 → (six wr w.heap.size (.int .i64 (-1)) (.int .i64 0) (.slice A 0 sc) (.slice kA 0 kc) (.int .i64 0) (.int .i64 0)).heap[b]? = wr.heap[b]? := fun b hb => by
      have := (Hs.out.dom b hb).1
      exact X.2.2.1 b (by omega) (by omega)
    refine skel_end X.1 X.2.1 ⟨(hBA.trans (hBL.mono hBA.size)).trans X.2.2.2, ?_⟩
    refine ⟨-1, 0, [], .nil, _, _, SI, SR, rfl, rfl, hI.keep fun b hb => hdom b (by rw [Hst.out.oS b (hSI b hb)]; omega), hR.keep fun b hb => hdom b ?_⟩
    rcases hSR b hb with h | h
    · rw [Hst.out.oK b h]; omega
    · rw [Hst.out.oD b h]; omega
theorem bSkel_c (v : Value) (l : List Sp.Sym) (hl : l.length ≤ 1000) (w : World) (H : Lies w v l) : Calls Tryz.prog 17 #[v] w (SkelPost w (Bk.skeleton l)) := by
  rcases H with ⟨a, c, rfl, rfl⟩ | ⟨g, o, c, rfl, h2, _, h4⟩
  · exact bSkel_e a c w
  · exact bSkel_main g o c l hl h2 w h4
theorem match_result {tmps : Array Value} {W : World} (m : Value) (b1 : Nat) (y0 y1 : Value) (fr1 : Nat × Nat) (h4 : tmps.getD 4 undef = m) (h5 : tmps.getD 5 undef = .pointer (some ⟨b1, 0, none⟩))
    (k1 : W.heap[b1]? = some (.cells #[y0, y1] 35 fr1)) : (results Tryz.f23 tmps).run Tryz.prog W = .ok (.tuple #[m, .agg #[y0, y1]]) W := by
  have h4' : tmps[4]?.getD undef = m := by simpa using h4
  have h5' : tmps[5]?.getD undef = .pointer (some ⟨b1, 0, none⟩) := by simpa using h5
  have d0 : W.cell? ⟨b1, 0, none⟩ = some y0 := (cell_of_blk k1 0).trans rfl
  have d1 : W.cell? ⟨b1, 1, none⟩ = some y1 := (cell_of_blk k1 1).trans rfl
  have hb := Tryz.isAgg35
  simp [results, h4', h5', asAddr, loadVar, Sem.run_bind, hb, go_sem, d0, d1]
theorem match_end {R : Ending → World → Prop} {a : Act} {W : World} {b1 : Nat} {m y0 y1 : Value} {fr1 : Nat × Nat}
    (k1 : W.heap[b1]? = some (.cells #[y0, y1] 35 fr1)) (h : R (.returned (.tuple #[m, .agg #[y0, y1]])) W)
    (h4 : a.tmps.getD 4 undef = m := by rfl) (h5 : a.tmps.getD 5 undef = .pointer (some ⟨b1, 0, none⟩) := by rfl) (hd : a.defers = [] := by rfl) : bodyPost Tryz.prog Tryz.f23 R .ret a W :=
  bodyPost_ret (match_result _ b1 _ _ _ h4 h5 k1) hd h
def MatchPost (w : World) (x : Int × Int × Int) (e : Ending) (w' : World) : Prop := e = .returned (.tuple #[.int .i64 x.1, .agg #[.int .i64 x.2.1, .int .i64 x.2.2]]) ∧ Below w.heap.size w w'
theorem set2 {W : World} {b : Nat} {v0 v1 : Value} {t : TypeId} (K : W.heap[b]? = some (.cells #[v0, v1] t (0, 0))) (x y : Value) : ((W.setCell ⟨b, 0, none⟩ x).setCell ⟨b, 1, none⟩ y).heap[b]? = some (.cells #[x, y] t (0, 0)) := by
  rw [blk_setCell (blk_setCell K 0 x) 1 y]; rfl
set_option maxRecDepth 100000 in
set_option maxHeartbeats 8000000 in
theorem bMatch_c (v : Value) (l : List Sp.Sym) (hl : l.length ≤ 1000) (w : World) (H : Lies w v l) (i : Int) : Calls Tryz.prog 23 #[v, .int .i64 i] w (MatchPost w (Bk.matched l i)) := by
  have hB1 : Below w.heap.size w (w.alloc (.cells #[.int .i64 0, .int .i64 0] 35)) := below_alloc0 (Below.refl _ _) _
  have L1 := heap_alloc_new w (.cells #[.int .i64 0, .int .i64 0] 35)
  have hcall := bSkel_c v l hl _ (H.later hB1)
  have hs1 : (w.alloc (.cells #[.int .i64 0, .int .i64 0] 35)).heap.size = w.heap.size + 1 := by simp
  have Hcall := Lib.hid hcall
  clear hcall
  cases hs : Bk.skeleton l with
  | error f =>
    rw [hs] at Hcall
    have hne : (f.2 != 0) = true := bne_iff_ne.2 (Bk.skeleton_fault _ _ hs)
    have hfin : Bk.matched l i = (0, f.1, f.2) := by unfold Bk.matched; rw [hs]
    rw [hfin]
    clear hfin hs
    go_enter Tryz.func23, Tryz.ntmps23
    go_wp2_with (first | (go_at_call 17; refine Hcall.out.mono ?_; rintro e w1 ⟨hb1, rfl⟩; have K1 := (hb1.block w.heap.size (by simp)).trans L1))
    have hbA : Below w.heap.size w ((w1.alloc (.cells #[.int .i64 0, .int .i64 0, .slice none 0 0, .slice none 0 0] 32)).alloc (.cells #[.int .i64 f.1, .int .i64 f.2] 35)) := below_alloc0 (below_alloc0 (bjoin hB1 hB1.size hb1) _) _
    have L5 := alloc_keep (o := .cells #[.int .i64 f.1, .int .i64 f.2] 35) (alloc_keep (o := .cells #[.int .i64 0, .int .i64 0, .slice none 0 0, .slice none 0 0] 32) K1)
    have M0 := heap_alloc_new (w1.alloc (.cells #[.int .i64 0, .int .i64 0, .slice none 0 0, .slice none 0 0] 32)) (.cells #[.int .i64 f.1, .int .i64 f.2] 35)
    rw [World.size_alloc] at M0
    have hs2 := hb1.size
    generalize (w1.alloc (.cells #[.int .i64 0, .int .i64 0, .slice none 0 0, .slice none 0 0] 32)).alloc (.cells #[.int .i64 f.1, .int .i64 f.2] 35) = W2 at *
    have n1 : w.heap.size ≠ w1.heap.size + 1 := by omega
    have n2 : w1.heap.size + 1 ≠ w.heap.size := by omega
    have p0 := cell_of_blk M0 0
    have p1 := cell_of_blk M0 1
    have q0 := cell_of_blk L5 0
    have q1 := cell_of_blk L5 1
    have f0 := free_of_blk L5 0
    have f1 := free_of_blk L5 1
    have HL5 := Lib.hid L5
    clear L5 M0 K1 L1
    go_region
    all_goals go_wp2
    have X := set2 HL5.out (.int .i64 f.1) (.int .i64 f.2)
    refine match_end (blk_drew X) ⟨rfl, ((hbA.setCell (Nat.le_refl _) _).setCell (Nat.le_refl _) _).drew⟩
  | ok t =>
    obtain ⟨s, kk, rfl, hwf⟩ := Bk.skeleton_ok l t hs
    have hsz := Bk.skeleton_size _ _ _ _ _ _ hs
    generalize hnn : (Bk.ends l).1 = n at *
    have hfin : Bk.matched l i = if i < 0 ∨ (n : Int) ≤ i then (0, 0, 11) else (Bk.find kk i, 0, 0) := by unfold Bk.matched; rw [hs]
    rw [hs] at Hcall
    rw [hfin]
    clear hfin hs hwf hnn
    by_cases h0 : i < 0
    · rw [if_pos (.inl h0)]
      have d0 : decide (i < 0) = true := decide_eq_true h0
      clear h0
      go_enter Tryz.func23, Tryz.ntmps23
      go_wp2_with (first
        | (go_at_call 17; refine Hcall.out.mono ?_; rintro e w1 ⟨hb1, a', b', s', k', sv, kv, F0, F1, hn, rfl, hI, hR⟩; injection hn with hn1 hn2 hn3 hn4 _; subst hn1; subst hn2; subst hn3; subst hn4; obtain ⟨A0, n0, c0, rfl⟩ := hI.isSlice; obtain ⟨A1, n1, c1, rfl⟩ := hR.isSlice; have K1 := (hb1.block w.heap.size (by simp)).trans L1
           have hs2 := hb1.size
           have hbA : Below w.heap.size w ((w1.alloc (.cells #[.int .i64 (-1), .int .i64 n, .slice A0 n0 c0, .slice A1 n1 c1] 32)).alloc (.cells #[.int .i64 0, .int .i64 0] 35)) := below_alloc0 (below_alloc0 (bjoin hB1 hB1.size hb1) _) _
           have L5 := alloc_keep (o := .cells #[.int .i64 0, .int .i64 0] 35) (alloc_keep (o := .cells #[.int .i64 (-1), .int .i64 n, .slice A0 n0 c0, .slice A1 n1 c1] 32) K1)
           have q0 := cell_of_blk L5 0
           have q1 := cell_of_blk L5 1
           have f0 := free_of_blk L5 0
           have f1 := free_of_blk L5 1
           have HL5 := Lib.hid L5
           clear L5 K1))
      have X := set2 HL5.out (.int .i64 0) (.int .i64 11)
      exact match_end X ⟨rfl, (hbA.setCell (Nat.le_refl _) _).setCell (Nat.le_refl _) _⟩
    · by_cases h1 : (n : Int) ≤ i
      · rw [if_pos (.inr h1)]
        have d0 : decide (i < 0) = false := decide_eq_false h0
        have d1 : decide ((n : Int) ≤ i) = true := decide_eq_true h1
        clear h0 h1
        go_enter Tryz.func23, Tryz.ntmps23
        go_wp2_with (first
          | (go_at_call 17; refine Hcall.out.mono ?_; rintro e w1 ⟨hb1, a', b', s', k', sv, kv, F0, F1, hn, rfl, hI, hR⟩; injection hn with hn1 hn2 hn3 hn4 _; subst hn1; subst hn2; subst hn3; subst hn4; obtain ⟨A0, n0, c0, rfl⟩ := hI.isSlice; obtain ⟨A1, n1, c1, rfl⟩ := hR.isSlice; have K1 := (hb1.block w.heap.size (by simp)).trans L1
             have hs2 := hb1.size
             have hbA : Below w.heap.size w ((w1.alloc (.cells #[.int .i64 (-1), .int .i64 n, .slice A0 n0 c0, .slice A1 n1 c1] 32)).alloc (.cells #[.int .i64 0, .int .i64 0] 35)) := below_alloc0 (below_alloc0 (bjoin hB1 hB1.size hb1) _) _
             have L5 := alloc_keep (o := .cells #[.int .i64 0, .int .i64 0] 35) (alloc_keep (o := .cells #[.int .i64 (-1), .int .i64 n, .slice A0 n0 c0, .slice A1 n1 c1] 32) K1)
             have q0 := cell_of_blk L5 0
             have q1 := cell_of_blk L5 1
             have f0 := free_of_blk L5 0
             have f1 := free_of_blk L5 1
             have HL5 := Lib.hid L5
             clear L5 K1))
        have X := set2 HL5.out (.int .i64 0) (.int .i64 11)
        exact match_end X ⟨rfl, (hbA.setCell (Nat.le_refl _) _).setCell (Nat.le_refl _) _⟩
      · rw [if_neg (by omega)]
        have d0 : decide (i < 0) = false := decide_eq_false h0
        have d1 : decide ((n : Int) ≤ i) = false := decide_eq_false h1
        clear h0 h1
        go_enter Tryz.func23, Tryz.ntmps23
        go_wp2_with (first
          | (go_at_call 17; refine Hcall.out.mono ?_; rintro e w1 ⟨hb1, a', b', s', k', sv, kv, F0, F1, hn, rfl, hI, hR⟩; injection hn with hn1 hn2 hn3 hn4 _; subst hn1; subst hn2; subst hn3; subst hn4; obtain ⟨A0, n0, c0, rfl⟩ := hI.isSlice; obtain ⟨A1, n1, c1, rfl⟩ := hR.isSlice; have K1 := (hb1.block w.heap.size (by simp)).trans L1
             have hs2 := hb1.size
             have hbA : Below w.heap.size w ((w1.alloc (.cells #[.int .i64 (-1), .int .i64 n, .slice A0 n0 c0, .slice A1 n1 c1] 32)).alloc (.cells #[.int .i64 0, .int .i64 0] 35)) := below_alloc0 (below_alloc0 (bjoin hB1 hB1.size hb1) _) _
             have L5 := alloc_keep (o := .cells #[.int .i64 0, .int .i64 0] 35) (alloc_keep (o := .cells #[.int .i64 (-1), .int .i64 n, .slice A0 n0 c0, .slice A1 n1 c1] 32) K1)
             skip
             skip
             skip
             skip
             have HL5 := Lib.hid L5
             clear L5 K1)
          | (go_at_call 61; refine (bFind_c _ (by omega) _ _ _ _ _ _ _ (hR.later (below_alloc0 (below_alloc0 (Below.refl _ _) _) _))).mono ?_; rintro e w2 ⟨rfl, hb2⟩
             have M5 := (hb2.block w.heap.size (by simp only [World.size_alloc] at hs2 ⊢; omega)).trans HL5.out
             have hbB := bjoin hbA hbA.size hb2
             have q0 := cell_of_blk M5 0
             have q1 := cell_of_blk M5 1
             have f0 := free_of_blk M5 0
             have f1 := free_of_blk M5 1
             have HM5 := Lib.hid M5
             clear M5))
        have X := set2 HM5.out (.int .i64 0) (.int .i64 0)
        exact match_end X ⟨rfl, (hbB.setCell (Nat.le_refl _) _).setCell (Nat.le_refl _) _⟩
end Go.Proofs.YtjghijeblddijaaGreatDoor
set_option linter.unusedVariables false
namespace Go.Proofs.YtjghijeblddijaaGreatDoor
open Go.RowKit
theorem IntsAt.form {w : World} {v : Value} {l : List Int} {F : List Nat} (h : IntsAt w v l F) : ∃ A c, v = .slice A l.length c ∧ l.length ≤ c ∧ ∀ (j : Nat) x, l[j]? = some x → ∃ g, A = some ⟨g, 0, none⟩ ∧ w.cell? ⟨g, j, none⟩ = some (.int .i64 x) := by
  rcases h with ⟨rfl, rfl, rfl⟩ | ⟨g, c, h1, h2, h3, h4⟩
  · exact ⟨none, 0, rfl, Nat.le_refl _, fun j x hx => by simp at hx⟩
  · exact ⟨some ⟨g, 0, none⟩, c, h1, h4, fun j x hx => ⟨g, rfl, h2 j x hx⟩⟩
theorem take_eq_of {α : Type} (a b : List α) (hl : a.length = b.length) (h : ∀ (j : Nat) (x : α), a[j]? = some x → b[j]? = some x) : a = b := by
  apply List.ext_getElem?
  intro i
  cases ha : a[i]? with
  | some x => rw [h i x ha]
  | none =>
    rw [List.getElem?_eq_none_iff] at ha
    exact (List.getElem?_eq_none (by omega)).symm
set_option maxRecDepth 100000 in
set_option maxHeartbeats 8000000 in
theorem equalInts_c (v1 v2 : Value) (a b : List Int) (F1 F2 : List Nat) (hl : a.length ≤ 1000000) (hl2 : b.length ≤ 1000000) (w : World) (H : IntsAt w v1 a F1) (H' : IntsAt w v2 b F2) :
    Calls Tryz.prog 54 #[v1, v2] w fun e w' => e = .returned (.bool (a == b)) ∧ ∃ n, w' = w.drewN n := by
  obtain ⟨A1, c1, rfl, hc1, H1⟩ := H.form
  obtain ⟨A2, c2, rfl, hc2, H2⟩ := H'.form
  by_cases hlen : a.length = b.length
  · go_enter Tryz.func54, Tryz.ntmps54
    rw [← hlen]
    rw [← hlen] at hc2
    have Hc1 := Lib.hid H1
    have Hc2 := Lib.hid H2
    have Hlen := Lib.hid hlen
    clear H H' H1 H2 hlen hl2
    go_wp2
    go_loopw [13] (fun t wr => ∃ k : Nat, k ≤ a.length ∧ t = .int .i64 k ∧ Hid (∀ j x, j < k → a[j]? = some x → b[j]? = some x) ∧ ∃ n, wr = w.drewN n) (fun t _ => a.length - (intOf t).toNat)
    case atStart => exact ⟨0, by omega, rfl, Lib.hid fun j x hj => absurd hj (by omega), 0, rfl⟩
    case round =>
      obtain ⟨k, hk, rfl, hsame, n, hn⟩ := hrel
      have hB : Below w.heap.size w wr := by rw [hn]; exact bdrewN (Below.refl _ _) n
      have hcell : ∀ ad, wr.cell? ad = w.cell? ad := fun ad => by rw [hn]; rfl
      have Hn := Lib.hid hn
      clear hn
      by_cases hlt : k < a.length
      · obtain ⟨x, hx⟩ : ∃ x, a[k]? = some x := ⟨a[k], List.getElem?_eq_getElem hlt⟩
        obtain ⟨y, hy⟩ : ∃ y, b[k]? = some y := ⟨b[k]'(by have := Hlen.out; omega), List.getElem?_eq_getElem _⟩
        obtain ⟨g1, rfl, q1⟩ := Hc1.out k x hx
        obtain ⟨g2, rfl, q2⟩ := Hc2.out k y hy
        have r1 := (hcell _).trans q1
        have r2 := (hcell _).trans q2
        have Hx := Lib.hid hx
        have Hy := Lib.hid hy
        clear hx hy q1 q2 hcell
        by_cases hxy : x = y
        · have d1 : (x != y) = false := by rw [hxy]; simp
          have Hxy := Lib.hid hxy
          clear hxy
          go_wp2
          go_quiet (fail)
          go_wp2
          go_roundw
          case rel =>
            refine ⟨k + 1, by omega, by go_num, Lib.hid fun j z hj hz => ?_, _, by rw [Hn.out]; exact World.drewN_drewN _ _ _⟩
            by_cases e : j = k
            · subst e
              have e1 := Hx.out; rw [hz] at e1; injection e1 with e1
              rw [e1, Hxy.out]; exact Hy.out
            · exact hsame.out j z (by omega) hz
          case measure => simp [intOf]; omega
        · have d1 : (x != y) = true := bne_iff_ne.2 hxy
          have hfin : (a == b) = false := beq_eq_false_iff_ne.2 fun e => hxy (by have h1 := Hx.out; rw [e, Hy.out] at h1; exact (Option.some.inj h1).symm)
          have Hfin := Lib.hid hfin
          clear hxy hfin
          go_wp2
          go_quiet (fail)
          go_wp2
          go_ret
          exact ⟨by rw [Hfin.out]; rfl, _, by rw [Hn.out]; exact World.drewN_drewN _ _ _⟩
      · have hfin : (a == b) = true := beq_iff_eq.2 (take_eq_of a b Hlen.out fun j x hx => hsame.out j x (by have := (List.getElem?_eq_some_iff.1 hx).1; omega) hx)
        have Hfin := Lib.hid hfin
        clear hfin hcell
        go_wp2
        go_ret
        exact ⟨by rw [Hfin.out]; rfl, n, Hn.out⟩
  · have d1 : ((a.length : Int) != (b.length : Int)) = true := bne_iff_ne.2 (by omega)
    have hfin : (a == b) = false := beq_eq_false_iff_ne.2 fun e => hlen (by rw [e])
    have Hfin := Lib.hid hfin
    clear hfin H H' H1 H2
    go_enter Tryz.func54, Tryz.ntmps54
    go_wp2
    go_ret
    exact ⟨by rw [Hfin.out]; rfl, 0, rfl⟩
end Go.Proofs.YtjghijeblddijaaGreatDoor
set_option linter.unusedVariables false
namespace Go.Proofs.YtjghijeblddijaaGreatDoor
open Go.RowKit
def aw5 : List Sp.Sym := [⟨1, [73, 70], 0⟩, ⟨2, [97], 3⟩, ⟨1, [84, 72, 69, 78], 5⟩, ⟨8, [40], 10⟩, ⟨2, [98], 12⟩, ⟨8, [124], 14⟩, ⟨2, [99], 16⟩, ⟨8, [41], 18⟩, ⟨1, [69, 76, 83, 69], 20⟩, ⟨8, [91], 25⟩, ⟨2, [100], 27⟩, ⟨8, [93], 29⟩, ⟨1, [70, 73], 31⟩, ⟨0, [], 33⟩]
def aw5T : List UInt8 := [73, 70, 32, 97, 32, 84, 72, 69, 78, 32, 40, 32, 98, 32, 124, 32, 99, 32, 41, 32, 69, 76, 83, 69, 32, 91, 32, 100, 32, 93, 32, 70, 73]
theorem aw5_syms : Sp.symbols aw5T 0 = .ok aw5 := by kernel_rfl
def aw5K : Bk.Fo := .node 3 7 [5] .nil (.node 9 11 [] .nil .nil)
theorem aw5_skel : Bk.skeleton aw5 = .ok (.node (-1) 13 [] (.node 0 12 [2, 8] aw5K .nil) .nil) := by kernel_rfl
theorem aw5_read {w : World} {kv : Value} {F : List Nat} (h : RowAt w kv (.node 0 12 [2, 8] aw5K .nil) F) : ∃ g c g2 c2 A3 c3 F2, kv = .slice (some ⟨g, 0, none⟩) 1 c ∧ g < w.heap.size ∧ w.cell? ⟨g, 1, none⟩ = some (.int .i64 12) ∧ w.cell? ⟨g, 2, none⟩ = some (.slice (some ⟨g2, 0, none⟩) 2 c2) ∧
    w.cell? ⟨g, 3, none⟩ = some (.slice A3 2 c3) ∧ IntsAt w (.slice (some ⟨g2, 0, none⟩) 2 c2) [2, 8] F2 := by
  rcases h with ⟨h, _⟩ | ⟨g, c, vals, F', rfl, hc, hg, hcell, hK, _⟩
  · cases h
  · obtain ⟨sv, kv', vs', F0, F1, F2, rfl, hI, hR, _, _⟩ := hK
    have q1 := hcell 1 _ rfl
    have q2 := hcell 2 _ rfl
    have q3 := hcell 3 _ rfl
    have hI' := hI
    rcases hI with ⟨h, _⟩ | ⟨g2, c2, rfl, _, _, _⟩
    · cases h
    · rcases hR with ⟨h, _⟩ | ⟨g3, c3, vals3, F3, rfl, _⟩
      · cases h
      · exact ⟨g, c, g2, c2, some ⟨g3, 0, none⟩, c3, _, rfl, hg, q1, q2, q3, hI'⟩
theorem equal28 (g2 c2 X : Nat) (F : List Nat) (w : World) (h : IntsAt w (.slice (some ⟨g2, 0, none⟩) 2 c2) [2, 8] F) (hX : w.heap[X]? = some (.cells #[.int .i64 2, .int .i64 8] 3 (0, 0))) :
    Calls Tryz.prog 54 #[.slice (some ⟨g2, 0, none⟩) 2 c2, .slice (some ⟨X, 0, none⟩) 2 2] w fun e w' => e = .returned (.bool true) ∧ ∃ n, w' = w.drewN n := by
  have h2 : IntsAt w (.slice (some ⟨X, 0, none⟩) 2 2) [2, 8] [X] := by
    refine .inr ⟨X, 2, rfl, fun j x hx => ?_, rfl, Nat.le_refl _⟩
    match j, hx with
    | 0, hx => injection hx with hx; subst hx; exact (cell_of_blk hX 0).trans rfl
    | 1, hx => injection hx with hx; subst hx; exact (cell_of_blk hX 1).trans rfl
  exact equalInts_c _ _ [2, 8] [2, 8] F [X] (by decide) (by decide) w h h2
set_option maxRecDepth 100000 in
set_option maxHeartbeats 8000000 in
theorem awake5_c (w : World) (hS : SignsIn w) : Calls Tryz.prog 14 #[] w fun e w' => e = .returned (.bool true) ∧ Below w.heap.size w w' := by
  go_enter Tryz.func14, Tryz.ntmps14
  go_wp2_with (first
    | (go_at_call 40; refine (symbols_row aw5T _ rfl 0 aw5 14 rfl (by simp [aw5]) aw5_syms _ hS).mono ?_; rintro e w1 ⟨g1, c1, rfl, hb1, H1, hg0, hg1, hc1⟩; have hA1 : Below w.heap.size w (w1.alloc (.cells #[.int .i64 0, .int .i64 0] 35)) := below_alloc0 hb1 _)
    | (go_at_call 17; refine (bSkel_main g1 0 c1 aw5 (by decide) hc1 _ (H1.later (below_alloc0 (Below.refl _ w1) _))).mono ?_; rw [aw5_skel]; rintro e w2 ⟨hb2, a', b', s', k', sv, kv, F0, F1, hn, rfl, hI, hR⟩; injection hn with hn1 hn2 hn3 hn4 _; subst hn1; subst hn2; subst hn3; subst hn4; obtain ⟨A0, n0, c0, rfl⟩ := hI.isSlice; obtain ⟨g, c, g2, c2, A3, c3, F2, rfl, hgl, q1, q2, q3, hI2⟩ := aw5_read hR
       have hbA := bjoin hA1 hA1.size hb2)
    | (go_at_call 54; refine (equal28 g2 c2 _ F2 _ (hI2.later (below_alloc0 (below_alloc0 (below_alloc0 (Below.refl _ _) _) _) _)) (by have h3 := heap_alloc_new ((w2.alloc (.cells #[.int .i64 (-1), .int .i64 13, .slice A0 n0 c0, .slice (some ⟨g, 0, none⟩) 1 c] 32)).alloc (.cells #[.int .i64 0, .int .i64 0] 35)) (.cells #[.int .i64 2, .int .i64 8] 3); simpa using h3)).mono ?_
       rintro e w3 ⟨rfl, n3, rfl⟩
       have hbB := bdrewN (below_alloc0 (below_alloc0 (below_alloc0 hbA (.cells #[.int .i64 (-1), .int .i64 13, .slice A0 n0 c0, .slice (some ⟨g, 0, none⟩) 1 c] 32)) (.cells #[.int .i64 0, .int .i64 0] 35)) (.cells #[.int .i64 2, .int .i64 8] 3)) n3
       have hbC := bdrewN (below_alloc0 (below_alloc0 (below_alloc0 (Below.refl _ w2) (.cells #[.int .i64 (-1), .int .i64 13, .slice A0 n0 c0, .slice (some ⟨g, 0, none⟩) 1 c] 32)) (.cells #[.int .i64 0, .int .i64 0] 35)) (.cells #[.int .i64 2, .int .i64 8] 3)) n3
       have r3 := cell_later hbC q3
       have K3 := (bdrewN (below_alloc0 (below_alloc0 (Below.refl _ (w2.alloc (.cells #[.int .i64 (-1), .int .i64 13, .slice A0 n0 c0, .slice (some ⟨g, 0, none⟩) 1 c] 32))) (.cells #[.int .i64 0, .int .i64 0] 35)) (.cells #[.int .i64 2, .int .i64 8] 3)) n3).block w2.heap.size (by simp)
       have K4 := K3.trans (heap_alloc_new _ _)
       have p0 := cell_of_blk K4 0
       have p3 := cell_of_blk K4 3
       clear K3 K4 q1 q2 q3
       generalize (((w2.alloc (.cells #[.int .i64 (-1), .int .i64 13, .slice A0 n0 c0, .slice (some ⟨g, 0, none⟩) 1 c] 32)).alloc (.cells #[.int .i64 0, .int .i64 0] 35)).alloc (.cells #[.int .i64 2, .int .i64 8] 3)).drewN n3 = W3 at *))
  all_goals (go_ret; exact ⟨rfl, hbB⟩)
end Go.Proofs.YtjghijeblddijaaGreatDoor
