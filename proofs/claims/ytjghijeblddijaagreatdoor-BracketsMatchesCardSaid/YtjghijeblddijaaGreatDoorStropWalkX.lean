/- Walks: Symbols. -/
import Derived.Test.YtjghijeblddijaaGreatDoorStropWalkV
import Derived.Test.YtjghijeblddijaaGreatDoorStropFactsC
import Derived.Deep.Onto
namespace Go.Proofs.YtjghijeblddijaaGreatDoor
open Go.RowKit

theorem catch_idle (p0 p1 : Value) (w : World) :
    CallsD Tryz.prog 79 #[p0, p1] .returning w fun e u' w' => e = .returned (.tuple #[]) ∧ u' = .returning ∧ w' = w := by
  refine callsD_of_wpS Tryz.func79 rfl fun c₀ cs hu => ?_
  simp only [Tryz.ntmps79, List.size_toArray, List.length_cons, List.length_nil, Nat.reduceAdd, Nat.reduceSub, Array.replicate_succ, Array.replicate_zero, List.push_toArray, List.append_toArray, List.nil_append, List.cons_append]
  apply wpS_seq
  apply wpS_region
  simp [wpOpsS, go_sem, recoverD, hu, Exit.thenS]
  refine wpS_of_wp ?_
  go_wp2
  refine ⟨rfl, _, ?_, .tuple #[], results_none rfl _ _ _, rfl, rfl, rfl⟩
  cases c₀
  simp_all

/-- The place of the scanner at block g. -/
def posOf (w : World) (g : Nat) : Nat :=
  match w.cell? ⟨g, 1, none⟩ with
  | some (.int _ z) => z.toNat
  | _ => 0
/-- What Symbols answers. -/
def symsE (A : Option Addr) (c : Nat) : Except (Int × Int) (List Sp.Sym) → Ending
  | .ok l => .returned (.tuple #[.slice A l.length c, .agg #[.int .i64 0, .int .i64 0]])
  | .error f => .returned (.tuple #[.slice none 0 0, .agg #[.int .i64 f.1, .int .i64 f.2]])
def symsL : Except (Int × Int) (List Sp.Sym) → List Sp.Sym
  | .ok l => l
  | .error _ => []
/-- What Symbols leaves: its row is of its own make. -/
def SymsPost (w : World) (x : Except (Int × Int) (List Sp.Sym)) (e : Ending) (w' : World) : Prop :=
  ∃ A c, e = symsE A c x ∧ Below w.heap.size w w' ∧ (w'.ownsRow w.heap.size 28 3 (.slice A (symsL x).length c) (symsL x).length ((symsL x).flatMap Sp.cells))

theorem two_cells {tmps : Array Value} {W : World} (b0 b1 : Nat) (v x y : Value) (fr0 fr1 : Nat × Nat) (h4 : tmps.getD 4 undef = .pointer (some ⟨b0, 0, none⟩)) (h5 : tmps.getD 5 undef = .pointer (some ⟨b1, 0, none⟩))
    (k0 : W.heap[b0]? = some (.cells #[v] 22 fr0)) (k1 : W.heap[b1]? = some (.cells #[x, y] 35 fr1)) : (results Tryz.f40 tmps).run Tryz.prog W = .ok (.tuple #[v, .agg #[x, y]]) W := by
  have h4' : tmps[4]?.getD undef = .pointer (some ⟨b0, 0, none⟩) := by simpa using h4
  have h5' : tmps[5]?.getD undef = .pointer (some ⟨b1, 0, none⟩) := by simpa using h5
  have c0 : W.cell? ⟨b0, 0, none⟩ = some v := (cell_of_blk k0 0).trans rfl
  have c1 : W.cell? ⟨b1, 0, none⟩ = some x := (cell_of_blk k1 0).trans rfl
  have c2 : W.cell? ⟨b1, 1, none⟩ = some y := (cell_of_blk k1 1).trans rfl
  have ha := Tryz.isAgg22
  simp [results, h4', h5', asAddr, loadVar, Sem.run_bind, ha, go_sem, c0, c1, c2]

set_option maxRecDepth 100000 in
set_option maxHeartbeats 4000000 in
theorem symbols_arg (s : ByteArray) (regime : Int) (h : regime < 0 ∨ 2 < regime) (w : World) :
    Calls Tryz.prog 40 #[.string s, .int .i64 regime] w (SymsPost w (.error (0, 1))) := by
  have K0 : ((w.alloc (.cells #[.slice none 0 0] 22)).alloc (.cells #[.int .i64 0, .int .i64 1] 35)).heap[w.heap.size]? = some (.cells #[.slice none 0 0] 22 (0, 0)) :=
    (heap_alloc_old _ _ (by simp)).trans (heap_alloc_new w _)
  have K1 : ((w.alloc (.cells #[.slice none 0 0] 22)).alloc (.cells #[.int .i64 0, .int .i64 1] 35)).heap[w.heap.size + 1]? = some (.cells #[.int .i64 0, .int .i64 1] 35 (0, 0)) := by
    have := heap_alloc_new (w.alloc (.cells #[.slice none 0 0] 22)) (.cells #[.int .i64 0, .int .i64 1] 35)
    simpa using this
  have hB : Below w.heap.size w ((w.alloc (.cells #[.slice none 0 0] 22)).alloc (.cells #[.int .i64 0, .int .i64 1] 35)) :=
    ((Below.refl _ w).alloc (Nat.le_refl _) _).alloc (by simp) _
  go_enter_defers Tryz.func40, Tryz.ntmps40
  go_wp2
  all_goals
    exact ⟨_, two_cells _ _ _ _ _ _ _ rfl rfl K0 K1, none, 0, rfl, hB, World.ownsRow_nil _ _ _ _⟩

set_option maxRecDepth 100000 in
set_option maxHeartbeats 4000000 in
theorem symbols_len (s : ByteArray) (regime : Int) (h0 : 0 ≤ regime) (h2 : regime ≤ 2) (hs : 65536 < s.size) (w : World) :
    Calls Tryz.prog 40 #[.string s, .int .i64 regime] w (SymsPost w (.error (0, 3))) := by
  have K0 : ((w.alloc (.cells #[.slice none 0 0] 22)).alloc (.cells #[.int .i64 0, .int .i64 3] 35)).heap[w.heap.size]? = some (.cells #[.slice none 0 0] 22 (0, 0)) :=
    (heap_alloc_old _ _ (by simp)).trans (heap_alloc_new w _)
  have K1 : ((w.alloc (.cells #[.slice none 0 0] 22)).alloc (.cells #[.int .i64 0, .int .i64 3] 35)).heap[w.heap.size + 1]? = some (.cells #[.int .i64 0, .int .i64 3] 35 (0, 0)) := by
    have := heap_alloc_new (w.alloc (.cells #[.slice none 0 0] 22)) (.cells #[.int .i64 0, .int .i64 3] 35)
    simpa using this
  have hB : Below w.heap.size w ((w.alloc (.cells #[.slice none 0 0] 22)).alloc (.cells #[.int .i64 0, .int .i64 3] 35)) :=
    ((Below.refl _ w).alloc (Nat.le_refl _) _).alloc (by simp) _
  have e1 : decide (regime < 0) = false := by simp; omega
  have e2 : decide (2 < regime) = false := by simp; omega
  have e3 : decide (65536 < (s.size : Int)) = true := by simp; omega
  have e4 : decide (65536 < s.size) = true := by simp; omega
  go_enter_defers Tryz.func40, Tryz.ntmps40
  go_wp2
  all_goals
    exact ⟨_, two_cells _ _ _ _ _ _ _ rfl rfl K0 K1, none, 0, rfl, hB, World.ownsRow_nil _ _ _ _⟩

set_option maxRecDepth 100000 in
set_option maxHeartbeats 4000000 in
theorem symbols_main (s : ByteArray) (regime : Int) (h0 : 0 ≤ regime) (h2 : regime ≤ 2) (hs : s.size ≤ 65536) (w : World) (hS : SignsIn w) (X : Except (Int × Int) (List Sp.Sym)) (hX : Sp.scan (s.size + 1) regime.toNat (bs s) 0 = X) :
    Calls Tryz.prog 40 #[.string s, .int .i64 regime] w (SymsPost w (Sp.ended s.size X)) := by
  generalize hW0 : ((w.alloc (.cells #[.slice none 0 0] 22)).alloc (.cells #[.int .i64 0, .int .i64 0] 35)).alloc (.cells #[.string s, .int .i64 0, .int .i64 regime, .slice none 0 0] 117) = W0
  have K0 : W0.heap[w.heap.size]? = some (.cells #[.slice none 0 0] 22 (0, 0)) := by
    rw [← hW0]
    exact (heap_alloc_old _ _ (by simp; omega)).trans ((heap_alloc_old _ _ (by simp)).trans (heap_alloc_new w _))
  have K1 : W0.heap[w.heap.size + 1]? = some (.cells #[.int .i64 0, .int .i64 0] 35 (0, 0)) := by
    rw [← hW0]
    have := heap_alloc_new (w.alloc (.cells #[.slice none 0 0] 22)) (.cells #[.int .i64 0, .int .i64 0] 35)
    exact (heap_alloc_old _ _ (by simp)).trans (by simpa using this)
  have K2 : W0.heap[w.heap.size + 1 + 1]? = some (.cells #[.string s, .int .i64 0, .int .i64 regime, .slice none 0 0] 117 (0, 0)) := by
    rw [← hW0]
    have := heap_alloc_new ((w.alloc (.cells #[.slice none 0 0] 22)).alloc (.cells #[.int .i64 0, .int .i64 0] 35)) (.cells #[.string s, .int .i64 0, .int .i64 regime, .slice none 0 0] 117)
    simpa using this
  have hB : Below w.heap.size w W0 := by
    rw [← hW0]
    exact (((Below.refl _ w).alloc (Nat.le_refl _) _).alloc (by simp) _).alloc (by simp; omega) _
  have H0 : Scn (w.heap.size + 1 + 1) W0 (w.heap.size + 1 + 1) s 0 regime [] none 0 := ⟨Nat.le_refl _, K2, World.ownsRow_nil _ _ _ _⟩
  have R0 := H0.R
  have c1 := R0.c1
  have f1 := free_of_blk H0.blk 1
  have HW0 := Lib.hid hW0
  have HX := Lib.hid hX
  have e1 : decide (regime < 0) = false := by simp; omega
  have e2 : decide (2 < regime) = false := by simp; omega
  have e3 : decide (65536 < (s.size : Int)) = false := by simp; omega
  have e4 : decide (65536 < s.size) = false := by simp; omega
  have hmf := run_makeFunc
  clear hX hW0
  go_enter_defers Tryz.func40, Tryz.ntmps40
  go_wp2_with (first | (go_at_call 80; rw [HW0.out]; refine (blanks_i 0 (w.heap.size + 1 + 1) s 0 regime _ rfl (by omega) (by omega) _ R0).mono ?_; rintro e w' ⟨rfl, rfl⟩))
  generalize hg : w.heap.size + 1 + 1 = g at *
  have HS := Lib.hid hS
  have HK0 := Lib.hid K0
  have HK1 := Lib.hid K1
  have HB := Lib.hid hB
  have Hg := Lib.hid hg
  have hgW : W0.heap.size = g + 1 := by
    have := HW0.out
    rw [← this]; simp; omega
  have HgW := Lib.hid hgW
  have hst : Scn g (W0.setCell ⟨g, 1, none⟩ (.int .i64 (Sp.bl (bs s) : Int))) g s (Sp.bl (bs s) : Int) regime [] none 0 := H0.setAt _
  have hstB : Below g W0 (W0.setCell ⟨g, 1, none⟩ (.int .i64 (Sp.bl (bs s) : Int))) := (Below.refl g W0).setCell (Nat.le_refl _) _
  clear hS K0 K1 K2 hB hg hgW H0 R0 c1 f1
  go_loopw [] (fun wr => ∃ (p : Nat) (r : Int) (out : List Sp.Sym) (fuel : Nat) (A : Option Addr) (c : Nat), p ≤ s.size ∧ Sp.bl ((bs s).drop p) = 0 ∧ s.size - p < fuel ∧ out.length ≤ p ∧ 0 ≤ r ∧ r ≤ 2 ∧
      Scn g wr g s (p : Int) r out A c ∧ Below g W0 wr ∧ Hid (X = Sp.more out (Sp.scan fuel r.toNat ((bs s).drop p) p))) (fun wr => s.size - posOf wr g)
  case atStart =>
    refine ⟨Sp.bl (bs s), regime, [], s.size + 1, none, 0, ?_, Sp.bl_drop _, by omega, Nat.zero_le _, h0, h2, hst, hstB, Lib.hid ?_⟩
    · have := Sp.bl_le (bs s)
      rw [bs_length] at this; exact this
    · rw [Sp.more_nil, ← HX.out, Sp.scan_skip, Nat.zero_add]
  case round =>
    obtain ⟨p, r, out, fuel, A, c, hp, hbl, hfuel, hout, hr0, hr2, H, hB, hh⟩ := hrel
    clear hst hstB
    have R := H.R
    have c1 := R.c1
    by_cases hlt : p < s.size
    · obtain ⟨fuel, rfl⟩ : ∃ f, fuel = f + 1 := ⟨fuel - 1, by omega⟩
      have hne : (bs s).drop p ≠ [] := by
        intro h
        have := congrArg List.length h
        rw [List.length_drop, bs_length] at this
        simp at this; omega
      have hadv := Sp.symbol_adv r.toNat ((bs s).drop p) (by omega) hne
      have hstep := Sp.scan_step fuel r.toNat ((bs s).drop p) p hbl hne
      have hSr : SignsIn wr := HS.out.later (HB.out.trans (hB.mono (by have := Hg.out; omega)))
      generalize hst : Sp.symbol r.toNat ((bs s).drop p) = st at hadv hstep
      rw [List.length_drop, bs_length] at hadv
      cases st with
      | sym k t n =>
        obtain ⟨ha1, ha2⟩ := hadv
        have Hst := Lib.hid hst
        have Hstep := Lib.hid hstep
        have hblb := bl_bound s (p + n) (by omega)
        have Hblb := Lib.hid hblb
        clear hst hstep hne hbl hblb
        go_wp2_with (first
          | (go_at_call 81; refine (symbol_c g g s p r hr0 hr2 out A c _ H hlt (by omega) (by omega) hSr).mono ?_; rw [Hst.out]; rintro e w1 ⟨rfl, ⟨A1, k1, H1⟩, hb1⟩; have R1 := H1.R; clear c1; have c1 := R1.c1; have f1 := free_of_blk H1.blk 1)
          | (go_at_call 80; refine (blanks_i (p + n) g s _ _ _ (by omega) (by omega) (by omega) _ R1).mono ?_; rintro e w2 ⟨rfl, rfl⟩))
        go_roundw
        case rel =>
          refine ⟨p + n + Sp.bl ((bs s).drop (p + n)), r, out ++ [⟨k, t, (p : Int)⟩], fuel, A1, k1, Hblb.out, ?_, by omega, ?_, hr0, hr2, H1.setAt _, (hB.trans hb1).setCell (Nat.le_refl _) _, Lib.hid ?_⟩
          · rw [← List.drop_drop]; exact Sp.bl_drop _
          · rw [List.length_append]; simp; omega
          · rw [hh.out, Hstep.out]
            rw [Sp.more_more, List.drop_drop, Sp.scan_skip, List.drop_drop]
        case measure =>
          have e1 : posOf wr g = p := by unfold posOf; rw [R.c1]; rfl
          have e2 : posOf (w1.setCell ⟨g, 1, none⟩ (.int .i64 ((p + n + Sp.bl ((bs s).drop (p + n)) : Nat) : Int))) g = p + n + Sp.bl ((bs s).drop (p + n)) := by
            unfold posOf
            rw [(H1.setAt _).R.c1]; rfl
          simp only [Int.natCast_add] at e2
          rw [e1, e2]
          omega
      | skip n r' =>
        obtain ⟨ha1, ha2, hr'⟩ := hadv
        have Hst := Lib.hid hst
        have Hstep := Lib.hid hstep
        have hblb := bl_bound s (p + n) (by omega)
        have Hblb := Lib.hid hblb
        clear hst hstep hne hbl hblb
        go_wp2_with (first
          | (go_at_call 81; refine (symbol_c g g s p r hr0 hr2 out A c _ H hlt (by omega) (by omega) hSr).mono ?_; rw [Hst.out]; rintro e w1 ⟨rfl, ⟨A1, k1, H1⟩, hb1⟩; have R1 := H1.R; clear c1; have c1 := R1.c1; have f1 := free_of_blk H1.blk 1)
          | (go_at_call 80; refine (blanks_i (p + n) g s _ _ _ (by omega) (by omega) (by omega) _ R1).mono ?_; rintro e w2 ⟨rfl, rfl⟩))
        go_roundw
        case rel =>
          refine ⟨p + n + Sp.bl ((bs s).drop (p + n)), (r' : Int), out, fuel, A1, k1, Hblb.out, ?_, by omega, ?_, by omega, by omega, H1.setAt _, (hB.trans hb1).setCell (Nat.le_refl _) _, Lib.hid ?_⟩
          · rw [← List.drop_drop]; exact Sp.bl_drop _
          · omega
          · rw [hh.out, Hstep.out]
            rw [List.drop_drop, Sp.scan_skip, List.drop_drop, Int.toNat_natCast]
        case measure =>
          have e1 : posOf wr g = p := by unfold posOf; rw [R.c1]; rfl
          have e2 : posOf (w1.setCell ⟨g, 1, none⟩ (.int .i64 ((p + n + Sp.bl ((bs s).drop (p + n)) : Nat) : Int))) g = p + n + Sp.bl ((bs s).drop (p + n)) := by
            unfold posOf
            rw [(H1.setAt _).R.c1]; rfl
          simp only [Int.natCast_add] at e2
          rw [e1, e2]
          omega
      | fault o cd =>
        have Hst := Lib.hid hst
        have Hstep := Lib.hid hstep
        clear hst hstep hne hbl hadv
        go_wp2_with (first
          | (go_at_call 81; refine (symbol_c g g s p r hr0 hr2 out A c _ H hlt (by omega) (by omega) hSr).mono ?_; rw [Hst.out]; rintro e w1 ⟨rfl, hb1⟩))
        have hB1 : Below g W0 w1 := hB.trans hb1
        have hle : w.heap.size + 1 < g := by have := Hg.out; omega
        have hlW : g < W0.heap.size := by have := HgW.out; omega
        have k0 := (hB1.block w.heap.size (by omega)).trans HK0.out
        have k1 := (hB1.block (w.heap.size + 1) (by omega)).trans HK1.out
        refine leaves_cons (f := 79) (args := #[.pointer (some ⟨w.heap.size, 0, none⟩), .pointer (some ⟨w.heap.size + 1, 0, none⟩)]) (by simp) (by simp [go_sem]) ?_
        refine (catch_panicking w.heap.size w.heap.size (w.heap.size + 1) (Nat.le_refl _) (by omega) (by omega) _ _ [] _ _ _ _ k0 k1).mono ?_
        rintro e u' w2 ⟨rfl, rfl, l0, l1, hb2⟩
        have hX : X = .error ((p : Int) + (o : Int), cd) := by rw [hh.out, Hstep.out]; simp [Sp.more]
        rw [hX]
        exact ⟨_, two_cells _ _ _ _ _ _ _ rfl rfl l0 l1, none, 0, rfl, (HB.out.trans (hB1.mono (by omega))).trans hb2, World.ownsRow_nil _ _ _ _⟩
    · have hps : p = s.size := by omega
      have hfin : X = .ok out := by
        obtain ⟨fuel, rfl⟩ : ∃ f, fuel = f + 1 := ⟨fuel - 1, by omega⟩
        rw [hh.out, List.drop_of_length_le (by rw [bs_length]; omega), Sp.scan_end]
        simp [Sp.more]
      have Hfin := Lib.hid hfin
      have h3 := H.c3
      have hlt1 := H.lt
      have hle : w.heap.size + 1 < g := by have := Hg.out; omega
      have hlW : g < W0.heap.size := by have := HgW.out; omega
      have K0 := (hB.block w.heap.size (by omega)).trans HK0.out
      have K1 := (hB.block (w.heap.size + 1) (by omega)).trans HK1.out
      have HK0' := Lib.hid K0
      have HK1' := Lib.hid K1
      clear hfin K0 K1
      go_wp2_with (at_builtin; refine append_lit g rfl _ _ 22 28 _ 3 32 rfl Tryz.underlying22 info_sym rfl (by decide) (by decide) A out.length c (out.flatMap Sp.cells) [.int .i64 0, .string ⟨#[]⟩, .int .i64 (s.size : Int)] rfl rfl rfl (by simp [Value.oneCell']) H.own (Nat.le_of_lt hlt1) (by omega) ?_; intro A' c' w1 hown hgr hbel hat; have L0 := (hbel.block w.heap.size (by omega)).trans HK0'.out; have L1 := (hbel.block (w.heap.size + 1) (by omega)).trans HK1'.out; have d0 := cell_of_blk L0 0; have d1 := cell_of_blk L1 0; have d2 := cell_of_blk L1 1; have g0 := free_of_blk L0 0; have g1 := free_of_blk L1 0; have g2 := free_of_blk L1 1)
      refine leaves_cons (f := 79) (args := #[.pointer (some ⟨w.heap.size, 0, none⟩), .pointer (some ⟨w.heap.size + 1, 0, none⟩)]) (by simp) (by simp [go_sem]) ?_
      refine (catch_idle _ _ _).mono ?_
      rintro e u' w2 ⟨rfl, rfl, rfl⟩
      have hne : w.heap.size ≠ w.heap.size + 1 := by omega
      have M0 : (((w1.setCell ⟨w.heap.size, 0, none⟩ (.slice A' (out.length + 1) c')).setCell ⟨w.heap.size + 1, 0, none⟩ (.int .i64 0)).setCell ⟨w.heap.size + 1, 1, none⟩ (.int .i64 0)).heap[w.heap.size]? = some (.cells #[.slice A' (out.length + 1) c'] 22 (0, 0)) := by
        rw [Below.heap_setCell _ _ _ _ hne, Below.heap_setCell _ _ _ _ hne, blk_setCell L0 0]; rfl
      have M1 : (((w1.setCell ⟨w.heap.size, 0, none⟩ (.slice A' (out.length + 1) c')).setCell ⟨w.heap.size + 1, 0, none⟩ (.int .i64 0)).setCell ⟨w.heap.size + 1, 1, none⟩ (.int .i64 0)).heap[w.heap.size + 1]? = some (.cells #[.int .i64 0, .int .i64 0] 35 (0, 0)) := by
        have e0 : (w1.setCell ⟨w.heap.size, 0, none⟩ (.slice A' (out.length + 1) c')).heap[w.heap.size + 1]? = some (.cells #[.int .i64 0, .int .i64 0] 35 (0, 0)) := by
          rw [Below.heap_setCell _ _ _ _ (Ne.symm hne)]; exact L1
        exact blk_setCell (blk_setCell e0 0 _) 1 _
      have hlo : ∀ k, (Value.slice A' (out.length + 1) c').ownBlock = some k → g ≤ k := fun k hk => (hown.lt k hk).1
      have hown2 : (((w1.setCell ⟨w.heap.size, 0, none⟩ (.slice A' (out.length + 1) c')).setCell ⟨w.heap.size + 1, 0, none⟩ (.int .i64 0)).setCell ⟨w.heap.size + 1, 1, none⟩ (.int .i64 0)).ownsRow w.heap.size 28 3 (.slice A' (out.length + 1) c') (out.length + 1) (out.flatMap Sp.cells ++ [.int .i64 0, .string ⟨#[]⟩, .int .i64 (s.size : Int)]) := by
        refine World.ownsRow.mono (base := g) ?_ (by omega)
        exact own_setCell (own_setCell (own_setCell hown _ (fun h => by have := hlo _ h; simp only at this; omega) _) _ (fun h => by have := hlo _ h; simp only at this; omega) _) _ (fun h => by have := hlo _ h; simp only at this; omega) _
      have hBf : Below w.heap.size w w1 := (HB.out.trans (hB.mono (by omega))).trans (hbel.mono (by omega))
      rw [Hfin.out]
      refine ⟨_, two_cells _ _ _ _ _ _ _ rfl rfl M0 M1, A', c', ?_, ((hBf.setCell (Nat.le_refl _) _).setCell (Nat.le_succ _) _).setCell (Nat.le_succ _) _, ?_⟩
      · simp [symsE, Sp.ended]
      · simpa [symsL, Sp.ended, Sp.cells] using hown2

/-- Symbols, whole: for a text that is not too long to be told. -/
theorem symbols_c (s : ByteArray) (regime : Int) (w : World) (hS : SignsIn w) :
    Calls Tryz.prog 40 #[.string s, .int .i64 regime] w (SymsPost w (Sp.symbols (bs s) regime)) := by
  by_cases hr : regime < 0 ∨ 2 < regime
  · have e : Sp.symbols (bs s) regime = .error (0, 1) := by unfold Sp.symbols; rw [if_pos hr]
    rw [e]
    exact symbols_arg s regime hr w
  · by_cases hs : 65536 < s.size
    · have e : Sp.symbols (bs s) regime = .error (0, 3) := by unfold Sp.symbols; rw [if_neg hr, if_pos (by rw [bs_length]; exact hs)]
      rw [e]
      exact symbols_len s regime (by omega) (by omega) hs w
    · rw [Sp.symbols_eq _ _ hr (by rw [bs_length]; omega), bs_length]
      exact symbols_main s regime (by omega) (by omega) (by omega) w hS _ rfl
end Go.Proofs.YtjghijeblddijaaGreatDoor
