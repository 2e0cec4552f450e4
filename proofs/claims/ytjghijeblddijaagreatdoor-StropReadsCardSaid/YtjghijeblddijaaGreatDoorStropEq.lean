/- Walks: EqualFunc over symbols; alike. Walks: Equal over symbols, where the two lists are the same. -/
import Derived.Test.YtjghijeblddijaaGreatDoorStropText
import Derived.Test.YtjghijeblddijaaGreatDoorStropCutD
namespace Go.Proofs.YtjghijeblddijaaGreatDoor
open Go.RowKit

/-- A function value that holds two symbols against each other. -/
structure SymSame (w : World) (f : Nat) (cap : Array Value) (q : Sp.Sym → Sp.Sym → Bool) : Prop where
  eg : ∀ args w, (callFunc f args).run Tryz.prog w = .ok (.enter f args) w
  gives : ∀ (W : World) (x y : Sp.Sym), Below w.heap.size w W → Calls Tryz.prog f (#[symV x, symV y] ++ cap) W fun e w' => e = .returned (.bool (q x y)) ∧ Below W.heap.size W w'
def eqBy (q : Sp.Sym → Sp.Sym → Bool) (a b : List Sp.Sym) : Bool := a.length == b.length && (a.zip b).all fun p => q p.1 p.2
theorem eqBy_len (q : Sp.Sym → Sp.Sym → Bool) (a b : List Sp.Sym) (h : a.length ≠ b.length) : eqBy q a b = false := by
  unfold eqBy
  rw [beq_eq_false_iff_ne.2 h]; rfl
theorem eqBy_bad (q : Sp.Sym → Sp.Sym → Bool) (a b : List Sp.Sym) (k : Nat) (x y : Sp.Sym) (hx : a[k]? = some x) (hy : b[k]? = some y) (h : q x y = false) : eqBy q a b = false := by
  unfold eqBy
  rw [Bool.and_eq_false_iff]
  right
  rw [List.all_eq_false]
  refine ⟨(x, y), ?_, by simp [h]⟩
  apply List.mem_of_getElem? (i := k)
  rw [List.getElem?_zip_eq_some]
  exact ⟨hx, hy⟩
theorem eqBy_all (q : Sp.Sym → Sp.Sym → Bool) (a b : List Sp.Sym) (hl : a.length = b.length) (h : ∀ (j : Nat) x y, a[j]? = some x → b[j]? = some y → q x y = true) : eqBy q a b = true := by
  unfold eqBy
  rw [Bool.and_eq_true]
  refine ⟨by simpa using hl, ?_⟩
  rw [List.all_eq_true]
  rintro ⟨x, y⟩ hm
  obtain ⟨j, hj⟩ := List.getElem?_of_mem hm
  rw [List.getElem?_zip_eq_some] at hj
  exact h j x y hj.1 hj.2
set_option maxRecDepth 100000 in
set_option maxHeartbeats 8000000 in
theorem equalFunc_c (g o c g' o' c' : Nat) (a b : List Sp.Sym) (hl : a.length ≤ 1000000) (f : Nat) (cap : Array Value) (q : Sp.Sym → Sp.Sym → Bool) (w : World) (H : Row w g o a) (H' : Row w g' o' b) (hg : g < w.heap.size) (hg' : g' < w.heap.size) (HT : SymSame w f cap q) :
    Calls Tryz.prog 83 #[.slice (some ⟨g, o, none⟩) a.length c, .slice (some ⟨g', o', none⟩) b.length c', .func (.func f) #[] cap] w fun e w' => e = .returned (.bool (eqBy q a b)) ∧ Below w.heap.size w w' := by
  have eg := HT.eg
  by_cases hne : a.length = b.length
  · have e1 : ((a.length : Int) != (b.length : Int)) = false := by simp [hne]
    have e2 : (a.length != b.length) = false := by simp [hne]
    have Hne := Lib.hid hne
    clear hne
    go_enter Tryz.func83, Tryz.ntmps83
    go_wp2
    go_loopw [17] (fun t wr => ∃ k : Nat, k ≤ a.length ∧ t = .int .i64 k ∧ Below w.heap.size w wr ∧ Hid (∀ j : Nat, j < k → ∀ x y, a[j]? = some x → b[j]? = some y → q x y = true)) (fun t _ => a.length - (intOf t).toNat)
    case atStart => exact ⟨0, by omega, rfl, Below.refl _ _, Lib.hid fun j hj => absurd hj (Nat.not_lt_zero j)⟩
    case round =>
      obtain ⟨k, hk, rfl, hB, hh⟩ := hrel
      by_cases hlt : k < a.length
      · have hlt' : k < b.length := by have := Hne.out; omega
        obtain ⟨x, hx⟩ : ∃ x, a[k]? = some x := ⟨a[k], List.getElem?_eq_getElem hlt⟩
        obtain ⟨y, hy⟩ : ∃ y, b[k]? = some y := ⟨b[k], List.getElem?_eq_getElem hlt'⟩
        obtain ⟨q0, q1, q2⟩ := H.later hB k x hx
        obtain ⟨r0, r1, r2⟩ := H'.later hB k y hy
        have hgr : g' < wr.heap.size := Nat.lt_of_lt_of_le hg' hB.size
        have hgr0 : g < wr.heap.size := Nat.lt_of_lt_of_le hg hB.size
        have hgn : ¬ g' = wr.heap.size := Nat.ne_of_lt hgr
        have Hx := Lib.hid hx
        have Hy := Lib.hid hy
        have hB2 : Below w.heap.size w ((wr.alloc (.cells #[.int .i64 x.kind, .string ⟨x.text.toArray⟩, .int .i64 x.pos] 28)).alloc (.cells #[.int .i64 y.kind, .string ⟨y.text.toArray⟩, .int .i64 y.pos] 28)) := (hB.alloc hB.size _).alloc (by simp; have := hB.size; omega) _
        have hgv := HT.gives _ x y hB2
        have L1 := heap_alloc_new wr (.cells #[.int .i64 x.kind, .string ⟨x.text.toArray⟩, .int .i64 x.pos] 28)
        clear hx hy
        cases hq : q x y with
        | true =>
          have Hq := Lib.hid hq
          have Hg := Lib.hid hgv
          clear hq hgv
          go_wp2_with (refine Hg.out.mono ?_; rw [Hq.out]; rintro e w1 ⟨rfl, hb1⟩)
          go_roundw
          case rel =>
            refine ⟨k + 1, by omega, by go_num, bjoin hB2 hB2.size hb1, Lib.hid fun j hj x' y' hx' hy' => ?_⟩
            by_cases hjk : j = k
            · subst hjk
              rw [Hx.out] at hx'
              rw [Hy.out] at hy'
              injection hx' with hx'
              injection hy' with hy'
              rw [← hx', ← hy']; exact Hq.out
            · exact hh.out j (by omega) x' y' hx' hy'
          case measure => simp [intOf]; omega
        | false =>
          have Hq := Lib.hid hq
          have Hg := Lib.hid hgv
          clear hq hgv
          go_wp2_with (refine Hg.out.mono ?_; rw [Hq.out]; rintro e w1 ⟨rfl, hb1⟩)
          go_ret
          exact ⟨by rw [eqBy_bad q a b k x y Hx.out Hy.out Hq.out]; rfl, bjoin hB2 hB2.size hb1⟩
      · go_wp2
        go_ret
        refine ⟨?_, hB⟩
        rw [eqBy_all q a b Hne.out fun j x y hx hy => hh.out j (by have := (List.getElem?_eq_some_iff.1 hx).1; omega) x y hx hy]
        rfl
  · have e1 : ((a.length : Int) != (b.length : Int)) = true := by rw [bne_iff_ne]; omega
    have e2 : (a.length != b.length) = true := by rw [bne_iff_ne]; exact hne
    rw [eqBy_len q a b hne]
    clear hne
    go_enter Tryz.func83, Tryz.ntmps83
    go_wp2
    go_ret
    exact ⟨rfl, Below.refl _ _⟩
set_option maxRecDepth 100000 in
set_option maxHeartbeats 4000000 in
theorem alike1_same (w : World) : SymSame w 84 #[] (fun x y => x.kind == y.kind && x.text == y.text) := by
  refine ⟨enters_of Tryz.func84 (by kernel_rfl) rfl, fun W x y hW => ?_⟩
  obtain ⟨k, t, p⟩ := x
  obtain ⟨k', t', p'⟩ := y
  unfold symV
  dsimp only
  have hB : ∀ k k' : Int, Below W.heap.size W ((W.alloc (.cells #[.int .i64 k, .string ⟨t.toArray⟩, .int .i64 p] 28)).alloc (.cells #[.int .i64 k', .string ⟨t'.toArray⟩, .int .i64 p'] 28)) := fun k k' => ((Below.refl _ W).alloc (Nat.le_refl _) _).alloc (by simp only [World.alloc, Array.size_push]; omega) _
  go_enter Tryz.func84, Tryz.ntmps84
  go_wp2
  all_goals (go_ret; exact ⟨ret_bool (by simp [*]), hB _ _⟩)
theorem alike_c (g o c g' o' c' : Nat) (a b : List Sp.Sym) (hl : a.length ≤ 1000000) (w : World) (H : Row w g o a) (H' : Row w g' o' b) (hg : g < w.heap.size) (hg' : g' < w.heap.size) :
    Calls Tryz.prog 43 #[.slice (some ⟨g, o, none⟩) a.length c, .slice (some ⟨g', o', none⟩) b.length c'] w fun e w' => e = .returned (.bool (Sp.alike a b)) ∧ Below w.heap.size w w' := by
  have hT := alike1_same w
  have hc := Lib.hid (equalFunc_c g o c g' o' c' a b hl _ _ _ w H H' hg hg' hT)
  go_enter Tryz.func43, Tryz.ntmps43
  go_wp2_with (first | (go_at_call 83; refine hc.out.mono ?_; rintro e w1 ⟨rfl, hb1⟩))
  go_ret
  exact ⟨rfl, hb1⟩
end Go.Proofs.YtjghijeblddijaaGreatDoor
namespace Go.Proofs.YtjghijeblddijaaGreatDoor
open Go.RowKit
set_option maxRecDepth 100000 in
set_option maxHeartbeats 8000000 in
theorem equal_c (g o c g' o' c' : Nat) (a : List Sp.Sym) (hl : a.length ≤ 1000000) (w : World) (H : Row w g o a) (H' : Row w g' o' a) :
    Calls Tryz.prog 42 #[.slice (some ⟨g, o, none⟩) a.length c, .slice (some ⟨g', o', none⟩) a.length c'] w fun e w' => e = .returned (.bool true) ∧ ∃ n, w' = w.drewN n := by
  go_enter Tryz.func42, Tryz.ntmps42
  go_wp2
  go_loopw [13] (fun t wr => ∃ k : Nat, k ≤ a.length ∧ t = .int .i64 k ∧ ∃ n, wr = w.drewN n) (fun t _ => a.length - (intOf t).toNat)
  case atStart => exact ⟨0, by omega, rfl, 0, rfl⟩
  case round =>
    obtain ⟨k, hk, rfl, n, hn⟩ := hrel
    have hB : Below w.heap.size w wr := by rw [hn]; exact bdrewN (Below.refl _ _) n
    have Hn := Lib.hid hn
    clear hn
    by_cases hlt : k < a.length
    · obtain ⟨x, hx⟩ : ∃ x, a[k]? = some x := ⟨a[k], List.getElem?_eq_getElem hlt⟩
      obtain ⟨q0, q1, q2⟩ := H.later hB k x hx
      obtain ⟨r0, r1, r2⟩ := H'.later hB k x hx
      clear hx
      go_wp2
      go_quiet (fail)
      go_wp2
      go_roundw
      case rel => exact ⟨k + 1, by omega, by go_num, _, by rw [Hn.out]; exact World.drewN_drewN _ _ _⟩
      case measure => simp [intOf]; omega
    · go_wp2
      go_ret
      exact ⟨rfl, n, Hn.out⟩
theorem equal_n (g o c g' o' c' : Nat) (a : List Sp.Sym) (n : Nat) (hn : a.length = n) (hl : n ≤ 1000000) (w : World) (H : Row w g o a) (H' : Row w g' o' a) :
    Calls Tryz.prog 42 #[.slice (some ⟨g, o, none⟩) n c, .slice (some ⟨g', o', none⟩) n c'] w fun e w' => e = .returned (.bool true) ∧ ∃ m, w' = w.drewN m := by
  subst hn
  exact equal_c g o c g' o' c' a hl w H H'
end Go.Proofs.YtjghijeblddijaaGreatDoor
