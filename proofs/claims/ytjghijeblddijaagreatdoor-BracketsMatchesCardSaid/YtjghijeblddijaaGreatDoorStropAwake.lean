/- Walks: EqualFunc over symbols; alike. Walks: Equal over symbols, where the two lists are the same. Walks: Text whole; awake. -/
import Derived.Test.YtjghijeblddijaaGreatDoorStropTextW
import Derived.Test.YtjghijeblddijaaGreatDoorStropCutD
import Derived.Test.YtjghijeblddijaaGreatDoorStropFault
namespace Go.Proofs.YtjghijeblddijaaGreatDoor
open Go.RowKit

/-- A function value that holds two symbols against each other. -/
structure SymSame (w : World) (f : Nat) (cap : Array Value) (q : Sp.Sym → Sp.Sym → Bool) : Prop where
  eg : ∀ args w, (callFunc f args).run Tryz.prog w = .ok (.enter f args) w
  gives : ∀ (W : World) (x y : Sp.Sym), Below w.heap.size w W → Calls Tryz.prog f (#[symV x, symV y] ++ cap) W fun e w' => e = .returned (.bool (q x y)) ∧ Below W.heap.size W w'
def eqBy (q : Sp.Sym → Sp.Sym → Bool) (a b : List Sp.Sym) : Bool := a.length == b.length && (a.zip b).all fun p => q p.1 p.2
theorem eqBy_len (q : Sp.Sym → Sp.Sym → Bool) (a b : List Sp.Sym) (h : a.length ≠ b.length) : eqBy q a b = false := by
  unfold eqBy
  rw [beq_eq_false_iff_ne.2 h]; rfl
theorem eqBy_bad (q : Sp.Sym → Sp.Sym → Bool) (a b : List Sp.Sym) (k : Nat) (x y : Sp.Sym) (hx : a[k]? = some x) (hy : b[k]? = some y) (h : q x y = false) : eqBy q a b = false := by
  unfold eqBy
  rw [Bool.and_eq_false_iff]
  right
  rw [List.all_eq_false]
  refine ⟨(x, y), ?_, by simp [h]⟩
  apply List.mem_of_getElem? (i := k)
  rw [List.getElem?_zip_eq_some]
  exact ⟨hx, hy⟩
theorem eqBy_all (q : Sp.Sym → Sp.Sym → Bool) (a b : List Sp.Sym) (hl : a.length = b.length) (h : ∀ (j : Nat) x y, a[j]? = some x → b[j]? = some y → q x y = true) : eqBy q a b = true := by
  unfold eqBy
  rw [Bool.and_eq_true]
  refine ⟨by simpa using hl, ?_⟩
  rw [List.all_eq_true]
  rintro ⟨x, y⟩ hm
  obtain ⟨j, hj⟩ := List.getElem?_of_mem hm
  rw [List.getElem?_zip_eq_some] at hj
  exact h j x y hj.1 hj.2
set_option maxRecDepth 100000 in
set_option maxHeartbeats 8000000 in
theorem equalFunc_c (g o c g' o' c' : Nat) (a b : List Sp.Sym) (hl : a.length ≤ 1000000) (f : Nat) (cap : Array Value) (q : Sp.Sym → Sp.Sym → Bool) (w : World) (H : Row w g o a) (H' : Row w g' o' b) (hg : g < w.heap.size) (hg' : g' < w.heap.size) (HT : SymSame w f cap q) :
    Calls Tryz.prog 83 #[.slice (some ⟨g, o, none⟩) a.length c, .slice (some ⟨g', o', none⟩) b.length c', .func (.func f) #[] cap] w fun e w' => e = .returned (.bool (eqBy q a b)) ∧ Below w.heap.size w w' := by
  have eg := HT.eg
  by_cases hne : a.length = b.length
  · have e1 : ((a.length : Int) != (b.length : Int)) = false := by simp [hne]
    have e2 : (a.length != b.length) = false := by simp [hne]
    have Hne := Lib.hid hne
    clear hne
    go_enter Tryz.func83, Tryz.ntmps83
    go_wp2
    go_loopw [17] (fun t wr => ∃ k : Nat, k ≤ a.length ∧ t = .int .i64 k ∧ Below w.heap.size w wr ∧ Hid (∀ j : Nat, j < k → ∀ x y, a[j]? = some x → b[j]? = some y → q x y = true)) (fun t _ => a.length - (intOf t).toNat)
    case atStart => exact ⟨0, by omega, rfl, Below.refl _ _, Lib.hid fun j hj => absurd hj (Nat.not_lt_zero j)⟩
    case round =>
      obtain ⟨k, hk, rfl, hB, hh⟩ := hrel
      by_cases hlt : k < a.length
      · have hlt' : k < b.length := by have := Hne.out; omega
        obtain ⟨x, hx⟩ : ∃ x, a[k]? = some x := ⟨a[k], List.getElem?_eq_getElem hlt⟩
        obtain ⟨y, hy⟩ : ∃ y, b[k]? = some y := ⟨b[k], List.getElem?_eq_getElem hlt'⟩
        obtain ⟨q0, q1, q2⟩ := H.later hB k x hx
        obtain ⟨r0, r1, r2⟩ := H'.later hB k y hy
        have hgr : g' < wr.heap.size := Nat.lt_of_lt_of_le hg' hB.size
        have hgr0 : g < wr.heap.size := Nat.lt_of_lt_of_le hg hB.size
        have hgn : ¬ g' = wr.heap.size := Nat.ne_of_lt hgr
        have Hx := Lib.hid hx
        have Hy := Lib.hid hy
        have hB2 : Below w.heap.size w ((wr.alloc (.cells #[.int .i64 x.kind, .string ⟨x.text.toArray⟩, .int .i64 x.pos] 28)).alloc (.cells #[.int .i64 y.kind, .string ⟨y.text.toArray⟩, .int .i64 y.pos] 28)) := (hB.alloc hB.size _).alloc (by simp; have := hB.size; omega) _
        have hgv := HT.gives _ x y hB2
        have L1 := heap_alloc_new wr (.cells #[.int .i64 x.kind, .string ⟨x.text.toArray⟩, .int .i64 x.pos] 28)
        clear hx hy
        cases hq : q x y with
        | true =>
          have Hq := Lib.hid hq
          have Hg := Lib.hid hgv
          clear hq hgv
          go_wp2_with (refine Hg.out.mono ?_; rw [Hq.out]; rintro e w1 ⟨rfl, hb1⟩)
          go_roundw
          case rel =>
            refine ⟨k + 1, by omega, by go_num, bjoin hB2 hB2.size hb1, Lib.hid fun j hj x' y' hx' hy' => ?_⟩
            by_cases hjk : j = k
            · subst hjk
              rw [Hx.out] at hx'
              rw [Hy.out] at hy'
              injection hx' with hx'
              injection hy' with hy'
              rw [← hx', ← hy']; exact Hq.out
            · exact hh.out j (by omega) x' y' hx' hy'
          case measure => simp [intOf]; omega
        | false =>
          have Hq := Lib.hid hq
          have Hg := Lib.hid hgv
          clear hq hgv
          go_wp2_with (refine Hg.out.mono ?_; rw [Hq.out]; rintro e w1 ⟨rfl, hb1⟩)
          go_ret
          exact ⟨by rw [eqBy_bad q a b k x y Hx.out Hy.out Hq.out]; rfl, bjoin hB2 hB2.size hb1⟩
      · go_wp2
        go_ret
        refine ⟨?_, hB⟩
        rw [eqBy_all q a b Hne.out fun j x y hx hy => hh.out j (by have := (List.getElem?_eq_some_iff.1 hx).1; omega) x y hx hy]
        rfl
  · have e1 : ((a.length : Int) != (b.length : Int)) = true := by rw [bne_iff_ne]; omega
    have e2 : (a.length != b.length) = true := by rw [bne_iff_ne]; exact hne
    rw [eqBy_len q a b hne]
    clear hne
    go_enter Tryz.func83, Tryz.ntmps83
    go_wp2
    go_ret
    exact ⟨rfl, Below.refl _ _⟩
set_option maxRecDepth 100000 in
set_option maxHeartbeats 4000000 in
theorem alike1_same (w : World) : SymSame w 84 #[] (fun x y => x.kind == y.kind && x.text == y.text) := by
  refine ⟨enters_of Tryz.func84 (by kernel_rfl) rfl, fun W x y hW => ?_⟩
  obtain ⟨k, t, p⟩ := x
  obtain ⟨k', t', p'⟩ := y
  unfold symV
  dsimp only
  have hB : ∀ k k' : Int, Below W.heap.size W ((W.alloc (.cells #[.int .i64 k, .string ⟨t.toArray⟩, .int .i64 p] 28)).alloc (.cells #[.int .i64 k', .string ⟨t'.toArray⟩, .int .i64 p'] 28)) := fun k k' => ((Below.refl _ W).alloc (Nat.le_refl _) _).alloc (by simp only [World.alloc, Array.size_push]; omega) _
  go_enter Tryz.func84, Tryz.ntmps84
  go_wp2
  all_goals (go_ret; exact ⟨ret_bool (by simp [*]), hB _ _⟩)
theorem alike_c (g o c g' o' c' : Nat) (a b : List Sp.Sym) (hl : a.length ≤ 1000000) (w : World) (H : Row w g o a) (H' : Row w g' o' b) (hg : g < w.heap.size) (hg' : g' < w.heap.size) :
    Calls Tryz.prog 43 #[.slice (some ⟨g, o, none⟩) a.length c, .slice (some ⟨g', o', none⟩) b.length c'] w fun e w' => e = .returned (.bool (Sp.alike a b)) ∧ Below w.heap.size w w' := by
  have hT := alike1_same w
  have hc := Lib.hid (equalFunc_c g o c g' o' c' a b hl _ _ _ w H H' hg hg' hT)
  go_enter Tryz.func43, Tryz.ntmps43
  go_wp2_with (first | (go_at_call 83; refine hc.out.mono ?_; rintro e w1 ⟨rfl, hb1⟩))
  go_ret
  exact ⟨rfl, hb1⟩
end Go.Proofs.YtjghijeblddijaaGreatDoor
namespace Go.Proofs.YtjghijeblddijaaGreatDoor
open Go.RowKit
set_option maxRecDepth 100000 in
set_option maxHeartbeats 8000000 in
theorem equal_c (g o c g' o' c' : Nat) (a : List Sp.Sym) (hl : a.length ≤ 1000000) (w : World) (H : Row w g o a) (H' : Row w g' o' a) :
    Calls Tryz.prog 42 #[.slice (some ⟨g, o, none⟩) a.length c, .slice (some ⟨g', o', none⟩) a.length c'] w fun e w' => e = .returned (.bool true) ∧ ∃ n, w' = w.drewN n := by
  go_enter Tryz.func42, Tryz.ntmps42
  go_wp2
  go_loopw [13] (fun t wr => ∃ k : Nat, k ≤ a.length ∧ t = .int .i64 k ∧ ∃ n, wr = w.drewN n) (fun t _ => a.length - (intOf t).toNat)
  case atStart => exact ⟨0, by omega, rfl, 0, rfl⟩
  case round =>
    obtain ⟨k, hk, rfl, n, hn⟩ := hrel
    have hB : Below w.heap.size w wr := by rw [hn]; exact bdrewN (Below.refl _ _) n
    have Hn := Lib.hid hn
    clear hn
    by_cases hlt : k < a.length
    · obtain ⟨x, hx⟩ : ∃ x, a[k]? = some x := ⟨a[k], List.getElem?_eq_getElem hlt⟩
      obtain ⟨q0, q1, q2⟩ := H.later hB k x hx
      obtain ⟨r0, r1, r2⟩ := H'.later hB k x hx
      clear hx
      go_wp2
      go_quiet (fail)
      go_wp2
      go_roundw
      case rel => exact ⟨k + 1, by omega, by go_num, _, by rw [Hn.out]; exact World.drewN_drewN _ _ _⟩
      case measure => simp [intOf]; omega
    · go_wp2
      go_ret
      exact ⟨rfl, n, Hn.out⟩
theorem equal_n (g o c g' o' c' : Nat) (a : List Sp.Sym) (n : Nat) (hn : a.length = n) (hl : n ≤ 1000000) (w : World) (H : Row w g o a) (H' : Row w g' o' a) :
    Calls Tryz.prog 42 #[.slice (some ⟨g, o, none⟩) n c, .slice (some ⟨g', o', none⟩) n c'] w fun e w' => e = .returned (.bool true) ∧ ∃ m, w' = w.drewN m := by
  subst hn
  exact equal_c g o c g' o' c' a hl w H H'
end Go.Proofs.YtjghijeblddijaaGreatDoor
namespace Go.Proofs.YtjghijeblddijaaGreatDoor
open Go.RowKit

theorem text_c (g o c : Nat) (l : List Sp.Sym) (hl : l.length ≤ 100000) (hlc : l.length ≤ c) (hs : Small l) (r : Nat) (hr : r ≤ 2) (w : World) (H : Row w g o l) (hS : SignsIn w) (hM : MaxIn w) :
    Calls Tryz.prog 38 #[.slice (some ⟨g, o, none⟩) l.length c, .int .i64 (r : Int)] w (TextPost w (Sp.text l (r : Int))) := by
  cases hf : l.findIdx? (fun x => x.kind == 0) with
  | none =>
    refine text_none g o c l hl hlc hs r hr w H hS hM ?_
    unfold idx
    rw [hf]
  | some i =>
    have hi : idx (fun x => x.kind == 0) l = (i : Int) := by unfold idx; rw [hf]
    have hlt : i < l.length := by
      rw [List.findIdx?_eq_some_iff_getElem] at hf
      exact hf.1
    have hz : l[i]? = some l[i] := List.getElem?_eq_getElem hlt
    by_cases hcz : Sp.check l[i] = 0
    · exact text_right g o c l hl hlc hs r hr w H hS hM i _ hi hz hcz
    · exact text_wrong g o c l hl hlc hs r hr w H hS hM i _ hi hz hcz
/-- A list that Symbols has made lies in a row of its own. -/
theorem owned_row {w : World} {B : Nat} {A : Option Addr} {c : Nat} {l : List Sp.Sym} (hne : l ≠ []) (h : w.ownsRow B 28 3 (.slice A l.length c) l.length (l.flatMap Sp.cells)) :
    ∃ g, A = some ⟨g, 0, none⟩ ∧ Row w g 0 l ∧ B ≤ g ∧ g < w.heap.size ∧ l.length ≤ c := by
  rcases h.2 with ⟨_, h0⟩ | ⟨g, cap, cur, h1, h2, h3, h4, h5, h6, h7⟩
  · exact absurd (List.length_eq_zero_iff.1 h0) hne
  · injection h1 with e1 e2 e3
    refine ⟨g, e1, fun k x hk => ?_, h2, lt_of_blk h3, by omega⟩
    obtain ⟨g', e1', _, q0, q1, q2⟩ := row_cells h k x hk
    have : g' = g := by
      have := e1.symm.trans e1'
      injection this with this
      injection this with this
      exact this.symm
    subst this
    rw [Nat.zero_add, Nat.mul_comm k 3]
    exact ⟨q0, q1, q2⟩
theorem symbols_row (T : List UInt8) (text : ByteArray) (ht : text = ⟨T.toArray⟩) (r : Int) (l : List Sp.Sym) (n : Nat) (hn : l.length = n) (hne : l ≠ []) (h : Sp.symbols T r = .ok l) (w : World) (hS : SignsIn w) :
    Calls Tryz.prog 40 #[.string text, .int .i64 r] w fun e w' => ∃ g c, e = .returned (.tuple #[.slice (some ⟨g, 0, none⟩) n c, .agg #[.int .i64 0, .int .i64 0]]) ∧ Below w.heap.size w w' ∧ Row w' g 0 l ∧ w.heap.size ≤ g ∧ g < w'.heap.size ∧ n ≤ c := by
  subst hn
  refine (symbols_ok T text ht r l _ rfl h w hS).mono ?_
  rintro e w' ⟨A, c, rfl, h1, h2⟩
  obtain ⟨g, rfl, h3, h4, h5, h6⟩ := owned_row hne h2
  exact ⟨g, c, rfl, h1, h3, h4, h5, h6⟩
theorem alike_l (g o c g' o' c' : Nat) (a b : List Sp.Sym) (n : Nat) (hn : b.length = n) (hl : a.length ≤ 1000000) (w : World) (H : Row w g o a) (H' : Row w g' o' b) (hg : g < w.heap.size) (hg' : g' < w.heap.size) :
    Calls Tryz.prog 43 #[.slice (some ⟨g, o, none⟩) a.length c, .slice (some ⟨g', o', none⟩) n c'] w fun e w' => e = .returned (.bool (Sp.alike a b)) ∧ Below w.heap.size w w' := by
  subst hn
  exact alike_c g o c g' o' c' a b hl w H H' hg hg'
theorem Sp.scan_len_le : ∀ (f r : Nat) (l : List UInt8) (pos : Nat) (L : List Sp.Sym), r ≤ 2 → Sp.scan f r l pos = .ok L → L.length ≤ l.length := by
  intro f
  induction f with
  | zero => intro r l pos L _ h; cases h
  | succ f ih =>
    intro r l pos L hr h
    have hl := Sp.bl_tl l
    rcases Sp.scan_ok f r l pos L hr h with ⟨_, rfl⟩ | ⟨h0, ⟨k, t, n, L', hs, h1, h2, h3, rfl⟩ | ⟨n, r', hs, h1, h2, h4, h3⟩⟩
    · simp
    · have := ih r _ _ _ hr h3
      rw [List.length_drop] at this
      rw [List.length_cons]; omega
    · have := ih r' _ _ _ h4 h3
      rw [List.length_drop] at this
      omega
theorem Sp.symbols_len_le {T : List UInt8} {r : Int} {l : List Sp.Sym} (h : Sp.symbols T r = .ok l) : l.length ≤ T.length + 1 := by
  obtain ⟨_, _, _, L, h1, rfl⟩ := Sp.symbols_ok_scan T r l h
  have := Sp.scan_len_le _ _ _ _ _ (by omega) h1
  rw [List.length_append]; simp; omega
def awL : List Sp.Sym := [⟨4, [49, 101, 53], 0⟩, ⟨2, [101], 6⟩, ⟨0, [], 7⟩]
def awM : List Sp.Sym := [⟨1, [73, 70], 12⟩, ⟨2, [109, 121, 116, 97, 103], 16⟩, ⟨0, [], 22⟩]
theorem aw1 : Sp.symbols [49, 32, 101, 32, 53, 32, 101] 0 = .ok awL := by kernel_rfl
theorem aw2 : Sp.symbols [80, 82, 32, 112, 111, 105, 110, 116, 32, 80, 82, 32, 46, 105, 102, 32, 77, 121, 32, 84, 97, 103] 0 = .ok awM := by kernel_rfl
theorem aw3 : Sp.text awM 2 = ([39, 105, 102, 39, 32, 109, 121, 116, 97, 103], 0) := by kernel_rfl
theorem awS : Small awM := by
  intro x hx
  simp only [awM, List.mem_cons, List.not_mem_nil, or_false] at hx
  rcases hx with rfl | rfl | rfl <;> exact ⟨by decide, fun _ => by decide⟩
set_option maxRecDepth 100000 in
set_option maxHeartbeats 8000000 in
theorem awake_c (w : World) (hS : SignsIn w) (hM : MaxIn w) : Calls Tryz.prog 34 #[] w fun e w' => e = .returned (.bool true) ∧ Below w.heap.size w w' := by
  have tok1 : Nat := 0
  go_enter Tryz.func34, Tryz.ntmps34
  go_wp2_with (first
    | (go_at_call 40; have tk := tok1; clear tok1; refine (symbols_row [49, 32, 101, 32, 53, 32, 101] _ rfl 0 awL 3 rfl (by simp [awL]) aw1 _ hS).mono ?_; rintro e w1 ⟨g1, c1, rfl, hb1, H1, hg0, hg1, hc1⟩; have hA1 : Below w1.heap.size w1 (w1.alloc (.cells #[.int .i64 0, .int .i64 0] 35)) := below_alloc0 (Below.refl _ w1) _; have hB1 := bjoin hb1 hb1.size hA1; have L1 := heap_alloc_new w1 (.cells #[.int .i64 0, .int .i64 0] 35); have tok2 : Nat := 0)
    | (go_at_call 40; have tk := tok2; clear tok2; refine (symbols_row [80, 82, 32, 112, 111, 105, 110, 116, 32, 80, 82, 32, 46, 105, 102, 32, 77, 121, 32, 84, 97, 103] _ rfl 0 awM 3 rfl (by simp [awM]) aw2 _ (hS.later hB1)).mono ?_; rintro e w2 ⟨g2, c2, rfl, hb2, H2, hg2, hg3, hc2⟩; have hA2 : Below w2.heap.size w2 (w2.alloc (.cells #[.int .i64 0, .int .i64 0] 35)) := below_alloc0 (Below.refl _ w2) _; have hB2 := bjoin (bjoin hB1 hB1.size hb2) (bjoin hB1 hB1.size hb2).size hA2; have L2 := heap_alloc_new w2 (.cells #[.int .i64 0, .int .i64 0] 35); have tok3 : Nat := 0)
    | (go_at_call 38; have tk := tok3; clear tok3; refine (text_c g2 0 c2 awM (by decide) hc2 awS 2 (by decide) _ (H2.later hA2) (hS.later hB2) (hM.later hB2)).mono ?_; unfold TextPost; rw [show ((2 : Nat) : Int) = 2 from rfl, aw3]; rintro e w3 ⟨rfl, hb3⟩; have hB3 := bjoin hB2 hB2.size hb3; have k1 := bjoin (bjoin (bjoin hA1 hA1.size hb2) (bjoin hA1 hA1.size hb2).size hA2) (bjoin (bjoin hA1 hA1.size hb2) (bjoin hA1 hA1.size hb2).size hA2).size hb3; obtain ⟨p0, p1, p2⟩ := H1.later k1 0 _ rfl; obtain ⟨p3, p4, p5⟩ := H1.later k1 1 _ rfl; have M2 := (hb3.block _ (lt_of_blk L2)).trans L2; have M1 := ((bjoin hb2 hb2.size (bjoin hA2 hA2.size hb3)).block _ (lt_of_blk L1)).trans L1; have d0 := cell_of_blk M1 0; have d1 := cell_of_blk M1 1; have e0 := cell_of_blk M2 0; have e1 := cell_of_blk M2 1))
  all_goals (go_ret; exact ⟨rfl, hB3⟩)
end Go.Proofs.YtjghijeblddijaaGreatDoor
