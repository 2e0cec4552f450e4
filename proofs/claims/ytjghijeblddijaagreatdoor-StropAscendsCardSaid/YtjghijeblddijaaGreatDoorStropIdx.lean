/- Walks: IndexFunc over symbols. -/
import Derived.Test.YtjghijeblddijaaGreatDoorStropWrit
namespace Go.Proofs.YtjghijeblddijaaGreatDoor
open Go.RowKit

/-- Symbols lie in a row from cell o of block g on. -/
def Row (w : World) (g o : Nat) (l : List Sp.Sym) : Prop := ∀ (k : Nat) (x : Sp.Sym), l[k]? = some x →
  w.cell? ⟨g, o + k * 3, none⟩ = some (.int .i64 x.kind) ∧ w.cell? ⟨g, o + k * 3 + 1, none⟩ = some (.string ⟨x.text.toArray⟩) ∧ w.cell? ⟨g, o + k * 3 + 2, none⟩ = some (.int .i64 x.pos)
theorem Row.later {w w' : World} {g o : Nat} {l : List Sp.Sym} (h : Row w g o l) (hb : Below w.heap.size w w') : Row w' g o l := fun k x hk =>
  ⟨cell_later hb (h k x hk).1, cell_later hb (h k x hk).2.1, cell_later hb (h k x hk).2.2⟩
theorem Row.take {w : World} {g o : Nat} {l : List Sp.Sym} (h : Row w g o l) (n : Nat) : Row w g o (l.take n) := fun k x hk => by
  rw [List.getElem?_take] at hk
  split at hk
  · exact h k x hk
  · cases hk
/-- A function value that tells symbols apart. -/
structure SymTells (w : World) (f : Nat) (cap : Array Value) (q : Sp.Sym → Bool) : Prop where
  eg : ∀ args w, (callFunc f args).run Tryz.prog w = .ok (.enter f args) w
  gives : ∀ (W : World) (x : Sp.Sym), Below w.heap.size w W → Calls Tryz.prog f (#[symV x] ++ cap) W fun e w' => e = .returned (.bool (q x)) ∧ Below W.heap.size W w'
def idx (q : Sp.Sym → Bool) (l : List Sp.Sym) : Int := match l.findIdx? q with | some i => (i : Int) | none => -1
theorem idx_none (q : Sp.Sym → Bool) (l : List Sp.Sym) (h : ∀ (j : Nat) x, l[j]? = some x → q x = false) : idx q l = -1 := by
  unfold idx
  have : l.findIdx? q = none := by
    rw [List.findIdx?_eq_none_iff]
    intro x hx
    obtain ⟨j, hj⟩ := List.getElem?_of_mem hx
    exact h j x hj
  rw [this]
theorem idx_some (q : Sp.Sym → Bool) (l : List Sp.Sym) (k : Nat) (x : Sp.Sym) (hk : l[k]? = some x) (hx : q x = true) (h : ∀ (j : Nat), j < k → ∀ x, l[j]? = some x → q x = false) : idx q l = (k : Int) := by
  unfold idx
  obtain ⟨hlt, he⟩ := List.getElem?_eq_some_iff.1 hk
  have : l.findIdx? q = some k := by
    rw [List.findIdx?_eq_some_iff_getElem]
    refine ⟨hlt, by rw [he]; exact hx, fun j hj => ?_⟩
    rw [h j hj _ (List.getElem?_eq_getElem (by omega))]; simp
  rw [this]

set_option maxRecDepth 100000 in
set_option maxHeartbeats 8000000 in
theorem indexFunc_c (g o c : Nat) (l : List Sp.Sym) (hl : l.length ≤ 1000000) (f : Nat) (cap : Array Value) (q : Sp.Sym → Bool) (w : World) (H : Row w g o l) (HT : SymTells w f cap q) :
    Calls Tryz.prog 21 #[.slice (some ⟨g, o, none⟩) l.length c, .func (.func f) #[] cap] w fun e w' => e = .returned (.int .i64 (idx q l)) ∧ Below w.heap.size w w' := by
  have eg := HT.eg
  go_enter Tryz.func21, Tryz.ntmps21
  go_wp2
  go_loopw [8] (fun t wr => ∃ k : Nat, k ≤ l.length ∧ t = .int .i64 k ∧ Below w.heap.size w wr ∧ Hid (∀ j : Nat, j < k → ∀ x, l[j]? = some x → q x = false)) (fun t _ => l.length - (intOf t).toNat)
  case atStart => exact ⟨0, by omega, rfl, Below.refl _ _, Lib.hid fun j hj => absurd hj (Nat.not_lt_zero j)⟩
  case round =>
    obtain ⟨k, hk, rfl, hB, hh⟩ := hrel
    by_cases hlt : k < l.length
    · obtain ⟨x, hx⟩ : ∃ x, l[k]? = some x := ⟨l[k], List.getElem?_eq_getElem hlt⟩
      obtain ⟨q0, q1, q2⟩ := H.later hB k x hx
      have Hx := Lib.hid hx
      have hg := HT.gives wr x hB
      clear hx
      cases hq : q x with
      | true =>
        have Hq := Lib.hid hq
        have Hg := Lib.hid hg
        clear hq hg
        go_wp2_with (refine Hg.out.mono ?_; rw [Hq.out]; rintro e w1 ⟨rfl, hb1⟩)
        go_ret
        exact ⟨by rw [idx_some q l k x Hx.out Hq.out hh.out]; rfl, bjoin hB hB.size hb1⟩
      | false =>
        have Hq := Lib.hid hq
        have Hg := Lib.hid hg
        clear hq hg
        go_wp2_with (refine Hg.out.mono ?_; rw [Hq.out]; rintro e w1 ⟨rfl, hb1⟩)
        go_roundw
        case rel =>
          refine ⟨k + 1, by omega, by go_num, bjoin hB hB.size hb1, Lib.hid fun j hj y hy => ?_⟩
          by_cases hjk : j = k
          · subst hjk
            rw [Hx.out] at hy
            injection hy with hy
            rw [← hy]; exact Hq.out
          · exact hh.out j (by omega) y hy
        case measure => simp [intOf]; omega
    · go_wp2
      go_ret
      refine ⟨?_, hB⟩
      rw [idx_none q l fun j x hx => hh.out j (by have := (List.getElem?_eq_some_iff.1 hx).1; omega) x hx]
      rfl
theorem text1_tells (w : World) : SymTells w 71 #[] (fun x => x.kind == 0) := by
  refine ⟨enters_of Tryz.func71 (by kernel_rfl) rfl, fun W x hW => ?_⟩
  obtain ⟨k, t, p⟩ := x
  unfold symV
  dsimp only
  go_enter Tryz.func71, Tryz.ntmps71
  go_wp2
  go_ret
  exact ⟨rfl, below_alloc0 (Below.refl _ _) _⟩
end Go.Proofs.YtjghijeblddijaaGreatDoor
