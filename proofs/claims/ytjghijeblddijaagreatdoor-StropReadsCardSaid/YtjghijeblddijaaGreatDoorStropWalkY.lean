/- Walks: formed. -/
import Derived.Test.YtjghijeblddijaaGreatDoorStropWalkX
import Derived.Test.YtjghijeblddijaaGreatDoorStropPureB
import Derived.Test.YtjghijeblddijaaGreatDoorShelfB
namespace Go.Proofs.YtjghijeblddijaaGreatDoor
open Go.RowKit

/-- The machine's longest text for a quick search lies where it lies. -/
def MaxIn (w : World) : Prop := ∃ m, w.cell? ⟨1, 0, none⟩ = some (.int .i64 m)
theorem MaxIn.later {w w' : World} (h : MaxIn w) (hb : Below w.heap.size w w') : MaxIn w' := by
  obtain ⟨m, h⟩ := h
  exact ⟨m, cell_later hb h⟩
theorem contains_c (s : List UInt8) (hs : s.length ≤ 1000000) (ha : ∀ c ∈ s, c.toNat < 128) (w : World) :
    Calls Tryz.prog 126 #[.string ⟨s.toArray⟩, .string ⟨#[32, 9, 10]⟩] w fun e w' => e = .returned (.bool (s.any Sp.blank)) ∧ Below w.heap.size w w' := by
  refine (Tryz.strings_ContainsAny_laid ⟨s.toArray⟩ ⟨#[32, 9, 10]⟩ w (by rw [size_of]; omega) (by decide) (fun j b hj => ha b (List.mem_of_getElem? hj)) (ascii_of_all (by decide))).mono ?_
  rintro e w' ⟨rfl, h⟩
  exact ⟨by rw [← Sp.containsAny_blank], h⟩
theorem replace_c (s : List UInt8) (hs : s.length ≤ 1000000) (w : World) (hM : MaxIn w) :
    Calls Tryz.prog 127 #[.string ⟨s.toArray⟩, .string ⟨#[34]⟩, .string ⟨#[34, 34]⟩] w fun e w' => e = .returned (.string ⟨(Sp.dq s).toArray⟩) ∧ Below w.heap.size w w' := by
  obtain ⟨m, hm⟩ := hM
  have hc := Lib.countB_le ⟨#[34]⟩ (by decide) s.length ⟨s.toArray⟩ (Nat.le_refl _)
  rw [size_of] at hc
  have h2 : (⟨#[34, 34]⟩ : ByteArray).size = 2 := rfl
  refine (Tryz.strings_ReplaceAll ⟨s.toArray⟩ ⟨#[34]⟩ ⟨#[34, 34]⟩ m w (by rw [size_of]; omega) hm (by decide) (by rw [size_of, h2]; omega)).mono ?_
  rintro e w' ⟨rfl, h⟩
  exact ⟨by rw [← Sp.replaceAll_dq], h⟩
/-- The cells of a row of symbols. -/
theorem row_cells {w : World} {B : Nat} {A : Option Addr} {c : Nat} {l : List Sp.Sym} (h : w.ownsRow B 28 3 (.slice A l.length c) l.length (l.flatMap Sp.cells)) (k : Nat) (x : Sp.Sym) (hk : l[k]? = some x) :
    ∃ g, A = some ⟨g, 0, none⟩ ∧ B ≤ g ∧ w.cell? ⟨g, 3 * k, none⟩ = some (.int .i64 x.kind) ∧ w.cell? ⟨g, 3 * k + 1, none⟩ = some (.string ⟨x.text.toArray⟩) ∧ w.cell? ⟨g, 3 * k + 2, none⟩ = some (.int .i64 x.pos) := by
  have hlt := (List.getElem?_eq_some_iff.1 hk).1
  rcases h.2 with ⟨_, h0⟩ | ⟨g, cap, cur, h1, h2, h3, h4, h5, h6, h7⟩
  · omega
  · injection h1 with e1 e2 e3
    refine ⟨g, e1, h2, ?_⟩
    have key : ∀ (l : List Sp.Sym) (k : Nat) (x : Sp.Sym), l[k]? = some x → (l.flatMap Sp.cells)[3 * k]? = some (.int .i64 x.kind) ∧ (l.flatMap Sp.cells)[3 * k + 1]? = some (.string ⟨x.text.toArray⟩) ∧ (l.flatMap Sp.cells)[3 * k + 2]? = some (.int .i64 x.pos) := by
      intro l
      induction l with
      | nil => intro k x h; simp at h
      | cons y l ih =>
        intro k x h
        cases k with
        | zero =>
          have : y = x := by simpa using h
          subst this
          exact ⟨rfl, rfl, rfl⟩
        | succ k =>
          have h' : l[k]? = some x := by simpa using h
          have hc : (Sp.cells y).length = 3 := rfl
          have := ih k x h'
          refine ⟨?_, ?_, ?_⟩ <;> rw [List.flatMap_cons, List.getElem?_append_right (by rw [hc]; omega), hc]
          · rw [show 3 * (k + 1) - 3 = 3 * k by omega]; exact this.1
          · rw [show 3 * (k + 1) + 1 - 3 = 3 * k + 1 by omega]; exact this.2.1
          · rw [show 3 * (k + 1) + 2 - 3 = 3 * k + 2 by omega]; exact this.2.2
    have hcell : ∀ (j : Nat) (v : Value), (l.flatMap Sp.cells)[j]? = some v → w.cell? ⟨g, j, none⟩ = some v := by
      intro j v hj
      rw [cell_of_blk h3, ← Array.getElem?_toList]
      rw [← h7] at hj
      rw [List.getElem?_take] at hj
      split at hj
      · exact hj
      · cases hj
    obtain ⟨k1, k2, k3⟩ := key l k x hk
    exact ⟨hcell _ _ k1, hcell _ _ k2, hcell _ _ k3⟩

set_option maxRecDepth 100000 in
set_option maxHeartbeats 4000000 in
theorem formed_early (kind : Int) (s : List UInt8) (hs : s.length ≤ 1000000) (ha : ∀ c ∈ s, c.toNat < 128) (h6 : kind ≠ 6) (h7 : kind ≠ 7) (hb : s.any Sp.blank = true) (w : World) :
    Calls Tryz.prog 69 #[.int .i64 kind, .string ⟨s.toArray⟩] w fun e w' => e = .returned (.bool (Sp.formed kind s)) ∧ Below w.heap.size w w' := by
  have hfin : Sp.formed kind s = false := by
    unfold Sp.formed
    rw [if_pos (by rw [hb, bne_iff_ne.2 h6, bne_iff_ne.2 h7]; rfl)]
  rw [hfin]
  have e6 : (kind != 6) = true := bne_iff_ne.2 h6
  have e7 : (kind != 7) = true := bne_iff_ne.2 h7
  have Ha := Lib.hid ha
  have Hb := Lib.hid hb
  clear ha hb hfin h6 h7
  go_enter Tryz.func69, Tryz.ntmps69
  go_wp2_with (go_at_call 126; refine (contains_c s hs Ha.out _).mono ?_; rw [Hb.out]; rintro e w1 ⟨rfl, hb1⟩)
  go_ret
  exact ⟨rfl, hb1⟩
end Go.Proofs.YtjghijeblddijaaGreatDoor
