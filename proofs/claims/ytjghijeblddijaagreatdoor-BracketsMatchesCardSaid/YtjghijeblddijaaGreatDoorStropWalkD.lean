/- Walks: tag. -/
import Derived.Test.YtjghijeblddijaaGreatDoorStropWalkC
import Derived.Deep.RegionHeld3
import Derived.Shelf.Abstract
import Derived.StillTailTactics
namespace Go.Proofs.YtjghijeblddijaaGreatDoor
open Go.RowKit

/-- What a step of the scanner leaves. -/
def StepPost (B : Nat) (w : World) (g : Nat) (s : ByteArray) (i : Nat) (rg : Int) (out : List Sp.Sym) : Sp.Step → Ending → World → Prop
  | .sym k t n, e, w' => e = .returned (.tuple #[]) ∧ (∃ A c, Scn B w' g s ((i + n : Nat) : Int) rg (out ++ [⟨k, t, (i : Int)⟩]) A c) ∧ Below B w w'
  | .skip n r, e, w' => e = .returned (.tuple #[]) ∧ (∃ A c, Scn B w' g s ((i + n : Nat) : Int) (r : Int) out A c) ∧ Below B w w'
  | .fault o c, e, w' => e = .panicked (flt ((i + o : Nat) : Int) c) ∧ Below B w w'

theorem tag1_tells (g q : Nat) (s : ByteArray) (at_ rg : Int) (hr : 0 ≤ rg) (w : World) (H : ScnR w g s at_ rg) (hq : w.cell? ⟨q, 0, none⟩ = some (.pointer (some ⟨g, 0, none⟩))) :
    Tells w 209 #[.pointer (some ⟨q, 0, none⟩)] (fun c => Sp.letter rg.toNat c || Sp.digit c) := by
  refine ⟨enters_of Tryz.func209 (by kernel_rfl) rfl, fun W c hW => ?_⟩
  have H1 := H.later hW
  have hq1 := cell_later hW hq
  go_enter Tryz.func209, Tryz.ntmps209
  go_wp2_with (first | (go_at_call 135; refine (letter_c g s at_ rg hr _ _ H1).mono ?_; rintro e w' ⟨rfl, rfl⟩) | (go_at_call 137; refine (digit_c _ _).mono ?_; rintro e w' ⟨rfl, rfl⟩))
  all_goals (go_ret; exact ⟨ret_bool (by simp [*]), rfl⟩)

theorem run_makeFunc (fn : Fn) (first cap : Array Value) (w : World) : (Instr.makeFunc fn first cap).run Tryz.prog w = .ok (.func fn first cap) w := rfl

set_option maxRecDepth 100000 in
theorem tag_c (B g : Nat) (s : ByteArray) (i : Nat) (rg : Int) (hr : 0 ≤ rg) (out : List Sp.Sym) (A : Option Addr) (c : Nat) (w : World) (H : Scn B w g s i rg out A c) (hi : i ≤ s.size) (hs : s.size ≤ 140737488355328) (hl : out.length ≤ 1000000) :
    Calls Tryz.prog 136 #[.pointer (some ⟨g, 0, none⟩)] w (StepPost B w g s i rg out (Sp.tag rg.toNat ((bs s).drop i))) := by
  have hg := H.lt
  have hB1 : Below w.heap.size w (w.alloc (.cells #[.pointer (some ⟨g, 0, none⟩)] 115)).drew := (below_alloc0 (Below.refl _ w) (.cells #[.pointer (some ⟨g, 0, none⟩)] 115)).drew
  have H1 := H.later hB1
  have hq : (w.alloc (.cells #[.pointer (some ⟨g, 0, none⟩)] 115)).drew.cell? ⟨w.heap.size, 0, none⟩ = some (.pointer (some ⟨g, 0, none⟩)) := by
    have := heap_alloc_new w (.cells #[.pointer (some ⟨g, 0, none⟩)] 115)
    exact (cell_of_blk this 0).trans rfl
  have HT := tag1_tells g w.heap.size s i rg hr _ H1.R hq
  have R1 := H1.R
  have c1 := R1.c1
  have hmf := run_makeFunc
  have hcell : Hid (w.cell? ⟨g, 1, none⟩ = some (.int .i64 i)) := Lib.hid H.R.c1
  go_enter Tryz.func136, Tryz.ntmps136
  go_wp2
  go_region_held3 (fun w' => w'.cell? ⟨w.heap.size, 0, none⟩ = some (.pointer (some ⟨g, 0, none⟩)) ∧ w'.cell? ⟨g, 1, none⟩ = some (.int .i64 i)) (exact ⟨by first | exact hq | exact cell_later (by assumption) hq, by first | exact c1 | exact cell_later (by assumption) c1⟩) ((go_at_call 208; refine (spread_c g s i rg i hi hs _ _ _ _ R1 HT).mono ?_; rintro e w' ⟨rfl, hb1⟩))
  rename_i hheld
  have H2 := H1.later hb1
  have hB2 : Below w.heap.size w w' := bjoin hB1 hB1.size hb1
  obtain ⟨hq2, hc2⟩ := hheld
  have hle := Sp.spread_le (fun c => Sp.letter rg.toNat c || Sp.digit c) ((bs s).drop i)
  rw [List.length_drop, bs_length] at hle
  generalize hx : Sp.spread (fun c => Sp.letter rg.toNat c || Sp.digit c) ((bs s).drop i) = x at hle
  have Hx := Lib.hid hx
  clear hx hmf HT H1 R1 hq c1 hcell
  have hsz : (⟨x.1.toArray⟩ : ByteArray).size ≤ 140737488355328 := by rw [size_of]; omega
  go_wp2
  go_still_tail 6, (by kernel_rfl)
  by_cases hcnt : 40 < Sp.count x.1
  · go_wp2_with (go_at_call 207; refine (limited_bad _ _ _ _ hsz _ (by rw [bs_of]; omega)).mono ?_; rintro e w2 ⟨rfl, hb2⟩)
    have hfin : Sp.tag rg.toNat ((bs s).drop i) = .fault 0 3 := by unfold Sp.tag; simp only [Hx.out]; rw [if_pos hcnt]
    rw [hfin]
    refine ⟨rfl, rfl, ?_⟩
    exact (bjoin hB2.drew (hB2.drew).size hb2).mono (by have := H.base; omega)
  · go_wp2_with (go_at_call 207; refine (limited_ok _ _ _ _ hsz _ (by rw [bs_of]; omega)).mono ?_; rintro e w2 ⟨rfl, hb2⟩)
    have hB3 : Below w.heap.size w w2 := bjoin hB2.drew (hB2.drew).size hb2
    have H3 := H.later hB3
    have hq3 : w2.cell? ⟨w.heap.size, 0, none⟩ = some (.pointer (some ⟨g, 0, none⟩)) := cell_later (w := w'.drew) hb2 hq2
    have hc3 := H3.R.c1
    clear hq2 hc2
    go_wp2
    go_still_tail 7, (by kernel_rfl)
    go_wp2_with (go_at_call 143; refine (add_c B g s i rg out A c 2 _ _ _ _ (H3.later (Below.refl _ _).drew) hl).mono ?_; rintro e w3 ⟨rfl, hs3, hb3⟩)
    have hfin : Sp.tag rg.toNat ((bs s).drop i) = .sym 2 x.1 x.2 := by unfold Sp.tag; simp only [Hx.out]; rw [if_neg hcnt]
    rw [hfin]
    go_end0
    refine ⟨rfl, ?_, (hB3.mono (by have := H.base; omega)).drew.trans hb3⟩
    simpa [bs_of] using hs3
end Go.Proofs.YtjghijeblddijaaGreatDoor
