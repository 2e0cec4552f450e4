/- Walks of chapter 05: isBracket, end. -/
import Derived.Test.YtjghijeblddijaaGreatDoorStropCheck
import Derived.Test.YtjghijeblddijaaGreatDoorBrkTree
import Derived.BigQuiet
set_option linter.unusedVariables false
namespace Go.Proofs.YtjghijeblddijaaGreatDoor
open Go.RowKit
set_option maxRecDepth 100000 in
set_option maxHeartbeats 4000000 in
theorem bIs_c (k : Int) (t : List UInt8) (p : Int) (w : World) :
    Calls Tryz.prog 57 #[.agg #[.int .i64 k, .string ⟨t.toArray⟩, .int .i64 p]] w fun e w' => e = .returned (.bool (Bk.isBracket ⟨k, t, p⟩)) ∧ Below w.heap.size w w' := by
  unfold Bk.isBracket
  dsimp only
  by_cases h1 : k = 1
  · have e1 : (k == 1) = true := beq_iff_eq.2 h1
    have e8 : (k == 8) = false := beq_eq_false_iff_ne.2 (by omega)
    have hfin : (k == 1 && Bk.words.contains t || k == 8 && Bk.signs.contains t) = Bk.words.contains t := by rw [e1, e8]; simp
    rw [hfin]
    clear hfin h1
    go_enter Tryz.func57, Tryz.ntmps57
    go_wp2
    all_goals (go_ret; exact ⟨ret_bool (by simp_all [Bk.words, Bk.BEGIN, Bk.END, Bk.DO, Bk.OD, Bk.IF, Bk.THEN, Bk.ELIF, Bk.ELSE, Bk.FI, Bk.CASE, Bk.IN, Bk.OUSE, Bk.OUT, Bk.ESAC]), below_alloc0 (Below.refl _ _) _⟩)
  · have e1 : (k == 1) = false := beq_eq_false_iff_ne.2 h1
    by_cases h8 : k = 8
    · have e8 : (k == 8) = true := beq_iff_eq.2 h8
      have hfin : (k == 1 && Bk.words.contains t || k == 8 && Bk.signs.contains t) = Bk.signs.contains t := by rw [e1, e8]; simp
      rw [hfin]
      clear hfin h1 h8
      go_enter Tryz.func57, Tryz.ntmps57
      go_wp2
      all_goals (go_ret; exact ⟨ret_bool (by simp_all [Bk.signs]), below_alloc0 (Below.refl _ _) _⟩)
    · have e8 : (k == 8) = false := beq_eq_false_iff_ne.2 h8
      have hfin : (k == 1 && Bk.words.contains t || k == 8 && Bk.signs.contains t) = false := by rw [e1, e8]; simp
      rw [hfin]
      clear hfin h1 h8
      go_enter Tryz.func57, Tryz.ntmps57
      go_wp2
      all_goals (go_ret; exact ⟨rfl, below_alloc0 (Below.refl _ _) _⟩)
theorem end1_tells (w : World) : SymTells w 117 #[] (fun x => x.kind == 0) := by
  refine ⟨enters_of Tryz.func117 (by kernel_rfl) rfl, fun W x hW => ?_⟩
  obtain ⟨k, t, p⟩ := x
  unfold symV
  dsimp only
  go_enter Tryz.func117, Tryz.ntmps117
  go_wp2
  go_ret
  exact ⟨rfl, below_alloc0 (Below.refl _ _) _⟩
set_option maxRecDepth 100000 in
set_option maxHeartbeats 4000000 in
theorem bEnd_c (g o c : Nat) (l : List Sp.Sym) (hl : l.length ≤ 1000000) (hlc : l.length ≤ c) (w : World) (H : Row w g o l) :
    Calls Tryz.prog 56 #[.slice (some ⟨g, o, none⟩) l.length c] w fun e w' => e = .returned (.tuple #[.int .i64 ((Bk.ends l).1 : Int), .int .i64 (Bk.ends l).2]) ∧ Below w.heap.size w w' := by
  have hT := end1_tells w
  cases hf : l.findIdx? (fun x => x.kind == 0) with
  | none =>
    have hE : Bk.ends l = (l.length, 0) := by unfold Bk.ends; rw [hf]
    have hi : idx (fun x => x.kind == 0) l = -1 := by unfold idx; rw [hf]
    rw [hE]
    have Hi := Lib.hid hi
    clear hE hi hf
    go_enter Tryz.func56, Tryz.ntmps56
    go_wp2_with (first | (go_at_call 21; refine (indexFunc_c g o c l hl _ _ _ w H hT).mono ?_; rw [Hi.out]; rintro e w1 ⟨rfl, hb1⟩))
    all_goals (go_ret2; exact ⟨rfl, hb1⟩)
  | some i =>
    obtain ⟨hlt, _, _⟩ := List.findIdx?_eq_some_iff_getElem.1 hf
    have hx : l[i]? = some l[i] := List.getElem?_eq_getElem hlt
    have hE : Bk.ends l = (i, l[i].pos) := by
      unfold Bk.ends
      rw [hf]
      dsimp only
      rw [List.getD_eq_getElem?_getD, hx]; rfl
    have hi : idx (fun x => x.kind == 0) l = (i : Int) := by unfold idx; rw [hf]
    rw [hE]
    generalize l[i] = x at *
    have Hi := Lib.hid hi
    have Hx := Lib.hid hx
    clear hE hi hf hx
    go_enter Tryz.func56, Tryz.ntmps56
    go_wp2_with (first | (go_at_call 21; refine (indexFunc_c g o c l hl _ _ _ w H hT).mono ?_; rw [Hi.out]; rintro e w1 ⟨rfl, hb1⟩))
    all_goals (
      obtain ⟨q0, q1, q2⟩ := H.later hb1 i x Hx.out
      go_quiet (fail)
      go_wp2
      go_ret2
      exact ⟨rfl, bdrewN hb1 _⟩)
end Go.Proofs.YtjghijeblddijaaGreatDoor
