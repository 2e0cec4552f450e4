/- Walks: StropRegimes, by the regimes and the answer of Symbols. -/
import Derived.Test.YtjghijeblddijaaGreatDoorStropAwake
namespace Go.Proofs.YtjghijeblddijaaGreatDoor
open Go.RowKit

theorem symbols_ne {T : List UInt8} {r : Int} {l : List Sp.Sym} (h : Sp.symbols T r = .ok l) : l ≠ [] := by
  obtain ⟨_, _, _, L, _, rfl⟩ := Sp.symbols_ok_scan T r l h
  simp
theorem cat_text (a b : ByteArray) (L : List UInt8) (s : ByteArray) (h : a ++ b = ⟨L.toArray⟩) : a ++ b ++ s = ⟨(L ++ bs s).toArray⟩ := by
  rw [h, ← bcat, of_bs]
theorem replace_0 (m : Int) (w : World) (hm : w.cell? ⟨1, 0, none⟩ = some (.int .i64 m)) :
    Calls Tryz.prog 44 #[.string ((⟨#[80, 82]⟩ : ByteArray) ++ ⟨#[32]⟩ ++ ⟨#[117, 112, 112, 101, 114]⟩ ++ ⟨#[32]⟩ ++ ⟨#[80, 82]⟩), .string ⟨#[80, 79, 73, 78, 84]⟩, .string ⟨#[80, 111, 105, 110, 116]⟩, .int .i64 1] w fun e w' => e = .returned (.string (⟨#[80, 82, 32, 117, 112, 112, 101, 114, 32, 80, 82]⟩ : ByteArray)) ∧ Below w.heap.size w w' := by
  refine (Tryz.strings_Replace _ _ _ 1 m w (by decide) hm (by decide) (by decide +kernel)).mono ?_
  rintro e w' ⟨rfl, h⟩
  exact ⟨by congr 2, h⟩
theorem replace_1 (m : Int) (w : World) (hm : w.cell? ⟨1, 0, none⟩ = some (.int .i64 m)) :
    Calls Tryz.prog 44 #[.string ((⟨#[80, 82]⟩ : ByteArray) ++ ⟨#[32]⟩ ++ ⟨#[80, 79, 73, 78, 84]⟩ ++ ⟨#[32]⟩ ++ ⟨#[80, 82]⟩), .string ⟨#[80, 79, 73, 78, 84]⟩, .string ⟨#[80, 111, 105, 110, 116]⟩, .int .i64 1] w fun e w' => e = .returned (.string (⟨#[80, 82, 32, 80, 111, 105, 110, 116, 32, 80, 82]⟩ : ByteArray)) ∧ Below w.heap.size w w' := by
  refine (Tryz.strings_Replace _ _ _ 1 m w (by decide) hm (by decide) (by decide +kernel)).mono ?_
  rintro e w' ⟨rfl, h⟩
  exact ⟨by congr 2, h⟩
theorem replace_2 (m : Int) (w : World) (hm : w.cell? ⟨1, 0, none⟩ = some (.int .i64 m)) :
    Calls Tryz.prog 44 #[.string ((⟨#[80, 82]⟩ : ByteArray) ++ ⟨#[32]⟩ ++ ⟨#[32, 113, 117, 111, 116, 101, 10]⟩ ++ ⟨#[32]⟩ ++ ⟨#[80, 82]⟩), .string ⟨#[80, 79, 73, 78, 84]⟩, .string ⟨#[80, 111, 105, 110, 116]⟩, .int .i64 1] w fun e w' => e = .returned (.string (⟨#[80, 82, 32, 32, 113, 117, 111, 116, 101, 10, 32, 80, 82]⟩ : ByteArray)) ∧ Below w.heap.size w w' := by
  refine (Tryz.strings_Replace _ _ _ 1 m w (by decide) hm (by decide) (by decide +kernel)).mono ?_
  rintro e w' ⟨rfl, h⟩
  exact ⟨by congr 2, h⟩
set_option maxRecDepth 100000 in
set_option maxHeartbeats 16000000 in
theorem reg_00_ok (s : ByteArray) (hs : s.size ≤ 300) (l : List Sp.Sym) (hl : Sp.symbols (bs s) 0 = .ok l) (w : World) (hS : SignsIn w) (hM : MaxIn w) :
    Calls Tryz.prog 12 #[.string s, .int .i64 0, .int .i64 0] w fun e w' => e = .returned (.bool true) ∧ Below w.heap.size w w' := by
  have e1 : decide (300 < (s.size : Int)) = false := by simp; omega
  have e2 : decide (300 < s.size) = false := by simp; omega
  have hhead : Sp.symbols (Sp.head 0 0 ++ 32 :: bs s) 0 = Sp.shR ((Sp.head 0 0).length + 1) (Sp.symbols (bs s) 0) := Sp.symbols_head 0 0 (by decide) (by decide) (bs s) (by rw [bs_length]; omega)
  rw [hl] at hhead
  have hne := symbols_ne hl
  have hne2 := symbols_ne hhead
  have hlen : (l.map (Sp.sh ((Sp.head 0 0).length + 1))).length = l.length := List.length_map _
  have hal : Sp.alike l (l.map (Sp.sh ((Sp.head 0 0).length + 1))) = true := Sp.alike_of _ _ (Sp.same_map _ _)
  have hle : l.length ≤ 1000000 := by
    have := Sp.symbols_len_le hl
    rw [bs_length] at this; omega
  have Hne := Lib.hid hne
  have Hne2 := Lib.hid hne2
  have Hal := Lib.hid hal
  have Hlen := Lib.hid hlen
  clear hne hne2 hal hlen
  have hcat : (⟨#[80, 82, 32, 117, 112, 112, 101, 114, 32, 80, 82]⟩ : ByteArray) ++ ⟨#[32]⟩ ++ s = ⟨(Sp.head 0 0 ++ 32 :: bs s).toArray⟩ := by
    rw [cat_text _ _ (Sp.head 0 0 ++ [32]) s (by rfl)]
    simp
  have hsz : 12 + s.size ≤ 9223372036854775807 := by omega
  have Hhead := Lib.hid hhead
  have Hcat := Lib.hid hcat
  have Hl := Lib.hid hl
  clear hl hhead hcat
  have tok1 : Nat := 0
  go_enter Tryz.func12, Tryz.ntmps12
  go_wp2_with (first
    | (go_at_call 34; have tk := tok1; clear tok1; refine (awake_c _ hS hM).mono ?_; rintro e w1 ⟨rfl, hb1⟩; have hS1 := hS.later hb1; have hM1 := hM.later hb1; have tok2 : Nat := 0)
    | (go_at_call 44; have tk := tok2; clear tok2; have hB1 := bjoin (bjoin hb1 hb1.size (below_alloc0 (Below.refl _ w1) (.cells #[.string ⟨#[80, 82]⟩, .string ⟨#[46, 112, 114]⟩, .string ⟨#[39, 80, 114, 39]⟩] 9))) (bjoin hb1 hb1.size (below_alloc0 (Below.refl _ w1) (.cells #[.string ⟨#[80, 82]⟩, .string ⟨#[46, 112, 114]⟩, .string ⟨#[39, 80, 114, 39]⟩] 9))).size (below_alloc0 (Below.refl _ _) (.cells #[.string ⟨#[117, 112, 112, 101, 114]⟩, .string ⟨#[80, 79, 73, 78, 84]⟩, .string ⟨#[32, 113, 117, 111, 116, 101, 10]⟩] 9)); obtain ⟨m, hm⟩ := hM.later hB1; refine (replace_0 m _ hm).mono ?_; rintro e w2 ⟨rfl, hb2⟩; have hB2 := bjoin hB1 hB1.size hb2; have tok3 : Nat := 0)
    | (go_at_call 40; have tk := tok3; clear tok3; refine (symbols_row (bs s) s (of_bs s).symm 0 l _ rfl Hne.out Hl.out _ (hS.later hB2)).mono ?_; rintro e w3 ⟨g3, c3, rfl, hb3, H3, hg3, hk3, hc3⟩; have hB3 := bjoin (bjoin hB2 hB2.size hb3) (bjoin hB2 hB2.size hb3).size (below_alloc0 (Below.refl _ w3) (.cells #[.int .i64 0, .int .i64 0] 35)); have L3 := heap_alloc_new w3 (.cells #[.int .i64 0, .int .i64 0] 35); have tok4 : Nat := 0)
    | (go_at_call 40; have tk := tok4; clear tok4; refine (symbols_row _ _ Hcat.out 0 _ l.length Hlen.out Hne2.out Hhead.out _ (hS.later hB3)).mono ?_; rintro e w4 ⟨g4, c4, rfl, hb4, H4, hg4, hk4, hc4⟩; have hB4 := bjoin (bjoin hB3 hB3.size hb4) (bjoin hB3 hB3.size hb4).size (below_alloc0 (Below.refl _ w4) (.cells #[.int .i64 0, .int .i64 0] 35)); have M3 := (hb4.block _ (lt_of_blk L3)).trans L3; have d0 := cell_of_blk M3 0; have d1 := cell_of_blk M3 1; have hlt3 := lt_of_blk M3; have hne3 := Nat.ne_of_lt hlt3; have tok5 : Nat := 0)
    | (go_at_call 43; have tk := tok5; clear tok5; refine (alike_l g3 0 c3 g4 0 c4 l _ l.length Hlen.out hle _ (H3.later (bjoin (bjoin (below_alloc0 (Below.refl _ w3) (.cells #[.int .i64 0, .int .i64 0] 35)) (below_alloc0 (Below.refl _ w3) (.cells #[.int .i64 0, .int .i64 0] 35)).size hb4) (bjoin (below_alloc0 (Below.refl _ w3) (.cells #[.int .i64 0, .int .i64 0] 35)) (below_alloc0 (Below.refl _ w3) (.cells #[.int .i64 0, .int .i64 0] 35)).size hb4).size (below_alloc0 (Below.refl _ w4) (.cells #[.int .i64 0, .int .i64 0] 35)))) (H4.later (below_alloc0 (Below.refl _ w4) (.cells #[.int .i64 0, .int .i64 0] 35))) (by simp only [World.alloc, Array.size_push]; have := hb4.size; simp only [World.alloc, Array.size_push] at this; omega) (by simp only [World.alloc, Array.size_push]; omega)).mono ?_; rw [Hal.out]; rintro e w5 ⟨rfl, hb5⟩; have hB5 := bjoin hB4 hB4.size hb5))
  all_goals (go_ret; exact ⟨rfl, hB5⟩)
set_option maxRecDepth 100000 in
set_option maxHeartbeats 16000000 in
theorem reg_00_err (s : ByteArray) (hs : s.size ≤ 300) (f : Int × Int) (hl : Sp.symbols (bs s) 0 = .error f) (w : World) (hS : SignsIn w) (hM : MaxIn w) :
    Calls Tryz.prog 12 #[.string s, .int .i64 0, .int .i64 0] w fun e w' => e = .returned (.bool true) ∧ Below w.heap.size w w' := by
  have e1 : decide (300 < (s.size : Int)) = false := by simp; omega
  have e2 : decide (300 < s.size) = false := by simp; omega
  have hhead : Sp.symbols (Sp.head 0 0 ++ 32 :: bs s) 0 = Sp.shR ((Sp.head 0 0).length + 1) (Sp.symbols (bs s) 0) := Sp.symbols_head 0 0 (by decide) (by decide) (bs s) (by rw [bs_length]; omega)
  rw [hl] at hhead
  have hfb := Sp.symbols_fault _ _ _ hl
  rw [bs_length] at hfb
  obtain ⟨hf0, hf1, hf2⟩ := hfb
  have hfc : (f.2 != 0) = true := bne_iff_ne.2 hf2
  have hcat : (⟨#[80, 82, 32, 117, 112, 112, 101, 114, 32, 80, 82]⟩ : ByteArray) ++ ⟨#[32]⟩ ++ s = ⟨(Sp.head 0 0 ++ 32 :: bs s).toArray⟩ := by
    rw [cat_text _ _ (Sp.head 0 0 ++ [32]) s (by rfl)]
    simp
  have hsz : 12 + s.size ≤ 9223372036854775807 := by omega
  have Hhead := Lib.hid hhead
  have Hcat := Lib.hid hcat
  have Hl := Lib.hid hl
  clear hl hhead hcat
  have tok1 : Nat := 0
  go_enter Tryz.func12, Tryz.ntmps12
  go_wp2_with (first
    | (go_at_call 34; have tk := tok1; clear tok1; refine (awake_c _ hS hM).mono ?_; rintro e w1 ⟨rfl, hb1⟩; have hS1 := hS.later hb1; have hM1 := hM.later hb1; have tok2 : Nat := 0)
    | (go_at_call 44; have tk := tok2; clear tok2; have hB1 := bjoin (bjoin hb1 hb1.size (below_alloc0 (Below.refl _ w1) (.cells #[.string ⟨#[80, 82]⟩, .string ⟨#[46, 112, 114]⟩, .string ⟨#[39, 80, 114, 39]⟩] 9))) (bjoin hb1 hb1.size (below_alloc0 (Below.refl _ w1) (.cells #[.string ⟨#[80, 82]⟩, .string ⟨#[46, 112, 114]⟩, .string ⟨#[39, 80, 114, 39]⟩] 9))).size (below_alloc0 (Below.refl _ _) (.cells #[.string ⟨#[117, 112, 112, 101, 114]⟩, .string ⟨#[80, 79, 73, 78, 84]⟩, .string ⟨#[32, 113, 117, 111, 116, 101, 10]⟩] 9)); obtain ⟨m, hm⟩ := hM.later hB1; refine (replace_0 m _ hm).mono ?_; rintro e w2 ⟨rfl, hb2⟩; have hB2 := bjoin hB1 hB1.size hb2; have tok3 : Nat := 0)
    | (go_at_call 40; have tk := tok3; clear tok3; refine (symbols_bad (bs s) s (of_bs s).symm 0 f Hl.out _ (hS.later hB2)).mono ?_; rintro e w3 ⟨rfl, hb3⟩; have hB3 := bjoin (bjoin hB2 hB2.size hb3) (bjoin hB2 hB2.size hb3).size (below_alloc0 (Below.refl _ w3) (.cells #[.int .i64 f.1, .int .i64 f.2] 35)); have L3 := heap_alloc_new w3 (.cells #[.int .i64 f.1, .int .i64 f.2] 35); have tok4 : Nat := 0)
    | (go_at_call 40; have tk := tok4; clear tok4; refine (symbols_bad _ _ Hcat.out 0 (f.1 + 12, f.2) Hhead.out _ (hS.later hB3)).mono ?_; rintro e w4 ⟨rfl, hb4⟩; have hB4 := bjoin (bjoin hB3 hB3.size hb4) (bjoin hB3 hB3.size hb4).size (below_alloc0 (Below.refl _ w4) (.cells #[.int .i64 (f.1 + 12), .int .i64 f.2] 35)); have M3 := (hb4.block _ (lt_of_blk L3)).trans L3; have d0 := cell_of_blk M3 0; have d1 := cell_of_blk M3 1; have hlt3 := lt_of_blk M3; have hne3 := Nat.ne_of_lt hlt3; have tok5 : Nat := 0))
  all_goals (go_ret; exact ⟨ret_bool ⟨fun _ => rfl, fun _ => (by rw [beq_iff_eq]; omega)⟩, hB4⟩)
set_option maxRecDepth 100000 in
set_option maxHeartbeats 16000000 in
theorem reg_01_ok (s : ByteArray) (hs : s.size ≤ 300) (l : List Sp.Sym) (hl : Sp.symbols (bs s) 1 = .ok l) (w : World) (hS : SignsIn w) (hM : MaxIn w) :
    Calls Tryz.prog 12 #[.string s, .int .i64 0, .int .i64 1] w fun e w' => e = .returned (.bool true) ∧ Below w.heap.size w w' := by
  have e1 : decide (300 < (s.size : Int)) = false := by simp; omega
  have e2 : decide (300 < s.size) = false := by simp; omega
  have hhead : Sp.symbols (Sp.head 0 1 ++ 32 :: bs s) 0 = Sp.shR ((Sp.head 0 1).length + 1) (Sp.symbols (bs s) 1) := Sp.symbols_head 0 1 (by decide) (by decide) (bs s) (by rw [bs_length]; omega)
  rw [hl] at hhead
  have hne := symbols_ne hl
  have hne2 := symbols_ne hhead
  have hlen : (l.map (Sp.sh ((Sp.head 0 1).length + 1))).length = l.length := List.length_map _
  have hal : Sp.alike l (l.map (Sp.sh ((Sp.head 0 1).length + 1))) = true := Sp.alike_of _ _ (Sp.same_map _ _)
  have hle : l.length ≤ 1000000 := by
    have := Sp.symbols_len_le hl
    rw [bs_length] at this; omega
  have Hne := Lib.hid hne
  have Hne2 := Lib.hid hne2
  have Hal := Lib.hid hal
  have Hlen := Lib.hid hlen
  clear hne hne2 hal hlen
  have hcat : (⟨#[80, 82, 32, 80, 111, 105, 110, 116, 32, 80, 82]⟩ : ByteArray) ++ ⟨#[32]⟩ ++ s = ⟨(Sp.head 0 1 ++ 32 :: bs s).toArray⟩ := by
    rw [cat_text _ _ (Sp.head 0 1 ++ [32]) s (by rfl)]
    simp
  have hsz : 12 + s.size ≤ 9223372036854775807 := by omega
  have Hhead := Lib.hid hhead
  have Hcat := Lib.hid hcat
  have Hl := Lib.hid hl
  clear hl hhead hcat
  have tok1 : Nat := 0
  go_enter Tryz.func12, Tryz.ntmps12
  go_wp2_with (first
    | (go_at_call 34; have tk := tok1; clear tok1; refine (awake_c _ hS hM).mono ?_; rintro e w1 ⟨rfl, hb1⟩; have hS1 := hS.later hb1; have hM1 := hM.later hb1; have tok2 : Nat := 0)
    | (go_at_call 44; have tk := tok2; clear tok2; have hB1 := bjoin (bjoin hb1 hb1.size (below_alloc0 (Below.refl _ w1) (.cells #[.string ⟨#[80, 82]⟩, .string ⟨#[46, 112, 114]⟩, .string ⟨#[39, 80, 114, 39]⟩] 9))) (bjoin hb1 hb1.size (below_alloc0 (Below.refl _ w1) (.cells #[.string ⟨#[80, 82]⟩, .string ⟨#[46, 112, 114]⟩, .string ⟨#[39, 80, 114, 39]⟩] 9))).size (below_alloc0 (Below.refl _ _) (.cells #[.string ⟨#[117, 112, 112, 101, 114]⟩, .string ⟨#[80, 79, 73, 78, 84]⟩, .string ⟨#[32, 113, 117, 111, 116, 101, 10]⟩] 9)); obtain ⟨m, hm⟩ := hM.later hB1; refine (replace_1 m _ hm).mono ?_; rintro e w2 ⟨rfl, hb2⟩; have hB2 := bjoin hB1 hB1.size hb2; have tok3 : Nat := 0)
    | (go_at_call 40; have tk := tok3; clear tok3; refine (symbols_row (bs s) s (of_bs s).symm 1 l _ rfl Hne.out Hl.out _ (hS.later hB2)).mono ?_; rintro e w3 ⟨g3, c3, rfl, hb3, H3, hg3, hk3, hc3⟩; have hB3 := bjoin (bjoin hB2 hB2.size hb3) (bjoin hB2 hB2.size hb3).size (below_alloc0 (Below.refl _ w3) (.cells #[.int .i64 0, .int .i64 0] 35)); have L3 := heap_alloc_new w3 (.cells #[.int .i64 0, .int .i64 0] 35); have tok4 : Nat := 0)
    | (go_at_call 40; have tk := tok4; clear tok4; refine (symbols_row _ _ Hcat.out 0 _ l.length Hlen.out Hne2.out Hhead.out _ (hS.later hB3)).mono ?_; rintro e w4 ⟨g4, c4, rfl, hb4, H4, hg4, hk4, hc4⟩; have hB4 := bjoin (bjoin hB3 hB3.size hb4) (bjoin hB3 hB3.size hb4).size (below_alloc0 (Below.refl _ w4) (.cells #[.int .i64 0, .int .i64 0] 35)); have M3 := (hb4.block _ (lt_of_blk L3)).trans L3; have d0 := cell_of_blk M3 0; have d1 := cell_of_blk M3 1; have hlt3 := lt_of_blk M3; have hne3 := Nat.ne_of_lt hlt3; have tok5 : Nat := 0)
    | (go_at_call 43; have tk := tok5; clear tok5; refine (alike_l g3 0 c3 g4 0 c4 l _ l.length Hlen.out hle _ (H3.later (bjoin (bjoin (below_alloc0 (Below.refl _ w3) (.cells #[.int .i64 0, .int .i64 0] 35)) (below_alloc0 (Below.refl _ w3) (.cells #[.int .i64 0, .int .i64 0] 35)).size hb4) (bjoin (below_alloc0 (Below.refl _ w3) (.cells #[.int .i64 0, .int .i64 0] 35)) (below_alloc0 (Below.refl _ w3) (.cells #[.int .i64 0, .int .i64 0] 35)).size hb4).size (below_alloc0 (Below.refl _ w4) (.cells #[.int .i64 0, .int .i64 0] 35)))) (H4.later (below_alloc0 (Below.refl _ w4) (.cells #[.int .i64 0, .int .i64 0] 35))) (by simp only [World.alloc, Array.size_push]; have := hb4.size; simp only [World.alloc, Array.size_push] at this; omega) (by simp only [World.alloc, Array.size_push]; omega)).mono ?_; rw [Hal.out]; rintro e w5 ⟨rfl, hb5⟩; have hB5 := bjoin hB4 hB4.size hb5))
  all_goals (go_ret; exact ⟨rfl, hB5⟩)
set_option maxRecDepth 100000 in
set_option maxHeartbeats 16000000 in
theorem reg_01_err (s : ByteArray) (hs : s.size ≤ 300) (f : Int × Int) (hl : Sp.symbols (bs s) 1 = .error f) (w : World) (hS : SignsIn w) (hM : MaxIn w) :
    Calls Tryz.prog 12 #[.string s, .int .i64 0, .int .i64 1] w fun e w' => e = .returned (.bool true) ∧ Below w.heap.size w w' := by
  have e1 : decide (300 < (s.size : Int)) = false := by simp; omega
  have e2 : decide (300 < s.size) = false := by simp; omega
  have hhead : Sp.symbols (Sp.head 0 1 ++ 32 :: bs s) 0 = Sp.shR ((Sp.head 0 1).length + 1) (Sp.symbols (bs s) 1) := Sp.symbols_head 0 1 (by decide) (by decide) (bs s) (by rw [bs_length]; omega)
  rw [hl] at hhead
  have hfb := Sp.symbols_fault _ _ _ hl
  rw [bs_length] at hfb
  obtain ⟨hf0, hf1, hf2⟩ := hfb
  have hfc : (f.2 != 0) = true := bne_iff_ne.2 hf2
  have hcat : (⟨#[80, 82, 32, 80, 111, 105, 110, 116, 32, 80, 82]⟩ : ByteArray) ++ ⟨#[32]⟩ ++ s = ⟨(Sp.head 0 1 ++ 32 :: bs s).toArray⟩ := by
    rw [cat_text _ _ (Sp.head 0 1 ++ [32]) s (by rfl)]
    simp
  have hsz : 12 + s.size ≤ 9223372036854775807 := by omega
  have Hhead := Lib.hid hhead
  have Hcat := Lib.hid hcat
  have Hl := Lib.hid hl
  clear hl hhead hcat
  have tok1 : Nat := 0
  go_enter Tryz.func12, Tryz.ntmps12
  go_wp2_with (first
    | (go_at_call 34; have tk := tok1; clear tok1; refine (awake_c _ hS hM).mono ?_; rintro e w1 ⟨rfl, hb1⟩; have hS1 := hS.later hb1; have hM1 := hM.later hb1; have tok2 : Nat := 0)
    | (go_at_call 44; have tk := tok2; clear tok2; have hB1 := bjoin (bjoin hb1 hb1.size (below_alloc0 (Below.refl _ w1) (.cells #[.string ⟨#[80, 82]⟩, .string ⟨#[46, 112, 114]⟩, .string ⟨#[39, 80, 114, 39]⟩] 9))) (bjoin hb1 hb1.size (below_alloc0 (Below.refl _ w1) (.cells #[.string ⟨#[80, 82]⟩, .string ⟨#[46, 112, 114]⟩, .string ⟨#[39, 80, 114, 39]⟩] 9))).size (below_alloc0 (Below.refl _ _) (.cells #[.string ⟨#[117, 112, 112, 101, 114]⟩, .string ⟨#[80, 79, 73, 78, 84]⟩, .string ⟨#[32, 113, 117, 111, 116, 101, 10]⟩] 9)); obtain ⟨m, hm⟩ := hM.later hB1; refine (replace_1 m _ hm).mono ?_; rintro e w2 ⟨rfl, hb2⟩; have hB2 := bjoin hB1 hB1.size hb2; have tok3 : Nat := 0)
    | (go_at_call 40; have tk := tok3; clear tok3; refine (symbols_bad (bs s) s (of_bs s).symm 1 f Hl.out _ (hS.later hB2)).mono ?_; rintro e w3 ⟨rfl, hb3⟩; have hB3 := bjoin (bjoin hB2 hB2.size hb3) (bjoin hB2 hB2.size hb3).size (below_alloc0 (Below.refl _ w3) (.cells #[.int .i64 f.1, .int .i64 f.2] 35)); have L3 := heap_alloc_new w3 (.cells #[.int .i64 f.1, .int .i64 f.2] 35); have tok4 : Nat := 0)
    | (go_at_call 40; have tk := tok4; clear tok4; refine (symbols_bad _ _ Hcat.out 0 (f.1 + 12, f.2) Hhead.out _ (hS.later hB3)).mono ?_; rintro e w4 ⟨rfl, hb4⟩; have hB4 := bjoin (bjoin hB3 hB3.size hb4) (bjoin hB3 hB3.size hb4).size (below_alloc0 (Below.refl _ w4) (.cells #[.int .i64 (f.1 + 12), .int .i64 f.2] 35)); have M3 := (hb4.block _ (lt_of_blk L3)).trans L3; have d0 := cell_of_blk M3 0; have d1 := cell_of_blk M3 1; have hlt3 := lt_of_blk M3; have hne3 := Nat.ne_of_lt hlt3; have tok5 : Nat := 0))
  all_goals (go_ret; exact ⟨ret_bool ⟨fun _ => rfl, fun _ => (by rw [beq_iff_eq]; omega)⟩, hB4⟩)
set_option maxRecDepth 100000 in
set_option maxHeartbeats 16000000 in
theorem reg_02_ok (s : ByteArray) (hs : s.size ≤ 300) (l : List Sp.Sym) (hl : Sp.symbols (bs s) 2 = .ok l) (w : World) (hS : SignsIn w) (hM : MaxIn w) :
    Calls Tryz.prog 12 #[.string s, .int .i64 0, .int .i64 2] w fun e w' => e = .returned (.bool true) ∧ Below w.heap.size w w' := by
  have e1 : decide (300 < (s.size : Int)) = false := by simp; omega
  have e2 : decide (300 < s.size) = false := by simp; omega
  have hhead : Sp.symbols (Sp.head 0 2 ++ 32 :: bs s) 0 = Sp.shR ((Sp.head 0 2).length + 1) (Sp.symbols (bs s) 2) := Sp.symbols_head 0 2 (by decide) (by decide) (bs s) (by rw [bs_length]; omega)
  rw [hl] at hhead
  have hne := symbols_ne hl
  have hne2 := symbols_ne hhead
  have hlen : (l.map (Sp.sh ((Sp.head 0 2).length + 1))).length = l.length := List.length_map _
  have hal : Sp.alike l (l.map (Sp.sh ((Sp.head 0 2).length + 1))) = true := Sp.alike_of _ _ (Sp.same_map _ _)
  have hle : l.length ≤ 1000000 := by
    have := Sp.symbols_len_le hl
    rw [bs_length] at this; omega
  have Hne := Lib.hid hne
  have Hne2 := Lib.hid hne2
  have Hal := Lib.hid hal
  have Hlen := Lib.hid hlen
  clear hne hne2 hal hlen
  have hcat : (⟨#[80, 82, 32, 32, 113, 117, 111, 116, 101, 10, 32, 80, 82]⟩ : ByteArray) ++ ⟨#[32]⟩ ++ s = ⟨(Sp.head 0 2 ++ 32 :: bs s).toArray⟩ := by
    rw [cat_text _ _ (Sp.head 0 2 ++ [32]) s (by rfl)]
    simp
  have hsz : 14 + s.size ≤ 9223372036854775807 := by omega
  have Hhead := Lib.hid hhead
  have Hcat := Lib.hid hcat
  have Hl := Lib.hid hl
  clear hl hhead hcat
  have tok1 : Nat := 0
  go_enter Tryz.func12, Tryz.ntmps12
  go_wp2_with (first
    | (go_at_call 34; have tk := tok1; clear tok1; refine (awake_c _ hS hM).mono ?_; rintro e w1 ⟨rfl, hb1⟩; have hS1 := hS.later hb1; have hM1 := hM.later hb1; have tok2 : Nat := 0)
    | (go_at_call 44; have tk := tok2; clear tok2; have hB1 := bjoin (bjoin hb1 hb1.size (below_alloc0 (Below.refl _ w1) (.cells #[.string ⟨#[80, 82]⟩, .string ⟨#[46, 112, 114]⟩, .string ⟨#[39, 80, 114, 39]⟩] 9))) (bjoin hb1 hb1.size (below_alloc0 (Below.refl _ w1) (.cells #[.string ⟨#[80, 82]⟩, .string ⟨#[46, 112, 114]⟩, .string ⟨#[39, 80, 114, 39]⟩] 9))).size (below_alloc0 (Below.refl _ _) (.cells #[.string ⟨#[117, 112, 112, 101, 114]⟩, .string ⟨#[80, 79, 73, 78, 84]⟩, .string ⟨#[32, 113, 117, 111, 116, 101, 10]⟩] 9)); obtain ⟨m, hm⟩ := hM.later hB1; refine (replace_2 m _ hm).mono ?_; rintro e w2 ⟨rfl, hb2⟩; have hB2 := bjoin hB1 hB1.size hb2; have tok3 : Nat := 0)
    | (go_at_call 40; have tk := tok3; clear tok3; refine (symbols_row (bs s) s (of_bs s).symm 2 l _ rfl Hne.out Hl.out _ (hS.later hB2)).mono ?_; rintro e w3 ⟨g3, c3, rfl, hb3, H3, hg3, hk3, hc3⟩; have hB3 := bjoin (bjoin hB2 hB2.size hb3) (bjoin hB2 hB2.size hb3).size (below_alloc0 (Below.refl _ w3) (.cells #[.int .i64 0, .int .i64 0] 35)); have L3 := heap_alloc_new w3 (.cells #[.int .i64 0, .int .i64 0] 35); have tok4 : Nat := 0)
    | (go_at_call 40; have tk := tok4; clear tok4; refine (symbols_row _ _ Hcat.out 0 _ l.length Hlen.out Hne2.out Hhead.out _ (hS.later hB3)).mono ?_; rintro e w4 ⟨g4, c4, rfl, hb4, H4, hg4, hk4, hc4⟩; have hB4 := bjoin (bjoin hB3 hB3.size hb4) (bjoin hB3 hB3.size hb4).size (below_alloc0 (Below.refl _ w4) (.cells #[.int .i64 0, .int .i64 0] 35)); have M3 := (hb4.block _ (lt_of_blk L3)).trans L3; have d0 := cell_of_blk M3 0; have d1 := cell_of_blk M3 1; have hlt3 := lt_of_blk M3; have hne3 := Nat.ne_of_lt hlt3; have tok5 : Nat := 0)
    | (go_at_call 43; have tk := tok5; clear tok5; refine (alike_l g3 0 c3 g4 0 c4 l _ l.length Hlen.out hle _ (H3.later (bjoin (bjoin (below_alloc0 (Below.refl _ w3) (.cells #[.int .i64 0, .int .i64 0] 35)) (below_alloc0 (Below.refl _ w3) (.cells #[.int .i64 0, .int .i64 0] 35)).size hb4) (bjoin (below_alloc0 (Below.refl _ w3) (.cells #[.int .i64 0, .int .i64 0] 35)) (below_alloc0 (Below.refl _ w3) (.cells #[.int .i64 0, .int .i64 0] 35)).size hb4).size (below_alloc0 (Below.refl _ w4) (.cells #[.int .i64 0, .int .i64 0] 35)))) (H4.later (below_alloc0 (Below.refl _ w4) (.cells #[.int .i64 0, .int .i64 0] 35))) (by simp only [World.alloc, Array.size_push]; have := hb4.size; simp only [World.alloc, Array.size_push] at this; omega) (by simp only [World.alloc, Array.size_push]; omega)).mono ?_; rw [Hal.out]; rintro e w5 ⟨rfl, hb5⟩; have hB5 := bjoin hB4 hB4.size hb5))
  all_goals (go_ret; exact ⟨rfl, hB5⟩)
set_option maxRecDepth 100000 in
set_option maxHeartbeats 16000000 in
theorem reg_02_err (s : ByteArray) (hs : s.size ≤ 300) (f : Int × Int) (hl : Sp.symbols (bs s) 2 = .error f) (w : World) (hS : SignsIn w) (hM : MaxIn w) :
    Calls Tryz.prog 12 #[.string s, .int .i64 0, .int .i64 2] w fun e w' => e = .returned (.bool true) ∧ Below w.heap.size w w' := by
  have e1 : decide (300 < (s.size : Int)) = false := by simp; omega
  have e2 : decide (300 < s.size) = false := by simp; omega
  have hhead : Sp.symbols (Sp.head 0 2 ++ 32 :: bs s) 0 = Sp.shR ((Sp.head 0 2).length + 1) (Sp.symbols (bs s) 2) := Sp.symbols_head 0 2 (by decide) (by decide) (bs s) (by rw [bs_length]; omega)
  rw [hl] at hhead
  have hfb := Sp.symbols_fault _ _ _ hl
  rw [bs_length] at hfb
  obtain ⟨hf0, hf1, hf2⟩ := hfb
  have hfc : (f.2 != 0) = true := bne_iff_ne.2 hf2
  have hcat : (⟨#[80, 82, 32, 32, 113, 117, 111, 116, 101, 10, 32, 80, 82]⟩ : ByteArray) ++ ⟨#[32]⟩ ++ s = ⟨(Sp.head 0 2 ++ 32 :: bs s).toArray⟩ := by
    rw [cat_text _ _ (Sp.head 0 2 ++ [32]) s (by rfl)]
    simp
  have hsz : 14 + s.size ≤ 9223372036854775807 := by omega
  have Hhead := Lib.hid hhead
  have Hcat := Lib.hid hcat
  have Hl := Lib.hid hl
  clear hl hhead hcat
  have tok1 : Nat := 0
  go_enter Tryz.func12, Tryz.ntmps12
  go_wp2_with (first
    | (go_at_call 34; have tk := tok1; clear tok1; refine (awake_c _ hS hM).mono ?_; rintro e w1 ⟨rfl, hb1⟩; have hS1 := hS.later hb1; have hM1 := hM.later hb1; have tok2 : Nat := 0)
    | (go_at_call 44; have tk := tok2; clear tok2; have hB1 := bjoin (bjoin hb1 hb1.size (below_alloc0 (Below.refl _ w1) (.cells #[.string ⟨#[80, 82]⟩, .string ⟨#[46, 112, 114]⟩, .string ⟨#[39, 80, 114, 39]⟩] 9))) (bjoin hb1 hb1.size (below_alloc0 (Below.refl _ w1) (.cells #[.string ⟨#[80, 82]⟩, .string ⟨#[46, 112, 114]⟩, .string ⟨#[39, 80, 114, 39]⟩] 9))).size (below_alloc0 (Below.refl _ _) (.cells #[.string ⟨#[117, 112, 112, 101, 114]⟩, .string ⟨#[80, 79, 73, 78, 84]⟩, .string ⟨#[32, 113, 117, 111, 116, 101, 10]⟩] 9)); obtain ⟨m, hm⟩ := hM.later hB1; refine (replace_2 m _ hm).mono ?_; rintro e w2 ⟨rfl, hb2⟩; have hB2 := bjoin hB1 hB1.size hb2; have tok3 : Nat := 0)
    | (go_at_call 40; have tk := tok3; clear tok3; refine (symbols_bad (bs s) s (of_bs s).symm 2 f Hl.out _ (hS.later hB2)).mono ?_; rintro e w3 ⟨rfl, hb3⟩; have hB3 := bjoin (bjoin hB2 hB2.size hb3) (bjoin hB2 hB2.size hb3).size (below_alloc0 (Below.refl _ w3) (.cells #[.int .i64 f.1, .int .i64 f.2] 35)); have L3 := heap_alloc_new w3 (.cells #[.int .i64 f.1, .int .i64 f.2] 35); have tok4 : Nat := 0)
    | (go_at_call 40; have tk := tok4; clear tok4; refine (symbols_bad _ _ Hcat.out 0 (f.1 + 14, f.2) Hhead.out _ (hS.later hB3)).mono ?_; rintro e w4 ⟨rfl, hb4⟩; have hB4 := bjoin (bjoin hB3 hB3.size hb4) (bjoin hB3 hB3.size hb4).size (below_alloc0 (Below.refl _ w4) (.cells #[.int .i64 (f.1 + 14), .int .i64 f.2] 35)); have M3 := (hb4.block _ (lt_of_blk L3)).trans L3; have d0 := cell_of_blk M3 0; have d1 := cell_of_blk M3 1; have hlt3 := lt_of_blk M3; have hne3 := Nat.ne_of_lt hlt3; have tok5 : Nat := 0))
  all_goals (go_ret; exact ⟨ret_bool ⟨fun _ => rfl, fun _ => (by rw [beq_iff_eq]; omega)⟩, hB4⟩)
set_option maxRecDepth 100000 in
set_option maxHeartbeats 16000000 in
theorem reg_10_ok (s : ByteArray) (hs : s.size ≤ 300) (l : List Sp.Sym) (hl : Sp.symbols (bs s) 0 = .ok l) (w : World) (hS : SignsIn w) (hM : MaxIn w) :
    Calls Tryz.prog 12 #[.string s, .int .i64 1, .int .i64 0] w fun e w' => e = .returned (.bool true) ∧ Below w.heap.size w w' := by
  have e1 : decide (300 < (s.size : Int)) = false := by simp; omega
  have e2 : decide (300 < s.size) = false := by simp; omega
  have hhead : Sp.symbols (Sp.head 1 0 ++ 32 :: bs s) 1 = Sp.shR ((Sp.head 1 0).length + 1) (Sp.symbols (bs s) 0) := Sp.symbols_head 1 0 (by decide) (by decide) (bs s) (by rw [bs_length]; omega)
  rw [hl] at hhead
  have hne := symbols_ne hl
  have hne2 := symbols_ne hhead
  have hlen : (l.map (Sp.sh ((Sp.head 1 0).length + 1))).length = l.length := List.length_map _
  have hal : Sp.alike l (l.map (Sp.sh ((Sp.head 1 0).length + 1))) = true := Sp.alike_of _ _ (Sp.same_map _ _)
  have hle : l.length ≤ 1000000 := by
    have := Sp.symbols_len_le hl
    rw [bs_length] at this; omega
  have Hne := Lib.hid hne
  have Hne2 := Lib.hid hne2
  have Hal := Lib.hid hal
  have Hlen := Lib.hid hlen
  clear hne hne2 hal hlen
  have hcat : ((⟨#[46, 112, 114]⟩ : ByteArray) ++ ⟨#[32]⟩ ++ ⟨#[117, 112, 112, 101, 114]⟩ ++ ⟨#[32]⟩ ++ ⟨#[46, 112, 114]⟩) ++ ⟨#[32]⟩ ++ s = ⟨(Sp.head 1 0 ++ 32 :: bs s).toArray⟩ := by
    rw [cat_text _ _ (Sp.head 1 0 ++ [32]) s (by rfl)]
    simp
  have hsz : 14 + s.size ≤ 9223372036854775807 := by omega
  have Hhead := Lib.hid hhead
  have Hcat := Lib.hid hcat
  have Hl := Lib.hid hl
  clear hl hhead hcat
  have tok1 : Nat := 0
  go_enter Tryz.func12, Tryz.ntmps12
  go_wp2_with (first
    | (go_at_call 34; have tk := tok1; clear tok1; refine (awake_c _ hS hM).mono ?_; rintro e w1 ⟨rfl, hb1⟩; have hS1 := hS.later hb1; have hM1 := hM.later hb1; have tok2 : Nat := 0)
    | (go_at_call 40; have tk := tok2; clear tok2; have hB1 := bjoin (bjoin hb1 hb1.size (below_alloc0 (Below.refl _ w1) (.cells #[.string ⟨#[80, 82]⟩, .string ⟨#[46, 112, 114]⟩, .string ⟨#[39, 80, 114, 39]⟩] 9))) (bjoin hb1 hb1.size (below_alloc0 (Below.refl _ w1) (.cells #[.string ⟨#[80, 82]⟩, .string ⟨#[46, 112, 114]⟩, .string ⟨#[39, 80, 114, 39]⟩] 9))).size (below_alloc0 (Below.refl _ _) (.cells #[.string ⟨#[117, 112, 112, 101, 114]⟩, .string ⟨#[80, 79, 73, 78, 84]⟩, .string ⟨#[32, 113, 117, 111, 116, 101, 10]⟩] 9)); refine (symbols_row (bs s) s (of_bs s).symm 0 l _ rfl Hne.out Hl.out _ (hS.later hB1)).mono ?_; rintro e w3 ⟨g3, c3, rfl, hb3, H3, hg3, hk3, hc3⟩; have hB3 := bjoin (bjoin hB1 hB1.size hb3) (bjoin hB1 hB1.size hb3).size (below_alloc0 (Below.refl _ w3) (.cells #[.int .i64 0, .int .i64 0] 35)); have L3 := heap_alloc_new w3 (.cells #[.int .i64 0, .int .i64 0] 35); have tok4 : Nat := 0)
    | (go_at_call 40; have tk := tok4; clear tok4; refine (symbols_row _ _ Hcat.out 1 _ l.length Hlen.out Hne2.out Hhead.out _ (hS.later hB3)).mono ?_; rintro e w4 ⟨g4, c4, rfl, hb4, H4, hg4, hk4, hc4⟩; have hB4 := bjoin (bjoin hB3 hB3.size hb4) (bjoin hB3 hB3.size hb4).size (below_alloc0 (Below.refl _ w4) (.cells #[.int .i64 0, .int .i64 0] 35)); have M3 := (hb4.block _ (lt_of_blk L3)).trans L3; have d0 := cell_of_blk M3 0; have d1 := cell_of_blk M3 1; have hlt3 := lt_of_blk M3; have hne3 := Nat.ne_of_lt hlt3; have tok5 : Nat := 0)
    | (go_at_call 43; have tk := tok5; clear tok5; refine (alike_l g3 0 c3 g4 0 c4 l _ l.length Hlen.out hle _ (H3.later (bjoin (bjoin (below_alloc0 (Below.refl _ w3) (.cells #[.int .i64 0, .int .i64 0] 35)) (below_alloc0 (Below.refl _ w3) (.cells #[.int .i64 0, .int .i64 0] 35)).size hb4) (bjoin (below_alloc0 (Below.refl _ w3) (.cells #[.int .i64 0, .int .i64 0] 35)) (below_alloc0 (Below.refl _ w3) (.cells #[.int .i64 0, .int .i64 0] 35)).size hb4).size (below_alloc0 (Below.refl _ w4) (.cells #[.int .i64 0, .int .i64 0] 35)))) (H4.later (below_alloc0 (Below.refl _ w4) (.cells #[.int .i64 0, .int .i64 0] 35))) (by simp only [World.alloc, Array.size_push]; have := hb4.size; simp only [World.alloc, Array.size_push] at this; omega) (by simp only [World.alloc, Array.size_push]; omega)).mono ?_; rw [Hal.out]; rintro e w5 ⟨rfl, hb5⟩; have hB5 := bjoin hB4 hB4.size hb5))
  all_goals (go_ret; exact ⟨rfl, hB5⟩)
set_option maxRecDepth 100000 in
set_option maxHeartbeats 16000000 in
theorem reg_10_err (s : ByteArray) (hs : s.size ≤ 300) (f : Int × Int) (hl : Sp.symbols (bs s) 0 = .error f) (w : World) (hS : SignsIn w) (hM : MaxIn w) :
    Calls Tryz.prog 12 #[.string s, .int .i64 1, .int .i64 0] w fun e w' => e = .returned (.bool true) ∧ Below w.heap.size w w' := by
  have e1 : decide (300 < (s.size : Int)) = false := by simp; omega
  have e2 : decide (300 < s.size) = false := by simp; omega
  have hhead : Sp.symbols (Sp.head 1 0 ++ 32 :: bs s) 1 = Sp.shR ((Sp.head 1 0).length + 1) (Sp.symbols (bs s) 0) := Sp.symbols_head 1 0 (by decide) (by decide) (bs s) (by rw [bs_length]; omega)
  rw [hl] at hhead
  have hfb := Sp.symbols_fault _ _ _ hl
  rw [bs_length] at hfb
  obtain ⟨hf0, hf1, hf2⟩ := hfb
  have hfc : (f.2 != 0) = true := bne_iff_ne.2 hf2
  have hcat : ((⟨#[46, 112, 114]⟩ : ByteArray) ++ ⟨#[32]⟩ ++ ⟨#[117, 112, 112, 101, 114]⟩ ++ ⟨#[32]⟩ ++ ⟨#[46, 112, 114]⟩) ++ ⟨#[32]⟩ ++ s = ⟨(Sp.head 1 0 ++ 32 :: bs s).toArray⟩ := by
    rw [cat_text _ _ (Sp.head 1 0 ++ [32]) s (by rfl)]
    simp
  have hsz : 14 + s.size ≤ 9223372036854775807 := by omega
  have Hhead := Lib.hid hhead
  have Hcat := Lib.hid hcat
  have Hl := Lib.hid hl
  clear hl hhead hcat
  have tok1 : Nat := 0
  go_enter Tryz.func12, Tryz.ntmps12
  go_wp2_with (first
    | (go_at_call 34; have tk := tok1; clear tok1; refine (awake_c _ hS hM).mono ?_; rintro e w1 ⟨rfl, hb1⟩; have hS1 := hS.later hb1; have hM1 := hM.later hb1; have tok2 : Nat := 0)
    | (go_at_call 40; have tk := tok2; clear tok2; have hB1 := bjoin (bjoin hb1 hb1.size (below_alloc0 (Below.refl _ w1) (.cells #[.string ⟨#[80, 82]⟩, .string ⟨#[46, 112, 114]⟩, .string ⟨#[39, 80, 114, 39]⟩] 9))) (bjoin hb1 hb1.size (below_alloc0 (Below.refl _ w1) (.cells #[.string ⟨#[80, 82]⟩, .string ⟨#[46, 112, 114]⟩, .string ⟨#[39, 80, 114, 39]⟩] 9))).size (below_alloc0 (Below.refl _ _) (.cells #[.string ⟨#[117, 112, 112, 101, 114]⟩, .string ⟨#[80, 79, 73, 78, 84]⟩, .string ⟨#[32, 113, 117, 111, 116, 101, 10]⟩] 9)); refine (symbols_bad (bs s) s (of_bs s).symm 0 f Hl.out _ (hS.later hB1)).mono ?_; rintro e w3 ⟨rfl, hb3⟩; have hB3 := bjoin (bjoin hB1 hB1.size hb3) (bjoin hB1 hB1.size hb3).size (below_alloc0 (Below.refl _ w3) (.cells #[.int .i64 f.1, .int .i64 f.2] 35)); have L3 := heap_alloc_new w3 (.cells #[.int .i64 f.1, .int .i64 f.2] 35); have tok4 : Nat := 0)
    | (go_at_call 40; have tk := tok4; clear tok4; refine (symbols_bad _ _ Hcat.out 1 (f.1 + 14, f.2) Hhead.out _ (hS.later hB3)).mono ?_; rintro e w4 ⟨rfl, hb4⟩; have hB4 := bjoin (bjoin hB3 hB3.size hb4) (bjoin hB3 hB3.size hb4).size (below_alloc0 (Below.refl _ w4) (.cells #[.int .i64 (f.1 + 14), .int .i64 f.2] 35)); have M3 := (hb4.block _ (lt_of_blk L3)).trans L3; have d0 := cell_of_blk M3 0; have d1 := cell_of_blk M3 1; have hlt3 := lt_of_blk M3; have hne3 := Nat.ne_of_lt hlt3; have tok5 : Nat := 0))
  all_goals (go_ret; exact ⟨ret_bool ⟨fun _ => rfl, fun _ => (by rw [beq_iff_eq]; omega)⟩, hB4⟩)
set_option maxRecDepth 100000 in
set_option maxHeartbeats 16000000 in
theorem reg_11_ok (s : ByteArray) (hs : s.size ≤ 300) (l : List Sp.Sym) (hl : Sp.symbols (bs s) 1 = .ok l) (w : World) (hS : SignsIn w) (hM : MaxIn w) :
    Calls Tryz.prog 12 #[.string s, .int .i64 1, .int .i64 1] w fun e w' => e = .returned (.bool true) ∧ Below w.heap.size w w' := by
  have e1 : decide (300 < (s.size : Int)) = false := by simp; omega
  have e2 : decide (300 < s.size) = false := by simp; omega
  have hhead : Sp.symbols (Sp.head 1 1 ++ 32 :: bs s) 1 = Sp.shR ((Sp.head 1 1).length + 1) (Sp.symbols (bs s) 1) := Sp.symbols_head 1 1 (by decide) (by decide) (bs s) (by rw [bs_length]; omega)
  rw [hl] at hhead
  have hne := symbols_ne hl
  have hne2 := symbols_ne hhead
  have hlen : (l.map (Sp.sh ((Sp.head 1 1).length + 1))).length = l.length := List.length_map _
  have hal : Sp.alike l (l.map (Sp.sh ((Sp.head 1 1).length + 1))) = true := Sp.alike_of _ _ (Sp.same_map _ _)
  have hle : l.length ≤ 1000000 := by
    have := Sp.symbols_len_le hl
    rw [bs_length] at this; omega
  have Hne := Lib.hid hne
  have Hne2 := Lib.hid hne2
  have Hal := Lib.hid hal
  have Hlen := Lib.hid hlen
  clear hne hne2 hal hlen
  have hcat : ((⟨#[46, 112, 114]⟩ : ByteArray) ++ ⟨#[32]⟩ ++ ⟨#[80, 79, 73, 78, 84]⟩ ++ ⟨#[32]⟩ ++ ⟨#[46, 112, 114]⟩) ++ ⟨#[32]⟩ ++ s = ⟨(Sp.head 1 1 ++ 32 :: bs s).toArray⟩ := by
    rw [cat_text _ _ (Sp.head 1 1 ++ [32]) s (by rfl)]
    simp
  have hsz : 14 + s.size ≤ 9223372036854775807 := by omega
  have Hhead := Lib.hid hhead
  have Hcat := Lib.hid hcat
  have Hl := Lib.hid hl
  clear hl hhead hcat
  have tok1 : Nat := 0
  go_enter Tryz.func12, Tryz.ntmps12
  go_wp2_with (first
    | (go_at_call 34; have tk := tok1; clear tok1; refine (awake_c _ hS hM).mono ?_; rintro e w1 ⟨rfl, hb1⟩; have hS1 := hS.later hb1; have hM1 := hM.later hb1; have tok2 : Nat := 0)
    | (go_at_call 40; have tk := tok2; clear tok2; have hB1 := bjoin (bjoin hb1 hb1.size (below_alloc0 (Below.refl _ w1) (.cells #[.string ⟨#[80, 82]⟩, .string ⟨#[46, 112, 114]⟩, .string ⟨#[39, 80, 114, 39]⟩] 9))) (bjoin hb1 hb1.size (below_alloc0 (Below.refl _ w1) (.cells #[.string ⟨#[80, 82]⟩, .string ⟨#[46, 112, 114]⟩, .string ⟨#[39, 80, 114, 39]⟩] 9))).size (below_alloc0 (Below.refl _ _) (.cells #[.string ⟨#[117, 112, 112, 101, 114]⟩, .string ⟨#[80, 79, 73, 78, 84]⟩, .string ⟨#[32, 113, 117, 111, 116, 101, 10]⟩] 9)); refine (symbols_row (bs s) s (of_bs s).symm 1 l _ rfl Hne.out Hl.out _ (hS.later hB1)).mono ?_; rintro e w3 ⟨g3, c3, rfl, hb3, H3, hg3, hk3, hc3⟩; have hB3 := bjoin (bjoin hB1 hB1.size hb3) (bjoin hB1 hB1.size hb3).size (below_alloc0 (Below.refl _ w3) (.cells #[.int .i64 0, .int .i64 0] 35)); have L3 := heap_alloc_new w3 (.cells #[.int .i64 0, .int .i64 0] 35); have tok4 : Nat := 0)
    | (go_at_call 40; have tk := tok4; clear tok4; refine (symbols_row _ _ Hcat.out 1 _ l.length Hlen.out Hne2.out Hhead.out _ (hS.later hB3)).mono ?_; rintro e w4 ⟨g4, c4, rfl, hb4, H4, hg4, hk4, hc4⟩; have hB4 := bjoin (bjoin hB3 hB3.size hb4) (bjoin hB3 hB3.size hb4).size (below_alloc0 (Below.refl _ w4) (.cells #[.int .i64 0, .int .i64 0] 35)); have M3 := (hb4.block _ (lt_of_blk L3)).trans L3; have d0 := cell_of_blk M3 0; have d1 := cell_of_blk M3 1; have hlt3 := lt_of_blk M3; have hne3 := Nat.ne_of_lt hlt3; have tok5 : Nat := 0)
    | (go_at_call 43; have tk := tok5; clear tok5; refine (alike_l g3 0 c3 g4 0 c4 l _ l.length Hlen.out hle _ (H3.later (bjoin (bjoin (below_alloc0 (Below.refl _ w3) (.cells #[.int .i64 0, .int .i64 0] 35)) (below_alloc0 (Below.refl _ w3) (.cells #[.int .i64 0, .int .i64 0] 35)).size hb4) (bjoin (below_alloc0 (Below.refl _ w3) (.cells #[.int .i64 0, .int .i64 0] 35)) (below_alloc0 (Below.refl _ w3) (.cells #[.int .i64 0, .int .i64 0] 35)).size hb4).size (below_alloc0 (Below.refl _ w4) (.cells #[.int .i64 0, .int .i64 0] 35)))) (H4.later (below_alloc0 (Below.refl _ w4) (.cells #[.int .i64 0, .int .i64 0] 35))) (by simp only [World.alloc, Array.size_push]; have := hb4.size; simp only [World.alloc, Array.size_push] at this; omega) (by simp only [World.alloc, Array.size_push]; omega)).mono ?_; rw [Hal.out]; rintro e w5 ⟨rfl, hb5⟩; have hB5 := bjoin hB4 hB4.size hb5))
  all_goals (go_ret; exact ⟨rfl, hB5⟩)
set_option maxRecDepth 100000 in
set_option maxHeartbeats 16000000 in
theorem reg_11_err (s : ByteArray) (hs : s.size ≤ 300) (f : Int × Int) (hl : Sp.symbols (bs s) 1 = .error f) (w : World) (hS : SignsIn w) (hM : MaxIn w) :
    Calls Tryz.prog 12 #[.string s, .int .i64 1, .int .i64 1] w fun e w' => e = .returned (.bool true) ∧ Below w.heap.size w w' := by
  have e1 : decide (300 < (s.size : Int)) = false := by simp; omega
  have e2 : decide (300 < s.size) = false := by simp; omega
  have hhead : Sp.symbols (Sp.head 1 1 ++ 32 :: bs s) 1 = Sp.shR ((Sp.head 1 1).length + 1) (Sp.symbols (bs s) 1) := Sp.symbols_head 1 1 (by decide) (by decide) (bs s) (by rw [bs_length]; omega)
  rw [hl] at hhead
  have hfb := Sp.symbols_fault _ _ _ hl
  rw [bs_length] at hfb
  obtain ⟨hf0, hf1, hf2⟩ := hfb
  have hfc : (f.2 != 0) = true := bne_iff_ne.2 hf2
  have hcat : ((⟨#[46, 112, 114]⟩ : ByteArray) ++ ⟨#[32]⟩ ++ ⟨#[80, 79, 73, 78, 84]⟩ ++ ⟨#[32]⟩ ++ ⟨#[46, 112, 114]⟩) ++ ⟨#[32]⟩ ++ s = ⟨(Sp.head 1 1 ++ 32 :: bs s).toArray⟩ := by
    rw [cat_text _ _ (Sp.head 1 1 ++ [32]) s (by rfl)]
    simp
  have hsz : 14 + s.size ≤ 9223372036854775807 := by omega
  have Hhead := Lib.hid hhead
  have Hcat := Lib.hid hcat
  have Hl := Lib.hid hl
  clear hl hhead hcat
  have tok1 : Nat := 0
  go_enter Tryz.func12, Tryz.ntmps12
  go_wp2_with (first
    | (go_at_call 34; have tk := tok1; clear tok1; refine (awake_c _ hS hM).mono ?_; rintro e w1 ⟨rfl, hb1⟩; have hS1 := hS.later hb1; have hM1 := hM.later hb1; have tok2 : Nat := 0)
    | (go_at_call 40; have tk := tok2; clear tok2; have hB1 := bjoin (bjoin hb1 hb1.size (below_alloc0 (Below.refl _ w1) (.cells #[.string ⟨#[80, 82]⟩, .string ⟨#[46, 112, 114]⟩, .string ⟨#[39, 80, 114, 39]⟩] 9))) (bjoin hb1 hb1.size (below_alloc0 (Below.refl _ w1) (.cells #[.string ⟨#[80, 82]⟩, .string ⟨#[46, 112, 114]⟩, .string ⟨#[39, 80, 114, 39]⟩] 9))).size (below_alloc0 (Below.refl _ _) (.cells #[.string ⟨#[117, 112, 112, 101, 114]⟩, .string ⟨#[80, 79, 73, 78, 84]⟩, .string ⟨#[32, 113, 117, 111, 116, 101, 10]⟩] 9)); refine (symbols_bad (bs s) s (of_bs s).symm 1 f Hl.out _ (hS.later hB1)).mono ?_; rintro e w3 ⟨rfl, hb3⟩; have hB3 := bjoin (bjoin hB1 hB1.size hb3) (bjoin hB1 hB1.size hb3).size (below_alloc0 (Below.refl _ w3) (.cells #[.int .i64 f.1, .int .i64 f.2] 35)); have L3 := heap_alloc_new w3 (.cells #[.int .i64 f.1, .int .i64 f.2] 35); have tok4 : Nat := 0)
    | (go_at_call 40; have tk := tok4; clear tok4; refine (symbols_bad _ _ Hcat.out 1 (f.1 + 14, f.2) Hhead.out _ (hS.later hB3)).mono ?_; rintro e w4 ⟨rfl, hb4⟩; have hB4 := bjoin (bjoin hB3 hB3.size hb4) (bjoin hB3 hB3.size hb4).size (below_alloc0 (Below.refl _ w4) (.cells #[.int .i64 (f.1 + 14), .int .i64 f.2] 35)); have M3 := (hb4.block _ (lt_of_blk L3)).trans L3; have d0 := cell_of_blk M3 0; have d1 := cell_of_blk M3 1; have hlt3 := lt_of_blk M3; have hne3 := Nat.ne_of_lt hlt3; have tok5 : Nat := 0))
  all_goals (go_ret; exact ⟨ret_bool ⟨fun _ => rfl, fun _ => (by rw [beq_iff_eq]; omega)⟩, hB4⟩)
set_option maxRecDepth 100000 in
set_option maxHeartbeats 16000000 in
theorem reg_12_ok (s : ByteArray) (hs : s.size ≤ 300) (l : List Sp.Sym) (hl : Sp.symbols (bs s) 2 = .ok l) (w : World) (hS : SignsIn w) (hM : MaxIn w) :
    Calls Tryz.prog 12 #[.string s, .int .i64 1, .int .i64 2] w fun e w' => e = .returned (.bool true) ∧ Below w.heap.size w w' := by
  have e1 : decide (300 < (s.size : Int)) = false := by simp; omega
  have e2 : decide (300 < s.size) = false := by simp; omega
  have hhead : Sp.symbols (Sp.head 1 2 ++ 32 :: bs s) 1 = Sp.shR ((Sp.head 1 2).length + 1) (Sp.symbols (bs s) 2) := Sp.symbols_head 1 2 (by decide) (by decide) (bs s) (by rw [bs_length]; omega)
  rw [hl] at hhead
  have hne := symbols_ne hl
  have hne2 := symbols_ne hhead
  have hlen : (l.map (Sp.sh ((Sp.head 1 2).length + 1))).length = l.length := List.length_map _
  have hal : Sp.alike l (l.map (Sp.sh ((Sp.head 1 2).length + 1))) = true := Sp.alike_of _ _ (Sp.same_map _ _)
  have hle : l.length ≤ 1000000 := by
    have := Sp.symbols_len_le hl
    rw [bs_length] at this; omega
  have Hne := Lib.hid hne
  have Hne2 := Lib.hid hne2
  have Hal := Lib.hid hal
  have Hlen := Lib.hid hlen
  clear hne hne2 hal hlen
  have hcat : ((⟨#[46, 112, 114]⟩ : ByteArray) ++ ⟨#[32]⟩ ++ ⟨#[32, 113, 117, 111, 116, 101, 10]⟩ ++ ⟨#[32]⟩ ++ ⟨#[46, 112, 114]⟩) ++ ⟨#[32]⟩ ++ s = ⟨(Sp.head 1 2 ++ 32 :: bs s).toArray⟩ := by
    rw [cat_text _ _ (Sp.head 1 2 ++ [32]) s (by rfl)]
    simp
  have hsz : 16 + s.size ≤ 9223372036854775807 := by omega
  have Hhead := Lib.hid hhead
  have Hcat := Lib.hid hcat
  have Hl := Lib.hid hl
  clear hl hhead hcat
  have tok1 : Nat := 0
  go_enter Tryz.func12, Tryz.ntmps12
  go_wp2_with (first
    | (go_at_call 34; have tk := tok1; clear tok1; refine (awake_c _ hS hM).mono ?_; rintro e w1 ⟨rfl, hb1⟩; have hS1 := hS.later hb1; have hM1 := hM.later hb1; have tok2 : Nat := 0)
    | (go_at_call 40; have tk := tok2; clear tok2; have hB1 := bjoin (bjoin hb1 hb1.size (below_alloc0 (Below.refl _ w1) (.cells #[.string ⟨#[80, 82]⟩, .string ⟨#[46, 112, 114]⟩, .string ⟨#[39, 80, 114, 39]⟩] 9))) (bjoin hb1 hb1.size (below_alloc0 (Below.refl _ w1) (.cells #[.string ⟨#[80, 82]⟩, .string ⟨#[46, 112, 114]⟩, .string ⟨#[39, 80, 114, 39]⟩] 9))).size (below_alloc0 (Below.refl _ _) (.cells #[.string ⟨#[117, 112, 112, 101, 114]⟩, .string ⟨#[80, 79, 73, 78, 84]⟩, .string ⟨#[32, 113, 117, 111, 116, 101, 10]⟩] 9)); refine (symbols_row (bs s) s (of_bs s).symm 2 l _ rfl Hne.out Hl.out _ (hS.later hB1)).mono ?_; rintro e w3 ⟨g3, c3, rfl, hb3, H3, hg3, hk3, hc3⟩; have hB3 := bjoin (bjoin hB1 hB1.size hb3) (bjoin hB1 hB1.size hb3).size (below_alloc0 (Below.refl _ w3) (.cells #[.int .i64 0, .int .i64 0] 35)); have L3 := heap_alloc_new w3 (.cells #[.int .i64 0, .int .i64 0] 35); have tok4 : Nat := 0)
    | (go_at_call 40; have tk := tok4; clear tok4; refine (symbols_row _ _ Hcat.out 1 _ l.length Hlen.out Hne2.out Hhead.out _ (hS.later hB3)).mono ?_; rintro e w4 ⟨g4, c4, rfl, hb4, H4, hg4, hk4, hc4⟩; have hB4 := bjoin (bjoin hB3 hB3.size hb4) (bjoin hB3 hB3.size hb4).size (below_alloc0 (Below.refl _ w4) (.cells #[.int .i64 0, .int .i64 0] 35)); have M3 := (hb4.block _ (lt_of_blk L3)).trans L3; have d0 := cell_of_blk M3 0; have d1 := cell_of_blk M3 1; have hlt3 := lt_of_blk M3; have hne3 := Nat.ne_of_lt hlt3; have tok5 : Nat := 0)
    | (go_at_call 43; have tk := tok5; clear tok5; refine (alike_l g3 0 c3 g4 0 c4 l _ l.length Hlen.out hle _ (H3.later (bjoin (bjoin (below_alloc0 (Below.refl _ w3) (.cells #[.int .i64 0, .int .i64 0] 35)) (below_alloc0 (Below.refl _ w3) (.cells #[.int .i64 0, .int .i64 0] 35)).size hb4) (bjoin (below_alloc0 (Below.refl _ w3) (.cells #[.int .i64 0, .int .i64 0] 35)) (below_alloc0 (Below.refl _ w3) (.cells #[.int .i64 0, .int .i64 0] 35)).size hb4).size (below_alloc0 (Below.refl _ w4) (.cells #[.int .i64 0, .int .i64 0] 35)))) (H4.later (below_alloc0 (Below.refl _ w4) (.cells #[.int .i64 0, .int .i64 0] 35))) (by simp only [World.alloc, Array.size_push]; have := hb4.size; simp only [World.alloc, Array.size_push] at this; omega) (by simp only [World.alloc, Array.size_push]; omega)).mono ?_; rw [Hal.out]; rintro e w5 ⟨rfl, hb5⟩; have hB5 := bjoin hB4 hB4.size hb5))
  all_goals (go_ret; exact ⟨rfl, hB5⟩)
set_option maxRecDepth 100000 in
set_option maxHeartbeats 16000000 in
theorem reg_12_err (s : ByteArray) (hs : s.size ≤ 300) (f : Int × Int) (hl : Sp.symbols (bs s) 2 = .error f) (w : World) (hS : SignsIn w) (hM : MaxIn w) :
    Calls Tryz.prog 12 #[.string s, .int .i64 1, .int .i64 2] w fun e w' => e = .returned (.bool true) ∧ Below w.heap.size w w' := by
  have e1 : decide (300 < (s.size : Int)) = false := by simp; omega
  have e2 : decide (300 < s.size) = false := by simp; omega
  have hhead : Sp.symbols (Sp.head 1 2 ++ 32 :: bs s) 1 = Sp.shR ((Sp.head 1 2).length + 1) (Sp.symbols (bs s) 2) := Sp.symbols_head 1 2 (by decide) (by decide) (bs s) (by rw [bs_length]; omega)
  rw [hl] at hhead
  have hfb := Sp.symbols_fault _ _ _ hl
  rw [bs_length] at hfb
  obtain ⟨hf0, hf1, hf2⟩ := hfb
  have hfc : (f.2 != 0) = true := bne_iff_ne.2 hf2
  have hcat : ((⟨#[46, 112, 114]⟩ : ByteArray) ++ ⟨#[32]⟩ ++ ⟨#[32, 113, 117, 111, 116, 101, 10]⟩ ++ ⟨#[32]⟩ ++ ⟨#[46, 112, 114]⟩) ++ ⟨#[32]⟩ ++ s = ⟨(Sp.head 1 2 ++ 32 :: bs s).toArray⟩ := by
    rw [cat_text _ _ (Sp.head 1 2 ++ [32]) s (by rfl)]
    simp
  have hsz : 16 + s.size ≤ 9223372036854775807 := by omega
  have Hhead := Lib.hid hhead
  have Hcat := Lib.hid hcat
  have Hl := Lib.hid hl
  clear hl hhead hcat
  have tok1 : Nat := 0
  go_enter Tryz.func12, Tryz.ntmps12
  go_wp2_with (first
    | (go_at_call 34; have tk := tok1; clear tok1; refine (awake_c _ hS hM).mono ?_; rintro e w1 ⟨rfl, hb1⟩; have hS1 := hS.later hb1; have hM1 := hM.later hb1; have tok2 : Nat := 0)
    | (go_at_call 40; have tk := tok2; clear tok2; have hB1 := bjoin (bjoin hb1 hb1.size (below_alloc0 (Below.refl _ w1) (.cells #[.string ⟨#[80, 82]⟩, .string ⟨#[46, 112, 114]⟩, .string ⟨#[39, 80, 114, 39]⟩] 9))) (bjoin hb1 hb1.size (below_alloc0 (Below.refl _ w1) (.cells #[.string ⟨#[80, 82]⟩, .string ⟨#[46, 112, 114]⟩, .string ⟨#[39, 80, 114, 39]⟩] 9))).size (below_alloc0 (Below.refl _ _) (.cells #[.string ⟨#[117, 112, 112, 101, 114]⟩, .string ⟨#[80, 79, 73, 78, 84]⟩, .string ⟨#[32, 113, 117, 111, 116, 101, 10]⟩] 9)); refine (symbols_bad (bs s) s (of_bs s).symm 2 f Hl.out _ (hS.later hB1)).mono ?_; rintro e w3 ⟨rfl, hb3⟩; have hB3 := bjoin (bjoin hB1 hB1.size hb3) (bjoin hB1 hB1.size hb3).size (below_alloc0 (Below.refl _ w3) (.cells #[.int .i64 f.1, .int .i64 f.2] 35)); have L3 := heap_alloc_new w3 (.cells #[.int .i64 f.1, .int .i64 f.2] 35); have tok4 : Nat := 0)
    | (go_at_call 40; have tk := tok4; clear tok4; refine (symbols_bad _ _ Hcat.out 1 (f.1 + 16, f.2) Hhead.out _ (hS.later hB3)).mono ?_; rintro e w4 ⟨rfl, hb4⟩; have hB4 := bjoin (bjoin hB3 hB3.size hb4) (bjoin hB3 hB3.size hb4).size (below_alloc0 (Below.refl _ w4) (.cells #[.int .i64 (f.1 + 16), .int .i64 f.2] 35)); have M3 := (hb4.block _ (lt_of_blk L3)).trans L3; have d0 := cell_of_blk M3 0; have d1 := cell_of_blk M3 1; have hlt3 := lt_of_blk M3; have hne3 := Nat.ne_of_lt hlt3; have tok5 : Nat := 0))
  all_goals (go_ret; exact ⟨ret_bool ⟨fun _ => rfl, fun _ => (by rw [beq_iff_eq]; omega)⟩, hB4⟩)
set_option maxRecDepth 100000 in
set_option maxHeartbeats 16000000 in
theorem reg_20_ok (s : ByteArray) (hs : s.size ≤ 300) (l : List Sp.Sym) (hl : Sp.symbols (bs s) 0 = .ok l) (w : World) (hS : SignsIn w) (hM : MaxIn w) :
    Calls Tryz.prog 12 #[.string s, .int .i64 2, .int .i64 0] w fun e w' => e = .returned (.bool true) ∧ Below w.heap.size w w' := by
  have e1 : decide (300 < (s.size : Int)) = false := by simp; omega
  have e2 : decide (300 < s.size) = false := by simp; omega
  have hhead : Sp.symbols (Sp.head 2 0 ++ 32 :: bs s) 2 = Sp.shR ((Sp.head 2 0).length + 1) (Sp.symbols (bs s) 0) := Sp.symbols_head 2 0 (by decide) (by decide) (bs s) (by rw [bs_length]; omega)
  rw [hl] at hhead
  have hne := symbols_ne hl
  have hne2 := symbols_ne hhead
  have hlen : (l.map (Sp.sh ((Sp.head 2 0).length + 1))).length = l.length := List.length_map _
  have hal : Sp.alike l (l.map (Sp.sh ((Sp.head 2 0).length + 1))) = true := Sp.alike_of _ _ (Sp.same_map _ _)
  have hle : l.length ≤ 1000000 := by
    have := Sp.symbols_len_le hl
    rw [bs_length] at this; omega
  have Hne := Lib.hid hne
  have Hne2 := Lib.hid hne2
  have Hal := Lib.hid hal
  have Hlen := Lib.hid hlen
  clear hne hne2 hal hlen
  have hcat : ((⟨#[39, 80, 114, 39]⟩ : ByteArray) ++ ⟨#[32]⟩ ++ ⟨#[117, 112, 112, 101, 114]⟩ ++ ⟨#[32]⟩ ++ ⟨#[39, 80, 114, 39]⟩) ++ ⟨#[32]⟩ ++ s = ⟨(Sp.head 2 0 ++ 32 :: bs s).toArray⟩ := by
    rw [cat_text _ _ (Sp.head 2 0 ++ [32]) s (by rfl)]
    simp
  have hsz : 16 + s.size ≤ 9223372036854775807 := by omega
  have Hhead := Lib.hid hhead
  have Hcat := Lib.hid hcat
  have Hl := Lib.hid hl
  clear hl hhead hcat
  have tok1 : Nat := 0
  go_enter Tryz.func12, Tryz.ntmps12
  go_wp2_with (first
    | (go_at_call 34; have tk := tok1; clear tok1; refine (awake_c _ hS hM).mono ?_; rintro e w1 ⟨rfl, hb1⟩; have hS1 := hS.later hb1; have hM1 := hM.later hb1; have tok2 : Nat := 0)
    | (go_at_call 40; have tk := tok2; clear tok2; have hB1 := bjoin (bjoin hb1 hb1.size (below_alloc0 (Below.refl _ w1) (.cells #[.string ⟨#[80, 82]⟩, .string ⟨#[46, 112, 114]⟩, .string ⟨#[39, 80, 114, 39]⟩] 9))) (bjoin hb1 hb1.size (below_alloc0 (Below.refl _ w1) (.cells #[.string ⟨#[80, 82]⟩, .string ⟨#[46, 112, 114]⟩, .string ⟨#[39, 80, 114, 39]⟩] 9))).size (below_alloc0 (Below.refl _ _) (.cells #[.string ⟨#[117, 112, 112, 101, 114]⟩, .string ⟨#[80, 79, 73, 78, 84]⟩, .string ⟨#[32, 113, 117, 111, 116, 101, 10]⟩] 9)); refine (symbols_row (bs s) s (of_bs s).symm 0 l _ rfl Hne.out Hl.out _ (hS.later hB1)).mono ?_; rintro e w3 ⟨g3, c3, rfl, hb3, H3, hg3, hk3, hc3⟩; have hB3 := bjoin (bjoin hB1 hB1.size hb3) (bjoin hB1 hB1.size hb3).size (below_alloc0 (Below.refl _ w3) (.cells #[.int .i64 0, .int .i64 0] 35)); have L3 := heap_alloc_new w3 (.cells #[.int .i64 0, .int .i64 0] 35); have tok4 : Nat := 0)
    | (go_at_call 40; have tk := tok4; clear tok4; refine (symbols_row _ _ Hcat.out 2 _ l.length Hlen.out Hne2.out Hhead.out _ (hS.later hB3)).mono ?_; rintro e w4 ⟨g4, c4, rfl, hb4, H4, hg4, hk4, hc4⟩; have hB4 := bjoin (bjoin hB3 hB3.size hb4) (bjoin hB3 hB3.size hb4).size (below_alloc0 (Below.refl _ w4) (.cells #[.int .i64 0, .int .i64 0] 35)); have M3 := (hb4.block _ (lt_of_blk L3)).trans L3; have d0 := cell_of_blk M3 0; have d1 := cell_of_blk M3 1; have hlt3 := lt_of_blk M3; have hne3 := Nat.ne_of_lt hlt3; have tok5 : Nat := 0)
    | (go_at_call 43; have tk := tok5; clear tok5; refine (alike_l g3 0 c3 g4 0 c4 l _ l.length Hlen.out hle _ (H3.later (bjoin (bjoin (below_alloc0 (Below.refl _ w3) (.cells #[.int .i64 0, .int .i64 0] 35)) (below_alloc0 (Below.refl _ w3) (.cells #[.int .i64 0, .int .i64 0] 35)).size hb4) (bjoin (below_alloc0 (Below.refl _ w3) (.cells #[.int .i64 0, .int .i64 0] 35)) (below_alloc0 (Below.refl _ w3) (.cells #[.int .i64 0, .int .i64 0] 35)).size hb4).size (below_alloc0 (Below.refl _ w4) (.cells #[.int .i64 0, .int .i64 0] 35)))) (H4.later (below_alloc0 (Below.refl _ w4) (.cells #[.int .i64 0, .int .i64 0] 35))) (by simp only [World.alloc, Array.size_push]; have := hb4.size; simp only [World.alloc, Array.size_push] at this; omega) (by simp only [World.alloc, Array.size_push]; omega)).mono ?_; rw [Hal.out]; rintro e w5 ⟨rfl, hb5⟩; have hB5 := bjoin hB4 hB4.size hb5))
  all_goals (go_ret; exact ⟨rfl, hB5⟩)
set_option maxRecDepth 100000 in
set_option maxHeartbeats 16000000 in
theorem reg_20_err (s : ByteArray) (hs : s.size ≤ 300) (f : Int × Int) (hl : Sp.symbols (bs s) 0 = .error f) (w : World) (hS : SignsIn w) (hM : MaxIn w) :
    Calls Tryz.prog 12 #[.string s, .int .i64 2, .int .i64 0] w fun e w' => e = .returned (.bool true) ∧ Below w.heap.size w w' := by
  have e1 : decide (300 < (s.size : Int)) = false := by simp; omega
  have e2 : decide (300 < s.size) = false := by simp; omega
  have hhead : Sp.symbols (Sp.head 2 0 ++ 32 :: bs s) 2 = Sp.shR ((Sp.head 2 0).length + 1) (Sp.symbols (bs s) 0) := Sp.symbols_head 2 0 (by decide) (by decide) (bs s) (by rw [bs_length]; omega)
  rw [hl] at hhead
  have hfb := Sp.symbols_fault _ _ _ hl
  rw [bs_length] at hfb
  obtain ⟨hf0, hf1, hf2⟩ := hfb
  have hfc : (f.2 != 0) = true := bne_iff_ne.2 hf2
  have hcat : ((⟨#[39, 80, 114, 39]⟩ : ByteArray) ++ ⟨#[32]⟩ ++ ⟨#[117, 112, 112, 101, 114]⟩ ++ ⟨#[32]⟩ ++ ⟨#[39, 80, 114, 39]⟩) ++ ⟨#[32]⟩ ++ s = ⟨(Sp.head 2 0 ++ 32 :: bs s).toArray⟩ := by
    rw [cat_text _ _ (Sp.head 2 0 ++ [32]) s (by rfl)]
    simp
  have hsz : 16 + s.size ≤ 9223372036854775807 := by omega
  have Hhead := Lib.hid hhead
  have Hcat := Lib.hid hcat
  have Hl := Lib.hid hl
  clear hl hhead hcat
  have tok1 : Nat := 0
  go_enter Tryz.func12, Tryz.ntmps12
  go_wp2_with (first
    | (go_at_call 34; have tk := tok1; clear tok1; refine (awake_c _ hS hM).mono ?_; rintro e w1 ⟨rfl, hb1⟩; have hS1 := hS.later hb1; have hM1 := hM.later hb1; have tok2 : Nat := 0)
    | (go_at_call 40; have tk := tok2; clear tok2; have hB1 := bjoin (bjoin hb1 hb1.size (below_alloc0 (Below.refl _ w1) (.cells #[.string ⟨#[80, 82]⟩, .string ⟨#[46, 112, 114]⟩, .string ⟨#[39, 80, 114, 39]⟩] 9))) (bjoin hb1 hb1.size (below_alloc0 (Below.refl _ w1) (.cells #[.string ⟨#[80, 82]⟩, .string ⟨#[46, 112, 114]⟩, .string ⟨#[39, 80, 114, 39]⟩] 9))).size (below_alloc0 (Below.refl _ _) (.cells #[.string ⟨#[117, 112, 112, 101, 114]⟩, .string ⟨#[80, 79, 73, 78, 84]⟩, .string ⟨#[32, 113, 117, 111, 116, 101, 10]⟩] 9)); refine (symbols_bad (bs s) s (of_bs s).symm 0 f Hl.out _ (hS.later hB1)).mono ?_; rintro e w3 ⟨rfl, hb3⟩; have hB3 := bjoin (bjoin hB1 hB1.size hb3) (bjoin hB1 hB1.size hb3).size (below_alloc0 (Below.refl _ w3) (.cells #[.int .i64 f.1, .int .i64 f.2] 35)); have L3 := heap_alloc_new w3 (.cells #[.int .i64 f.1, .int .i64 f.2] 35); have tok4 : Nat := 0)
    | (go_at_call 40; have tk := tok4; clear tok4; refine (symbols_bad _ _ Hcat.out 2 (f.1 + 16, f.2) Hhead.out _ (hS.later hB3)).mono ?_; rintro e w4 ⟨rfl, hb4⟩; have hB4 := bjoin (bjoin hB3 hB3.size hb4) (bjoin hB3 hB3.size hb4).size (below_alloc0 (Below.refl _ w4) (.cells #[.int .i64 (f.1 + 16), .int .i64 f.2] 35)); have M3 := (hb4.block _ (lt_of_blk L3)).trans L3; have d0 := cell_of_blk M3 0; have d1 := cell_of_blk M3 1; have hlt3 := lt_of_blk M3; have hne3 := Nat.ne_of_lt hlt3; have tok5 : Nat := 0))
  all_goals (go_ret; exact ⟨ret_bool ⟨fun _ => rfl, fun _ => (by rw [beq_iff_eq]; omega)⟩, hB4⟩)
set_option maxRecDepth 100000 in
set_option maxHeartbeats 16000000 in
theorem reg_21_ok (s : ByteArray) (hs : s.size ≤ 300) (l : List Sp.Sym) (hl : Sp.symbols (bs s) 1 = .ok l) (w : World) (hS : SignsIn w) (hM : MaxIn w) :
    Calls Tryz.prog 12 #[.string s, .int .i64 2, .int .i64 1] w fun e w' => e = .returned (.bool true) ∧ Below w.heap.size w w' := by
  have e1 : decide (300 < (s.size : Int)) = false := by simp; omega
  have e2 : decide (300 < s.size) = false := by simp; omega
  have hhead : Sp.symbols (Sp.head 2 1 ++ 32 :: bs s) 2 = Sp.shR ((Sp.head 2 1).length + 1) (Sp.symbols (bs s) 1) := Sp.symbols_head 2 1 (by decide) (by decide) (bs s) (by rw [bs_length]; omega)
  rw [hl] at hhead
  have hne := symbols_ne hl
  have hne2 := symbols_ne hhead
  have hlen : (l.map (Sp.sh ((Sp.head 2 1).length + 1))).length = l.length := List.length_map _
  have hal : Sp.alike l (l.map (Sp.sh ((Sp.head 2 1).length + 1))) = true := Sp.alike_of _ _ (Sp.same_map _ _)
  have hle : l.length ≤ 1000000 := by
    have := Sp.symbols_len_le hl
    rw [bs_length] at this; omega
  have Hne := Lib.hid hne
  have Hne2 := Lib.hid hne2
  have Hal := Lib.hid hal
  have Hlen := Lib.hid hlen
  clear hne hne2 hal hlen
  have hcat : ((⟨#[39, 80, 114, 39]⟩ : ByteArray) ++ ⟨#[32]⟩ ++ ⟨#[80, 79, 73, 78, 84]⟩ ++ ⟨#[32]⟩ ++ ⟨#[39, 80, 114, 39]⟩) ++ ⟨#[32]⟩ ++ s = ⟨(Sp.head 2 1 ++ 32 :: bs s).toArray⟩ := by
    rw [cat_text _ _ (Sp.head 2 1 ++ [32]) s (by rfl)]
    simp
  have hsz : 16 + s.size ≤ 9223372036854775807 := by omega
  have Hhead := Lib.hid hhead
  have Hcat := Lib.hid hcat
  have Hl := Lib.hid hl
  clear hl hhead hcat
  have tok1 : Nat := 0
  go_enter Tryz.func12, Tryz.ntmps12
  go_wp2_with (first
    | (go_at_call 34; have tk := tok1; clear tok1; refine (awake_c _ hS hM).mono ?_; rintro e w1 ⟨rfl, hb1⟩; have hS1 := hS.later hb1; have hM1 := hM.later hb1; have tok2 : Nat := 0)
    | (go_at_call 40; have tk := tok2; clear tok2; have hB1 := bjoin (bjoin hb1 hb1.size (below_alloc0 (Below.refl _ w1) (.cells #[.string ⟨#[80, 82]⟩, .string ⟨#[46, 112, 114]⟩, .string ⟨#[39, 80, 114, 39]⟩] 9))) (bjoin hb1 hb1.size (below_alloc0 (Below.refl _ w1) (.cells #[.string ⟨#[80, 82]⟩, .string ⟨#[46, 112, 114]⟩, .string ⟨#[39, 80, 114, 39]⟩] 9))).size (below_alloc0 (Below.refl _ _) (.cells #[.string ⟨#[117, 112, 112, 101, 114]⟩, .string ⟨#[80, 79, 73, 78, 84]⟩, .string ⟨#[32, 113, 117, 111, 116, 101, 10]⟩] 9)); refine (symbols_row (bs s) s (of_bs s).symm 1 l _ rfl Hne.out Hl.out _ (hS.later hB1)).mono ?_; rintro e w3 ⟨g3, c3, rfl, hb3, H3, hg3, hk3, hc3⟩; have hB3 := bjoin (bjoin hB1 hB1.size hb3) (bjoin hB1 hB1.size hb3).size (below_alloc0 (Below.refl _ w3) (.cells #[.int .i64 0, .int .i64 0] 35)); have L3 := heap_alloc_new w3 (.cells #[.int .i64 0, .int .i64 0] 35); have tok4 : Nat := 0)
    | (go_at_call 40; have tk := tok4; clear tok4; refine (symbols_row _ _ Hcat.out 2 _ l.length Hlen.out Hne2.out Hhead.out _ (hS.later hB3)).mono ?_; rintro e w4 ⟨g4, c4, rfl, hb4, H4, hg4, hk4, hc4⟩; have hB4 := bjoin (bjoin hB3 hB3.size hb4) (bjoin hB3 hB3.size hb4).size (below_alloc0 (Below.refl _ w4) (.cells #[.int .i64 0, .int .i64 0] 35)); have M3 := (hb4.block _ (lt_of_blk L3)).trans L3; have d0 := cell_of_blk M3 0; have d1 := cell_of_blk M3 1; have hlt3 := lt_of_blk M3; have hne3 := Nat.ne_of_lt hlt3; have tok5 : Nat := 0)
    | (go_at_call 43; have tk := tok5; clear tok5; refine (alike_l g3 0 c3 g4 0 c4 l _ l.length Hlen.out hle _ (H3.later (bjoin (bjoin (below_alloc0 (Below.refl _ w3) (.cells #[.int .i64 0, .int .i64 0] 35)) (below_alloc0 (Below.refl _ w3) (.cells #[.int .i64 0, .int .i64 0] 35)).size hb4) (bjoin (below_alloc0 (Below.refl _ w3) (.cells #[.int .i64 0, .int .i64 0] 35)) (below_alloc0 (Below.refl _ w3) (.cells #[.int .i64 0, .int .i64 0] 35)).size hb4).size (below_alloc0 (Below.refl _ w4) (.cells #[.int .i64 0, .int .i64 0] 35)))) (H4.later (below_alloc0 (Below.refl _ w4) (.cells #[.int .i64 0, .int .i64 0] 35))) (by simp only [World.alloc, Array.size_push]; have := hb4.size; simp only [World.alloc, Array.size_push] at this; omega) (by simp only [World.alloc, Array.size_push]; omega)).mono ?_; rw [Hal.out]; rintro e w5 ⟨rfl, hb5⟩; have hB5 := bjoin hB4 hB4.size hb5))
  all_goals (go_ret; exact ⟨rfl, hB5⟩)
set_option maxRecDepth 100000 in
set_option maxHeartbeats 16000000 in
theorem reg_21_err (s : ByteArray) (hs : s.size ≤ 300) (f : Int × Int) (hl : Sp.symbols (bs s) 1 = .error f) (w : World) (hS : SignsIn w) (hM : MaxIn w) :
    Calls Tryz.prog 12 #[.string s, .int .i64 2, .int .i64 1] w fun e w' => e = .returned (.bool true) ∧ Below w.heap.size w w' := by
  have e1 : decide (300 < (s.size : Int)) = false := by simp; omega
  have e2 : decide (300 < s.size) = false := by simp; omega
  have hhead : Sp.symbols (Sp.head 2 1 ++ 32 :: bs s) 2 = Sp.shR ((Sp.head 2 1).length + 1) (Sp.symbols (bs s) 1) := Sp.symbols_head 2 1 (by decide) (by decide) (bs s) (by rw [bs_length]; omega)
  rw [hl] at hhead
  have hfb := Sp.symbols_fault _ _ _ hl
  rw [bs_length] at hfb
  obtain ⟨hf0, hf1, hf2⟩ := hfb
  have hfc : (f.2 != 0) = true := bne_iff_ne.2 hf2
  have hcat : ((⟨#[39, 80, 114, 39]⟩ : ByteArray) ++ ⟨#[32]⟩ ++ ⟨#[80, 79, 73, 78, 84]⟩ ++ ⟨#[32]⟩ ++ ⟨#[39, 80, 114, 39]⟩) ++ ⟨#[32]⟩ ++ s = ⟨(Sp.head 2 1 ++ 32 :: bs s).toArray⟩ := by
    rw [cat_text _ _ (Sp.head 2 1 ++ [32]) s (by rfl)]
    simp
  have hsz : 16 + s.size ≤ 9223372036854775807 := by omega
  have Hhead := Lib.hid hhead
  have Hcat := Lib.hid hcat
  have Hl := Lib.hid hl
  clear hl hhead hcat
  have tok1 : Nat := 0
  go_enter Tryz.func12, Tryz.ntmps12
  go_wp2_with (first
    | (go_at_call 34; have tk := tok1; clear tok1; refine (awake_c _ hS hM).mono ?_; rintro e w1 ⟨rfl, hb1⟩; have hS1 := hS.later hb1; have hM1 := hM.later hb1; have tok2 : Nat := 0)
    | (go_at_call 40; have tk := tok2; clear tok2; have hB1 := bjoin (bjoin hb1 hb1.size (below_alloc0 (Below.refl _ w1) (.cells #[.string ⟨#[80, 82]⟩, .string ⟨#[46, 112, 114]⟩, .string ⟨#[39, 80, 114, 39]⟩] 9))) (bjoin hb1 hb1.size (below_alloc0 (Below.refl _ w1) (.cells #[.string ⟨#[80, 82]⟩, .string ⟨#[46, 112, 114]⟩, .string ⟨#[39, 80, 114, 39]⟩] 9))).size (below_alloc0 (Below.refl _ _) (.cells #[.string ⟨#[117, 112, 112, 101, 114]⟩, .string ⟨#[80, 79, 73, 78, 84]⟩, .string ⟨#[32, 113, 117, 111, 116, 101, 10]⟩] 9)); refine (symbols_bad (bs s) s (of_bs s).symm 1 f Hl.out _ (hS.later hB1)).mono ?_; rintro e w3 ⟨rfl, hb3⟩; have hB3 := bjoin (bjoin hB1 hB1.size hb3) (bjoin hB1 hB1.size hb3).size (below_alloc0 (Below.refl _ w3) (.cells #[.int .i64 f.1, .int .i64 f.2] 35)); have L3 := heap_alloc_new w3 (.cells #[.int .i64 f.1, .int .i64 f.2] 35); have tok4 : Nat := 0)
    | (go_at_call 40; have tk := tok4; clear tok4; refine (symbols_bad _ _ Hcat.out 2 (f.1 + 16, f.2) Hhead.out _ (hS.later hB3)).mono ?_; rintro e w4 ⟨rfl, hb4⟩; have hB4 := bjoin (bjoin hB3 hB3.size hb4) (bjoin hB3 hB3.size hb4).size (below_alloc0 (Below.refl _ w4) (.cells #[.int .i64 (f.1 + 16), .int .i64 f.2] 35)); have M3 := (hb4.block _ (lt_of_blk L3)).trans L3; have d0 := cell_of_blk M3 0; have d1 := cell_of_blk M3 1; have hlt3 := lt_of_blk M3; have hne3 := Nat.ne_of_lt hlt3; have tok5 : Nat := 0))
  all_goals (go_ret; exact ⟨ret_bool ⟨fun _ => rfl, fun _ => (by rw [beq_iff_eq]; omega)⟩, hB4⟩)
set_option maxRecDepth 100000 in
set_option maxHeartbeats 16000000 in
theorem reg_22_ok (s : ByteArray) (hs : s.size ≤ 300) (l : List Sp.Sym) (hl : Sp.symbols (bs s) 2 = .ok l) (w : World) (hS : SignsIn w) (hM : MaxIn w) :
    Calls Tryz.prog 12 #[.string s, .int .i64 2, .int .i64 2] w fun e w' => e = .returned (.bool true) ∧ Below w.heap.size w w' := by
  have e1 : decide (300 < (s.size : Int)) = false := by simp; omega
  have e2 : decide (300 < s.size) = false := by simp; omega
  have hhead : Sp.symbols (Sp.head 2 2 ++ 32 :: bs s) 2 = Sp.shR ((Sp.head 2 2).length + 1) (Sp.symbols (bs s) 2) := Sp.symbols_head 2 2 (by decide) (by decide) (bs s) (by rw [bs_length]; omega)
  rw [hl] at hhead
  have hne := symbols_ne hl
  have hne2 := symbols_ne hhead
  have hlen : (l.map (Sp.sh ((Sp.head 2 2).length + 1))).length = l.length := List.length_map _
  have hal : Sp.alike l (l.map (Sp.sh ((Sp.head 2 2).length + 1))) = true := Sp.alike_of _ _ (Sp.same_map _ _)
  have hle : l.length ≤ 1000000 := by
    have := Sp.symbols_len_le hl
    rw [bs_length] at this; omega
  have Hne := Lib.hid hne
  have Hne2 := Lib.hid hne2
  have Hal := Lib.hid hal
  have Hlen := Lib.hid hlen
  clear hne hne2 hal hlen
  have hcat : ((⟨#[39, 80, 114, 39]⟩ : ByteArray) ++ ⟨#[32]⟩ ++ ⟨#[32, 113, 117, 111, 116, 101, 10]⟩ ++ ⟨#[32]⟩ ++ ⟨#[39, 80, 114, 39]⟩) ++ ⟨#[32]⟩ ++ s = ⟨(Sp.head 2 2 ++ 32 :: bs s).toArray⟩ := by
    rw [cat_text _ _ (Sp.head 2 2 ++ [32]) s (by rfl)]
    simp
  have hsz : 18 + s.size ≤ 9223372036854775807 := by omega
  have Hhead := Lib.hid hhead
  have Hcat := Lib.hid hcat
  have Hl := Lib.hid hl
  clear hl hhead hcat
  have tok1 : Nat := 0
  go_enter Tryz.func12, Tryz.ntmps12
  go_wp2_with (first
    | (go_at_call 34; have tk := tok1; clear tok1; refine (awake_c _ hS hM).mono ?_; rintro e w1 ⟨rfl, hb1⟩; have hS1 := hS.later hb1; have hM1 := hM.later hb1; have tok2 : Nat := 0)
    | (go_at_call 40; have tk := tok2; clear tok2; have hB1 := bjoin (bjoin hb1 hb1.size (below_alloc0 (Below.refl _ w1) (.cells #[.string ⟨#[80, 82]⟩, .string ⟨#[46, 112, 114]⟩, .string ⟨#[39, 80, 114, 39]⟩] 9))) (bjoin hb1 hb1.size (below_alloc0 (Below.refl _ w1) (.cells #[.string ⟨#[80, 82]⟩, .string ⟨#[46, 112, 114]⟩, .string ⟨#[39, 80, 114, 39]⟩] 9))).size (below_alloc0 (Below.refl _ _) (.cells #[.string ⟨#[117, 112, 112, 101, 114]⟩, .string ⟨#[80, 79, 73, 78, 84]⟩, .string ⟨#[32, 113, 117, 111, 116, 101, 10]⟩] 9)); refine (symbols_row (bs s) s (of_bs s).symm 2 l _ rfl Hne.out Hl.out _ (hS.later hB1)).mono ?_; rintro e w3 ⟨g3, c3, rfl, hb3, H3, hg3, hk3, hc3⟩; have hB3 := bjoin (bjoin hB1 hB1.size hb3) (bjoin hB1 hB1.size hb3).size (below_alloc0 (Below.refl _ w3) (.cells #[.int .i64 0, .int .i64 0] 35)); have L3 := heap_alloc_new w3 (.cells #[.int .i64 0, .int .i64 0] 35); have tok4 : Nat := 0)
    | (go_at_call 40; have tk := tok4; clear tok4; refine (symbols_row _ _ Hcat.out 2 _ l.length Hlen.out Hne2.out Hhead.out _ (hS.later hB3)).mono ?_; rintro e w4 ⟨g4, c4, rfl, hb4, H4, hg4, hk4, hc4⟩; have hB4 := bjoin (bjoin hB3 hB3.size hb4) (bjoin hB3 hB3.size hb4).size (below_alloc0 (Below.refl _ w4) (.cells #[.int .i64 0, .int .i64 0] 35)); have M3 := (hb4.block _ (lt_of_blk L3)).trans L3; have d0 := cell_of_blk M3 0; have d1 := cell_of_blk M3 1; have hlt3 := lt_of_blk M3; have hne3 := Nat.ne_of_lt hlt3; have tok5 : Nat := 0)
    | (go_at_call 43; have tk := tok5; clear tok5; refine (alike_l g3 0 c3 g4 0 c4 l _ l.length Hlen.out hle _ (H3.later (bjoin (bjoin (below_alloc0 (Below.refl _ w3) (.cells #[.int .i64 0, .int .i64 0] 35)) (below_alloc0 (Below.refl _ w3) (.cells #[.int .i64 0, .int .i64 0] 35)).size hb4) (bjoin (below_alloc0 (Below.refl _ w3) (.cells #[.int .i64 0, .int .i64 0] 35)) (below_alloc0 (Below.refl _ w3) (.cells #[.int .i64 0, .int .i64 0] 35)).size hb4).size (below_alloc0 (Below.refl _ w4) (.cells #[.int .i64 0, .int .i64 0] 35)))) (H4.later (below_alloc0 (Below.refl _ w4) (.cells #[.int .i64 0, .int .i64 0] 35))) (by simp only [World.alloc, Array.size_push]; have := hb4.size; simp only [World.alloc, Array.size_push] at this; omega) (by simp only [World.alloc, Array.size_push]; omega)).mono ?_; rw [Hal.out]; rintro e w5 ⟨rfl, hb5⟩; have hB5 := bjoin hB4 hB4.size hb5))
  all_goals (go_ret; exact ⟨rfl, hB5⟩)
set_option maxRecDepth 100000 in
set_option maxHeartbeats 16000000 in
theorem reg_22_err (s : ByteArray) (hs : s.size ≤ 300) (f : Int × Int) (hl : Sp.symbols (bs s) 2 = .error f) (w : World) (hS : SignsIn w) (hM : MaxIn w) :
    Calls Tryz.prog 12 #[.string s, .int .i64 2, .int .i64 2] w fun e w' => e = .returned (.bool true) ∧ Below w.heap.size w w' := by
  have e1 : decide (300 < (s.size : Int)) = false := by simp; omega
  have e2 : decide (300 < s.size) = false := by simp; omega
  have hhead : Sp.symbols (Sp.head 2 2 ++ 32 :: bs s) 2 = Sp.shR ((Sp.head 2 2).length + 1) (Sp.symbols (bs s) 2) := Sp.symbols_head 2 2 (by decide) (by decide) (bs s) (by rw [bs_length]; omega)
  rw [hl] at hhead
  have hfb := Sp.symbols_fault _ _ _ hl
  rw [bs_length] at hfb
  obtain ⟨hf0, hf1, hf2⟩ := hfb
  have hfc : (f.2 != 0) = true := bne_iff_ne.2 hf2
  have hcat : ((⟨#[39, 80, 114, 39]⟩ : ByteArray) ++ ⟨#[32]⟩ ++ ⟨#[32, 113, 117, 111, 116, 101, 10]⟩ ++ ⟨#[32]⟩ ++ ⟨#[39, 80, 114, 39]⟩) ++ ⟨#[32]⟩ ++ s = ⟨(Sp.head 2 2 ++ 32 :: bs s).toArray⟩ := by
    rw [cat_text _ _ (Sp.head 2 2 ++ [32]) s (by rfl)]
    simp
  have hsz : 18 + s.size ≤ 9223372036854775807 := by omega
  have Hhead := Lib.hid hhead
  have Hcat := Lib.hid hcat
  have Hl := Lib.hid hl
  clear hl hhead hcat
  have tok1 : Nat := 0
  go_enter Tryz.func12, Tryz.ntmps12
  go_wp2_with (first
    | (go_at_call 34; have tk := tok1; clear tok1; refine (awake_c _ hS hM).mono ?_; rintro e w1 ⟨rfl, hb1⟩; have hS1 := hS.later hb1; have hM1 := hM.later hb1; have tok2 : Nat := 0)
    | (go_at_call 40; have tk := tok2; clear tok2; have hB1 := bjoin (bjoin hb1 hb1.size (below_alloc0 (Below.refl _ w1) (.cells #[.string ⟨#[80, 82]⟩, .string ⟨#[46, 112, 114]⟩, .string ⟨#[39, 80, 114, 39]⟩] 9))) (bjoin hb1 hb1.size (below_alloc0 (Below.refl _ w1) (.cells #[.string ⟨#[80, 82]⟩, .string ⟨#[46, 112, 114]⟩, .string ⟨#[39, 80, 114, 39]⟩] 9))).size (below_alloc0 (Below.refl _ _) (.cells #[.string ⟨#[117, 112, 112, 101, 114]⟩, .string ⟨#[80, 79, 73, 78, 84]⟩, .string ⟨#[32, 113, 117, 111, 116, 101, 10]⟩] 9)); refine (symbols_bad (bs s) s (of_bs s).symm 2 f Hl.out _ (hS.later hB1)).mono ?_; rintro e w3 ⟨rfl, hb3⟩; have hB3 := bjoin (bjoin hB1 hB1.size hb3) (bjoin hB1 hB1.size hb3).size (below_alloc0 (Below.refl _ w3) (.cells #[.int .i64 f.1, .int .i64 f.2] 35)); have L3 := heap_alloc_new w3 (.cells #[.int .i64 f.1, .int .i64 f.2] 35); have tok4 : Nat := 0)
    | (go_at_call 40; have tk := tok4; clear tok4; refine (symbols_bad _ _ Hcat.out 2 (f.1 + 18, f.2) Hhead.out _ (hS.later hB3)).mono ?_; rintro e w4 ⟨rfl, hb4⟩; have hB4 := bjoin (bjoin hB3 hB3.size hb4) (bjoin hB3 hB3.size hb4).size (below_alloc0 (Below.refl _ w4) (.cells #[.int .i64 (f.1 + 18), .int .i64 f.2] 35)); have M3 := (hb4.block _ (lt_of_blk L3)).trans L3; have d0 := cell_of_blk M3 0; have d1 := cell_of_blk M3 1; have hlt3 := lt_of_blk M3; have hne3 := Nat.ne_of_lt hlt3; have tok5 : Nat := 0))
  all_goals (go_ret; exact ⟨ret_bool ⟨fun _ => rfl, fun _ => (by rw [beq_iff_eq]; omega)⟩, hB4⟩)
end Go.Proofs.YtjghijeblddijaaGreatDoor
