/- Walks: StropBack. -/
import Derived.Test.YtjghijeblddijaaGreatDoorStropRegW
import Derived.Test.YtjghijeblddijaaGreatDoorStropBackP
namespace Go.Proofs.YtjghijeblddijaaGreatDoor
open Go.RowKit
set_option maxRecDepth 100000 in
set_option maxHeartbeats 4000000 in
theorem text_arg (g o n c : Nat) (to : Int) (h : to < 0 ∨ 2 < to) (w : World) :
    Calls Tryz.prog 38 #[.slice (some ⟨g, o, none⟩) n c, .int .i64 to] w fun e w' => e = .returned (.tuple #[.string ⟨#[]⟩, .int .i64 1]) ∧ Below w.heap.size w w' := by
  rcases h with h | h
  · have e1 : decide (to < 0) = true := by simp; omega
    clear h
    go_enter Tryz.func38, Tryz.ntmps38
    go_wp2
    all_goals (go_ret2; exact ⟨rfl, Below.refl _ _⟩)
  · have e1 : decide (to < 0) = false := by simp; omega
    have e2 : decide (2 < to) = true := by simp; omega
    clear h
    go_enter Tryz.func38, Tryz.ntmps38
    go_wp2
    all_goals (go_ret2; exact ⟨rfl, Below.refl _ _⟩)
set_option maxRecDepth 100000 in
set_option maxHeartbeats 4000000 in
theorem back_long (s : ByteArray) (hs : 400 < s.size) (fr to : Int) (w : World) (hS : SignsIn w) (hM : MaxIn w) :
    Calls Tryz.prog 10 #[.string s, .int .i64 fr, .int .i64 to] w fun e w' => e = .returned (.bool true) ∧ Below w.heap.size w w' := by
  have e1 : decide (400 < (s.size : Int)) = true := by simp; omega
  have e1' : decide (400 < s.size) = true := by simp; omega
  go_enter Tryz.func10, Tryz.ntmps10
  go_wp2_with (first
    | (go_at_call 34; refine (awake_c _ hS hM).mono ?_; rintro e w1 ⟨rfl, hb1⟩))
  all_goals (go_ret; exact ⟨rfl, hb1⟩)
set_option maxRecDepth 100000 in
set_option maxHeartbeats 4000000 in
theorem back_err (s : ByteArray) (hs : s.size ≤ 400) (fr to : Int) (f : Int × Int) (hl : Sp.symbols (bs s) fr = .error f) (w : World) (hS : SignsIn w) (hM : MaxIn w) :
    Calls Tryz.prog 10 #[.string s, .int .i64 fr, .int .i64 to] w fun e w' => e = .returned (.bool true) ∧ Below w.heap.size w w' := by
  have e1 : decide (400 < (s.size : Int)) = false := by simp; omega
  have e1' : decide (400 < s.size) = false := by simp; omega
  have hfc : (f.2 != 0) = true := bne_iff_ne.2 (Sp.symbols_fault _ _ _ hl).2.2
  have Hl := Lib.hid hl
  clear hl
  go_enter Tryz.func10, Tryz.ntmps10
  go_wp2_with (first
    | (go_at_call 34; refine (awake_c _ hS hM).mono ?_; rintro e w1 ⟨rfl, hb1⟩; have hS1 := hS.later hb1)
    | (go_at_call 40; refine (symbols_bad (bs s) s (of_bs s).symm fr f Hl.out _ hS1).mono ?_; rintro e w3 ⟨rfl, hb3⟩; have hB3 := bjoin (bjoin hb1 hb1.size hb3) (bjoin hb1 hb1.size hb3).size (below_alloc0 (Below.refl _ w3) (.cells #[.int .i64 f.1, .int .i64 f.2] 35))))
  all_goals (go_ret; exact ⟨rfl, hB3⟩)
set_option maxRecDepth 100000 in
set_option maxHeartbeats 8000000 in
theorem back_out (s : ByteArray) (hs : s.size ≤ 400) (fr to : Int) (ht : to < 0 ∨ 2 < to) (l : List Sp.Sym) (hl : Sp.symbols (bs s) fr = .ok l) (w : World) (hS : SignsIn w) (hM : MaxIn w) :
    Calls Tryz.prog 10 #[.string s, .int .i64 fr, .int .i64 to] w fun e w' => e = .returned (.bool true) ∧ Below w.heap.size w w' := by
  have e1 : decide (400 < (s.size : Int)) = false := by simp; omega
  have e1' : decide (400 < s.size) = false := by simp; omega
  have hne := symbols_ne hl
  have hta := fun g n c W => text_arg g 0 n c to ht W
  have Hta := Lib.hid hta
  have Hl := Lib.hid hl
  have Hne := Lib.hid hne
  clear hl hne hta
  rcases ht with ht | ht
  · have e2 : decide (to < 0) = true := by simp; omega
    clear ht
    go_enter Tryz.func10, Tryz.ntmps10
    go_wp2_with (first
      | (go_at_call 34; refine (awake_c _ hS hM).mono ?_; rintro e w1 ⟨rfl, hb1⟩; have hS1 := hS.later hb1)
      | (go_at_call 40; refine (symbols_row (bs s) s (of_bs s).symm fr l _ rfl Hne.out Hl.out _ hS1).mono ?_; rintro e w3 ⟨g3, c3, rfl, hb3, H3, hg3, hk3, hc3⟩; have hB3 := bjoin (bjoin hb1 hb1.size hb3) (bjoin hb1 hb1.size hb3).size (below_alloc0 (Below.refl _ w3) (.cells #[.int .i64 0, .int .i64 0] 35)))
      | (go_at_call 38; refine (Hta.out _ _ _ _).mono ?_; rintro e w4 ⟨rfl, hb4⟩; have hB4 := bjoin hB3 hB3.size hb4))
    all_goals (go_ret; exact ⟨rfl, hB4⟩)
  · have e2 : decide (to < 0) = false := by simp; omega
    have e3 : decide (2 < to) = true := by simp; omega
    clear ht
    go_enter Tryz.func10, Tryz.ntmps10
    go_wp2_with (first
      | (go_at_call 34; refine (awake_c _ hS hM).mono ?_; rintro e w1 ⟨rfl, hb1⟩; have hS1 := hS.later hb1)
      | (go_at_call 40; refine (symbols_row (bs s) s (of_bs s).symm fr l _ rfl Hne.out Hl.out _ hS1).mono ?_; rintro e w3 ⟨g3, c3, rfl, hb3, H3, hg3, hk3, hc3⟩; have hB3 := bjoin (bjoin hb1 hb1.size hb3) (bjoin hb1 hb1.size hb3).size (below_alloc0 (Below.refl _ w3) (.cells #[.int .i64 0, .int .i64 0] 35)))
      | (go_at_call 38; refine (Hta.out _ _ _ _).mono ?_; rintro e w4 ⟨rfl, hb4⟩; have hB4 := bjoin hB3 hB3.size hb4))
    all_goals (go_ret; exact ⟨rfl, hB4⟩)
set_option maxRecDepth 100000 in
set_option maxHeartbeats 16000000 in
theorem back_main (s : ByteArray) (hs : s.size ≤ 400) (fr : Int) (to : Nat) (ht : to ≤ 2) (l : List Sp.Sym) (hl : Sp.symbols (bs s) fr = .ok l) (w : World) (hS : SignsIn w) (hM : MaxIn w) :
    Calls Tryz.prog 10 #[.string s, .int .i64 fr, .int .i64 (to : Int)] w fun e w' => e = .returned (.bool true) ∧ Below w.heap.size w w' := by
  have e1 : decide (400 < (s.size : Int)) = false := by simp; omega
  have e1' : decide (400 < s.size) = false := by simp; omega
  have e2 : decide ((to : Int) < 0) = false := by simp
  have e3 : decide (2 < (to : Int)) = false := by simp; omega
  have e3' : decide (2 < to) = false := by simp; omega
  obtain ⟨o, m, t1, y1, hal, t2, ho, sm1, sm2⟩ := Sp.back (bs s) fr l hl (by rw [bs_length]; omega) to ht
  have hne := symbols_ne hl
  have hnem := symbols_ne y1
  have hll : l.length ≤ 100000 := by have := Sp.symbols_len_le hl; rw [bs_length] at this; omega
  have hlm : m.length ≤ 100000 := by have := Sp.symbols_len_le y1; omega
  have hle : l.length ≤ 1000000 := by omega
  have Hl := Lib.hid hl
  have Hne := Lib.hid hne
  have Hnem := Lib.hid hnem
  have T1 := Lib.hid t1
  have T2 := Lib.hid t2
  have Y1 := Lib.hid y1
  have Hal := Lib.hid hal
  have S1 : Hid (Small l) := Lib.hid sm1
  have S2 : Hid (Small m) := Lib.hid sm2
  clear hl hne hnem t1 t2 y1 hal sm1 sm2 ho
  have tok1 : Nat := 0
  go_enter Tryz.func10, Tryz.ntmps10
  go_wp2_with (first
    | (go_at_call 34; have tk := tok1; clear tok1; refine (awake_c _ hS hM).mono ?_; rintro e w1 ⟨rfl, hb1⟩; have hS1 := hS.later hb1; have hM1 := hM.later hb1; have tok2 : Nat := 0)
    | (go_at_call 40; have tk := tok2; clear tok2; refine (symbols_row (bs s) s (of_bs s).symm fr l _ rfl Hne.out Hl.out _ hS1).mono ?_; rintro e w3 ⟨g3, c3, rfl, hb3, H3, hg3, hk3, hc3⟩; have hA3 := below_alloc0 (Below.refl _ w3) (.cells #[.int .i64 0, .int .i64 0] 35); have hB3 := bjoin (bjoin hb1 hb1.size hb3) (bjoin hb1 hb1.size hb3).size hA3; have tok3 : Nat := 0)
    | (go_at_call 38; have tk := tok3; clear tok3; refine (text_c g3 0 c3 l hll hc3 S1.out to ht _ (H3.later hA3) (hS.later hB3) (hM.later hB3)).mono ?_; unfold TextPost; rw [T1.out]; rintro e w4 ⟨rfl, hb4⟩; have hB4 := bjoin hB3 hB3.size hb4; have hA4 := bjoin hA3 hA3.size hb4; have tok4 : Nat := 0)
    | (go_at_call 40; have tk := tok4; clear tok4; refine (symbols_row o _ rfl (to : Int) m _ rfl Hnem.out Y1.out _ (hS.later hB4)).mono ?_; rintro e w5 ⟨g5, c5, rfl, hb5, H5, hg5, hk5, hc5⟩; have hA5 := below_alloc0 (Below.refl _ w5) (.cells #[.int .i64 0, .int .i64 0] 35); have hB5 := bjoin (bjoin hB4 hB4.size hb5) (bjoin hB4 hB4.size hb5).size hA5; have L5 := heap_alloc_new w5 (.cells #[.int .i64 0, .int .i64 0] 35); have tok5 : Nat := 0)
    | (go_at_call 38; have tk := tok5; clear tok5; refine (text_c g5 0 c5 m hlm hc5 S2.out to ht _ (H5.later hA5) (hS.later hB5) (hM.later hB5)).mono ?_; unfold TextPost; rw [T2.out]; rintro e w6 ⟨rfl, hb6⟩; have hB6 := bjoin hB5 hB5.size hb6; have M5 := (hb6.block _ (lt_of_blk L5)).trans L5; have d0 := cell_of_blk M5 0; have d1 := cell_of_blk M5 1; have tok6 : Nat := 0)
    | (go_at_call 43; have tk := tok6; clear tok6; refine (alike_l g3 0 c3 g5 0 c5 l m m.length rfl hle _ (H3.later (bjoin (bjoin hA4 hA4.size hb5) (bjoin hA4 hA4.size hb5).size (bjoin hA5 hA5.size hb6))) (H5.later (bjoin hA5 hA5.size hb6)) (Nat.lt_of_lt_of_le hk3 (bjoin (bjoin hA4 hA4.size hb5) (bjoin hA4 hA4.size hb5).size (bjoin hA5 hA5.size hb6)).size) (Nat.lt_of_lt_of_le hk5 (bjoin hA5 hA5.size hb6).size)).mono ?_; rw [Hal.out]; rintro e w7 ⟨rfl, hb7⟩; have hB7 := bjoin hB6 hB6.size hb7))
  all_goals (go_ret; exact ⟨rfl, hB7⟩)
theorem back_c (s : ByteArray) (fr to : Int) (w : World) (hS : SignsIn w) (hM : MaxIn w) :
    Calls Tryz.prog 10 #[.string s, .int .i64 fr, .int .i64 to] w fun e w' => e = .returned (.bool true) ∧ Below w.heap.size w w' := by
  by_cases h0 : 400 < s.size
  · exact back_long s h0 fr to w hS hM
  cases hX : Sp.symbols (bs s) fr with
  | error f => exact back_err s (by omega) fr to f hX w hS hM
  | ok l =>
    by_cases ht : to < 0 ∨ 2 < to
    · exact back_out s (by omega) fr to ht l hX w hS hM
    · have e : to = ((to.toNat : Nat) : Int) := by omega
      rw [e]
      exact back_main s (by omega) fr to.toNat (by omega) l hX w hS hM
end Go.Proofs.YtjghijeblddijaaGreatDoor
