/- Walks: StropBlanks. -/
import Derived.Test.YtjghijeblddijaaGreatDoorStropRegW
import Derived.Test.YtjghijeblddijaaGreatDoorStropBlk
import Derived.Deep.RegionWith
namespace Go.Proofs.YtjghijeblddijaaGreatDoor
open Go.RowKit
theorem Row.of_block {w w' : World} {g o : Nat} {l : List Sp.Sym} (h : Row w g o l) (hb : w'.heap[g]? = w.heap[g]?) : Row w' g o l := fun k x hk => by
  have hc : ∀ j : Nat, w'.cell? ⟨g, j, none⟩ = w.cell? ⟨g, j, none⟩ := fun j => World.cell?_of_block (w := w) hb
  rw [hc, hc, hc]
  exact h k x hk
set_option maxRecDepth 100000 in
set_option maxHeartbeats 16000000 in
theorem blk_main0 (s : ByteArray) (hs : s.size ≤ 300) (r : Int) (l : List Sp.Sym) (hl : Sp.symbols (bs s) r = .ok l) (a : Nat) (ha : a ≤ 255) (hak : a % 4 = 0) (w : World) (hS : SignsIn w) (hM : MaxIn w) :
    Calls Tryz.prog 11 #[.string s, .int .i64 r, .int .u8 (a : Int)] w fun e w' => e = .returned (.bool true) ∧ Below w.heap.size w w' := by
  have e1 : decide (300 < (s.size : Int)) = false := by simp; omega
  have e2 : decide (300 < s.size) = false := by simp; omega
  have hne := symbols_ne hl
  have hlen : 0 < l.length := List.length_pos_iff.2 hne
  have hle : l.length ≤ 1000000 := by
    have := Sp.symbols_len_le hl
    rw [bs_length] at this; omega
  obtain ⟨i, hi⟩ : ∃ i, i = a % l.length := ⟨_, rfl⟩
  have hil : i < l.length := by rw [hi]; exact Nat.mod_lt _ hlen
  obtain ⟨x, hx⟩ : ∃ x, l[i]? = some x := ⟨l[i], List.getElem?_eq_getElem hil⟩
  have e3 : ((l.length : Int) == 0) = false := by rw [beq_eq_false_iff_ne]; omega
  have e4 : Int.tmod (a : Int) (l.length : Int) = (i : Int) := by rw [hi]; rfl
  have e5 : Int.tmod (a : Int) 4 = 0 := by show ((a % 4 : Nat) : Int) = _; rw [hak]; rfl
  obtain ⟨m, hm, hal⟩ := Sp.remark_put 0 (by decide) (bs s) r l hl i x hx (by rw [bs_length]; exact hs)
  obtain ⟨hx0, hx1, _⟩ := Sp.symbols_take (bs s) r l hl i x hx
  rw [bs_length] at hx1
  obtain ⟨p, hp⟩ : ∃ p : Nat, x.pos = (p : Int) := ⟨x.pos.toNat, by omega⟩
  rw [hp, Int.toNat_natCast] at hm hx1
  have hnem := symbols_ne hm
  have Hx := Lib.hid hx
  have Hp := Lib.hid hp
  have Hne := Lib.hid hne
  have Hl := Lib.hid hl
  have Hm := Lib.hid hm
  have Hal := Lib.hid hal
  have Hnem := Lib.hid hnem
  clear hl hx hne hi hm hal hnem hx0 hp hak
  have tok1 : Nat := 0
  go_enter Tryz.func11, Tryz.ntmps11
  go_wp2_with (first
    | (go_at_call 34; have tk := tok1; clear tok1; refine (awake_c _ hS hM).mono ?_; rintro e w1 ⟨rfl, hb1⟩; have hS1 := hS.later hb1; have hM1 := hM.later hb1; have tok2 : Nat := 0)
    | (go_at_call 40; have tk := tok2; clear tok2; refine (symbols_row (bs s) s (of_bs s).symm r l _ rfl Hne.out Hl.out _ hS1).mono ?_; rintro e w3 ⟨g3, c3, rfl, hb3, H3, hg3, hk3, hc3⟩; have hB3 := bjoin (bjoin hb1 hb1.size hb3) (bjoin hb1 hb1.size hb3).size (below_alloc0 (Below.refl _ w3) (.cells #[.int .i64 0, .int .i64 0] 35)); have L3 := heap_alloc_new w3 (.cells #[.int .i64 0, .int .i64 0] 35); obtain ⟨q0, q1, q2⟩ := H3 i x Hx.out; rw [Nat.zero_add] at q0 q1 q2; rw [Hp.out] at q2; have hkn := Nat.ne_of_lt hk3))
  have hs1 : (w3.alloc (.cells #[.int .i64 0, .int .i64 0] 35)).heap.size = w3.heap.size + 1 := by simp
  have hA3 : Below w3.heap.size w3 (((w3.alloc (.cells #[.int .i64 0, .int .i64 0] 35)).alloc (.cells #[.int .i64 x.kind, .string ⟨x.text.toArray⟩, .int .i64 (p : Int)] 28)).alloc (.cells #[.string ⟨#[32]⟩, .string ⟨#[10, 9]⟩, .string ⟨#[35, 32, 105, 116, 39, 115, 32, 97, 32, 36, 32, 99, 111, 109, 109, 101, 110, 116, 32, 35]⟩, .string ⟨#[35, 34, 35]⟩] 9)) := ((below_alloc0 (Below.refl _ w3) _).alloc (by simp) _).alloc (by simp; omega) _
  have hBW := bjoin (bjoin hb1 hb1.size hb3) (bjoin hb1 hb1.size hb3).size hA3
  have hblk : (((w3.alloc (.cells #[.int .i64 0, .int .i64 0] 35)).alloc (.cells #[.int .i64 x.kind, .string ⟨x.text.toArray⟩, .int .i64 (p : Int)] 28)).alloc (.cells #[.string ⟨#[32]⟩, .string ⟨#[10, 9]⟩, .string ⟨#[35, 32, 105, 116, 39, 115, 32, 97, 32, 36, 32, 99, 111, 109, 109, 101, 110, 116, 32, 35]⟩, .string ⟨#[35, 34, 35]⟩] 9)).heap[w3.heap.size + 1]? = some (.cells #[.int .i64 x.kind, .string ⟨x.text.toArray⟩, .int .i64 (p : Int)] 28) := by
    rw [← hs1]
    exact (heap_alloc_old _ _ (by simp)).trans (heap_alloc_new _ _)
  generalize (((w3.alloc (.cells #[.int .i64 0, .int .i64 0] 35)).alloc (.cells #[.int .i64 x.kind, .string ⟨x.text.toArray⟩, .int .i64 (p : Int)] 28)).alloc (.cells #[.string ⟨#[32]⟩, .string ⟨#[10, 9]⟩, .string ⟨#[35, 32, 105, 116, 39, 115, 32, 97, 32, 36, 32, 99, 111, 109, 109, 101, 110, 116, 32, 35]⟩, .string ⟨#[35, 34, 35]⟩] 9)) = W at *
  have k2 := cell_of_blk hblk 2
  clear hblk hs1 hB3 q0 q1 q2 L3
  have n1 : ¬ 9223372036854775807 < p + 1 := by omega
  have n2 : ¬ 9223372036854775807 < p + 1 + (s.size - p) := by omega
  have hcat : s.extract 0 p ++ ⟨#[32]⟩ ++ s.extract p s.size = ⟨((bs s).take p ++ Sp.remark 0 ++ (bs s).drop p).toArray⟩ := by
    rw [extract_eq, extract_eq, show (⟨#[32]⟩ : ByteArray) = ⟨(Sp.remark 0).toArray⟩ from rfl, bcat, bcat]
    simp
    rw [List.take_of_length_le (by simp)]
  have Hcat := Lib.hid hcat
  have hSW := hS.later hBW
  have HSW := Lib.hid hSW
  clear hcat hSW
  go_region_held3 (fun w' => w'.cell? ⟨w3.heap.size + 1, 2, none⟩ = some (.int .i64 (p : Int)) ∧ Below W.heap.size W w') (first | exact ⟨k2, Below.refl _ _⟩ | exact ⟨k2, (Below.refl _ _).drew⟩ | exact ⟨cell_later (below_alloc0 (Below.refl _ _).drew _) k2, below_alloc0 (Below.refl _ _).drew _⟩ | exact ⟨hc5', hbX⟩ | exact ⟨cell_later (below_alloc0 hbX _) k2, below_alloc0 hbX _⟩ | exact ⟨cell_later ((hbX.setCell (Nat.le_refl _) _).setCell (Nat.le_refl _) _) k2, (hbX.setCell (Nat.le_refl _) _).setCell (Nat.le_refl _) _⟩) (first | (go_at_call 40; refine (symbols_row _ _ Hcat.out r m m.length rfl Hnem.out Hm.out _ (HSW.out.later (by first | exact (Below.refl _ _).drew | exact below_alloc0 (Below.refl _ _).drew _))).mono ?_; rintro e w5 ⟨g5, c5, rfl, hb5, H5, hg5, hk5, hc5⟩; have hbX : Below W.heap.size W w5 := (by first | exact bjoin (Below.refl W.heap.size W).drew (Below.refl W.heap.size W).drew.size hb5 | exact bjoin (below_alloc0 (Below.refl W.heap.size W).drew (.cells #[.int .i64 0, .int .i64 0] 35)) (below_alloc0 (Below.refl W.heap.size W).drew (.cells #[.int .i64 0, .int .i64 0] 35)).size hb5); have hc5' := cell_later hbX k2; have hnw := World.new_ne w5 _ hc5'; try (have LZ : w5.heap[W.heap.size]? = some (.cells #[.int .i64 0, .int .i64 0] 35) := (hb5.block W.heap.size (by simp)).trans (heap_alloc_new W.drew (.cells #[.int .i64 0, .int .i64 0] 35)); have z0 := cell_of_blk LZ 0; have z1 := cell_of_blk LZ 1; have f0 := free_of_blk LZ 0; have f1 := free_of_blk LZ 1)))
  · rename_i hheld
    have hBV := bjoin hBW hBW.size hheld.2
    have hAV := bjoin hA3 hA3.size hheld.2
    have hA5 := below_alloc0 (Below.refl _ w5) (.cells #[.int .i64 0, .int .i64 0] 35)
    have L5 := heap_alloc_new w5 (.cells #[.int .i64 0, .int .i64 0] 35)
    have d0 := cell_of_blk L5 0
    have d1 := cell_of_blk L5 1
    clear hheld
    go_wp2_with (first | (go_at_call 43; refine (alike_l g3 0 c3 g5 0 c5 l m m.length rfl hle _ (H3.later hAV) (H5.later hA5) (Nat.lt_of_lt_of_le hk3 hAV.size) (Nat.lt_of_lt_of_le hk5 hA5.size)).mono ?_; rw [Hal.out]; rintro e w7 ⟨rfl, hb7⟩; have hB7 := bjoin hBV hBV.size hb7))
    all_goals (go_ret; exact ⟨rfl, hB7⟩)
  · rename_i hheld
    have hBV := bjoin hBW hBW.size hheld.2
    have hAV := bjoin hA3 hA3.size hheld.2
    have hg5' : g5 ≠ W.heap.size := by
      have h6 : W.heap.size + 1 ≤ g5 := by simpa using hg5
      omega
    have H5V : Row ((w5.setCell ⟨W.heap.size, 0, none⟩ (.int .i64 0)).setCell ⟨W.heap.size, 1, none⟩ (.int .i64 0)) g5 0 m := H5.of_block ((Below.heap_setCell _ _ _ _ hg5').trans (Below.heap_setCell _ _ _ _ hg5'))
    have hsz : ((w5.setCell ⟨W.heap.size, 0, none⟩ (.int .i64 0)).setCell ⟨W.heap.size, 1, none⟩ (.int .i64 0)).heap.size = w5.heap.size := by simp
    have LZ2 : ((w5.setCell ⟨W.heap.size, 0, none⟩ (.int .i64 0)).setCell ⟨W.heap.size, 1, none⟩ (.int .i64 0)).heap[W.heap.size]? = some (.cells #[.int .i64 0, .int .i64 0] 35) := blk_setCell (blk_setCell LZ 0 _) 1 _
    have d0 := cell_of_blk LZ2 0
    have d1 := cell_of_blk LZ2 1
    clear hheld z0 z1 f0 f1
    generalize ((w5.setCell ⟨W.heap.size, 0, none⟩ (.int .i64 0)).setCell ⟨W.heap.size, 1, none⟩ (.int .i64 0)) = V at *
    go_wp2_with (first | (go_at_call 43; refine (alike_l g3 0 c3 g5 0 c5 l m m.length rfl hle _ (H3.later hAV) H5V (Nat.lt_of_lt_of_le hk3 hAV.size) (by rw [hsz]; exact hk5)).mono ?_; rw [Hal.out]; rintro e w7 ⟨rfl, hb7⟩; have hB7 := bjoin hBV hBV.size hb7))
    all_goals (go_ret; exact ⟨rfl, hB7⟩)
set_option maxRecDepth 100000 in
set_option maxHeartbeats 16000000 in
theorem blk_main1 (s : ByteArray) (hs : s.size ≤ 300) (r : Int) (l : List Sp.Sym) (hl : Sp.symbols (bs s) r = .ok l) (a : Nat) (ha : a ≤ 255) (hak : a % 4 = 1) (w : World) (hS : SignsIn w) (hM : MaxIn w) :
    Calls Tryz.prog 11 #[.string s, .int .i64 r, .int .u8 (a : Int)] w fun e w' => e = .returned (.bool true) ∧ Below w.heap.size w w' := by
  have e1 : decide (300 < (s.size : Int)) = false := by simp; omega
  have e2 : decide (300 < s.size) = false := by simp; omega
  have hne := symbols_ne hl
  have hlen : 0 < l.length := List.length_pos_iff.2 hne
  have hle : l.length ≤ 1000000 := by
    have := Sp.symbols_len_le hl
    rw [bs_length] at this; omega
  obtain ⟨i, hi⟩ : ∃ i, i = a % l.length := ⟨_, rfl⟩
  have hil : i < l.length := by rw [hi]; exact Nat.mod_lt _ hlen
  obtain ⟨x, hx⟩ : ∃ x, l[i]? = some x := ⟨l[i], List.getElem?_eq_getElem hil⟩
  have e3 : ((l.length : Int) == 0) = false := by rw [beq_eq_false_iff_ne]; omega
  have e4 : Int.tmod (a : Int) (l.length : Int) = (i : Int) := by rw [hi]; rfl
  have e5 : Int.tmod (a : Int) 4 = 1 := by show ((a % 4 : Nat) : Int) = _; rw [hak]; rfl
  obtain ⟨m, hm, hal⟩ := Sp.remark_put 1 (by decide) (bs s) r l hl i x hx (by rw [bs_length]; exact hs)
  obtain ⟨hx0, hx1, _⟩ := Sp.symbols_take (bs s) r l hl i x hx
  rw [bs_length] at hx1
  obtain ⟨p, hp⟩ : ∃ p : Nat, x.pos = (p : Int) := ⟨x.pos.toNat, by omega⟩
  rw [hp, Int.toNat_natCast] at hm hx1
  have hnem := symbols_ne hm
  have Hx := Lib.hid hx
  have Hp := Lib.hid hp
  have Hne := Lib.hid hne
  have Hl := Lib.hid hl
  have Hm := Lib.hid hm
  have Hal := Lib.hid hal
  have Hnem := Lib.hid hnem
  clear hl hx hne hi hm hal hnem hx0 hp hak
  have tok1 : Nat := 0
  go_enter Tryz.func11, Tryz.ntmps11
  go_wp2_with (first
    | (go_at_call 34; have tk := tok1; clear tok1; refine (awake_c _ hS hM).mono ?_; rintro e w1 ⟨rfl, hb1⟩; have hS1 := hS.later hb1; have hM1 := hM.later hb1; have tok2 : Nat := 0)
    | (go_at_call 40; have tk := tok2; clear tok2; refine (symbols_row (bs s) s (of_bs s).symm r l _ rfl Hne.out Hl.out _ hS1).mono ?_; rintro e w3 ⟨g3, c3, rfl, hb3, H3, hg3, hk3, hc3⟩; have hB3 := bjoin (bjoin hb1 hb1.size hb3) (bjoin hb1 hb1.size hb3).size (below_alloc0 (Below.refl _ w3) (.cells #[.int .i64 0, .int .i64 0] 35)); have L3 := heap_alloc_new w3 (.cells #[.int .i64 0, .int .i64 0] 35); obtain ⟨q0, q1, q2⟩ := H3 i x Hx.out; rw [Nat.zero_add] at q0 q1 q2; rw [Hp.out] at q2; have hkn := Nat.ne_of_lt hk3))
  have hs1 : (w3.alloc (.cells #[.int .i64 0, .int .i64 0] 35)).heap.size = w3.heap.size + 1 := by simp
  have hA3 : Below w3.heap.size w3 (((w3.alloc (.cells #[.int .i64 0, .int .i64 0] 35)).alloc (.cells #[.int .i64 x.kind, .string ⟨x.text.toArray⟩, .int .i64 (p : Int)] 28)).alloc (.cells #[.string ⟨#[32]⟩, .string ⟨#[10, 9]⟩, .string ⟨#[35, 32, 105, 116, 39, 115, 32, 97, 32, 36, 32, 99, 111, 109, 109, 101, 110, 116, 32, 35]⟩, .string ⟨#[35, 34, 35]⟩] 9)) := ((below_alloc0 (Below.refl _ w3) _).alloc (by simp) _).alloc (by simp; omega) _
  have hBW := bjoin (bjoin hb1 hb1.size hb3) (bjoin hb1 hb1.size hb3).size hA3
  have hblk : (((w3.alloc (.cells #[.int .i64 0, .int .i64 0] 35)).alloc (.cells #[.int .i64 x.kind, .string ⟨x.text.toArray⟩, .int .i64 (p : Int)] 28)).alloc (.cells #[.string ⟨#[32]⟩, .string ⟨#[10, 9]⟩, .string ⟨#[35, 32, 105, 116, 39, 115, 32, 97, 32, 36, 32, 99, 111, 109, 109, 101, 110, 116, 32, 35]⟩, .string ⟨#[35, 34, 35]⟩] 9)).heap[w3.heap.size + 1]? = some (.cells #[.int .i64 x.kind, .string ⟨x.text.toArray⟩, .int .i64 (p : Int)] 28) := by
    rw [← hs1]
    exact (heap_alloc_old _ _ (by simp)).trans (heap_alloc_new _ _)
  generalize (((w3.alloc (.cells #[.int .i64 0, .int .i64 0] 35)).alloc (.cells #[.int .i64 x.kind, .string ⟨x.text.toArray⟩, .int .i64 (p : Int)] 28)).alloc (.cells #[.string ⟨#[32]⟩, .string ⟨#[10, 9]⟩, .string ⟨#[35, 32, 105, 116, 39, 115, 32, 97, 32, 36, 32, 99, 111, 109, 109, 101, 110, 116, 32, 35]⟩, .string ⟨#[35, 34, 35]⟩] 9)) = W at *
  have k2 := cell_of_blk hblk 2
  clear hblk hs1 hB3 q0 q1 q2 L3
  have n1 : ¬ 9223372036854775807 < p + 2 := by omega
  have n2 : ¬ 9223372036854775807 < p + 2 + (s.size - p) := by omega
  have hcat : s.extract 0 p ++ ⟨#[10, 9]⟩ ++ s.extract p s.size = ⟨((bs s).take p ++ Sp.remark 1 ++ (bs s).drop p).toArray⟩ := by
    rw [extract_eq, extract_eq, show (⟨#[10, 9]⟩ : ByteArray) = ⟨(Sp.remark 1).toArray⟩ from rfl, bcat, bcat]
    simp
    rw [List.take_of_length_le (by simp)]
  have Hcat := Lib.hid hcat
  have hSW := hS.later hBW
  have HSW := Lib.hid hSW
  clear hcat hSW
  go_region_held3 (fun w' => w'.cell? ⟨w3.heap.size + 1, 2, none⟩ = some (.int .i64 (p : Int)) ∧ Below W.heap.size W w') (first | exact ⟨k2, Below.refl _ _⟩ | exact ⟨k2, (Below.refl _ _).drew⟩ | exact ⟨cell_later (below_alloc0 (Below.refl _ _).drew _) k2, below_alloc0 (Below.refl _ _).drew _⟩ | exact ⟨hc5', hbX⟩ | exact ⟨cell_later (below_alloc0 hbX _) k2, below_alloc0 hbX _⟩ | exact ⟨cell_later ((hbX.setCell (Nat.le_refl _) _).setCell (Nat.le_refl _) _) k2, (hbX.setCell (Nat.le_refl _) _).setCell (Nat.le_refl _) _⟩) (first | (go_at_call 40; refine (symbols_row _ _ Hcat.out r m m.length rfl Hnem.out Hm.out _ (HSW.out.later (by first | exact (Below.refl _ _).drew | exact below_alloc0 (Below.refl _ _).drew _))).mono ?_; rintro e w5 ⟨g5, c5, rfl, hb5, H5, hg5, hk5, hc5⟩; have hbX : Below W.heap.size W w5 := (by first | exact bjoin (Below.refl W.heap.size W).drew (Below.refl W.heap.size W).drew.size hb5 | exact bjoin (below_alloc0 (Below.refl W.heap.size W).drew (.cells #[.int .i64 0, .int .i64 0] 35)) (below_alloc0 (Below.refl W.heap.size W).drew (.cells #[.int .i64 0, .int .i64 0] 35)).size hb5); have hc5' := cell_later hbX k2; have hnw := World.new_ne w5 _ hc5'; try (have LZ : w5.heap[W.heap.size]? = some (.cells #[.int .i64 0, .int .i64 0] 35) := (hb5.block W.heap.size (by simp)).trans (heap_alloc_new W.drew (.cells #[.int .i64 0, .int .i64 0] 35)); have z0 := cell_of_blk LZ 0; have z1 := cell_of_blk LZ 1; have f0 := free_of_blk LZ 0; have f1 := free_of_blk LZ 1)))
  · rename_i hheld
    have hBV := bjoin hBW hBW.size hheld.2
    have hAV := bjoin hA3 hA3.size hheld.2
    have hA5 := below_alloc0 (Below.refl _ w5) (.cells #[.int .i64 0, .int .i64 0] 35)
    have L5 := heap_alloc_new w5 (.cells #[.int .i64 0, .int .i64 0] 35)
    have d0 := cell_of_blk L5 0
    have d1 := cell_of_blk L5 1
    clear hheld
    go_wp2_with (first | (go_at_call 43; refine (alike_l g3 0 c3 g5 0 c5 l m m.length rfl hle _ (H3.later hAV) (H5.later hA5) (Nat.lt_of_lt_of_le hk3 hAV.size) (Nat.lt_of_lt_of_le hk5 hA5.size)).mono ?_; rw [Hal.out]; rintro e w7 ⟨rfl, hb7⟩; have hB7 := bjoin hBV hBV.size hb7))
    all_goals (go_ret; exact ⟨rfl, hB7⟩)
  · rename_i hheld
    have hBV := bjoin hBW hBW.size hheld.2
    have hAV := bjoin hA3 hA3.size hheld.2
    have hg5' : g5 ≠ W.heap.size := by
      have h6 : W.heap.size + 1 ≤ g5 := by simpa using hg5
      omega
    have H5V : Row ((w5.setCell ⟨W.heap.size, 0, none⟩ (.int .i64 0)).setCell ⟨W.heap.size, 1, none⟩ (.int .i64 0)) g5 0 m := H5.of_block ((Below.heap_setCell _ _ _ _ hg5').trans (Below.heap_setCell _ _ _ _ hg5'))
    have hsz : ((w5.setCell ⟨W.heap.size, 0, none⟩ (.int .i64 0)).setCell ⟨W.heap.size, 1, none⟩ (.int .i64 0)).heap.size = w5.heap.size := by simp
    have LZ2 : ((w5.setCell ⟨W.heap.size, 0, none⟩ (.int .i64 0)).setCell ⟨W.heap.size, 1, none⟩ (.int .i64 0)).heap[W.heap.size]? = some (.cells #[.int .i64 0, .int .i64 0] 35) := blk_setCell (blk_setCell LZ 0 _) 1 _
    have d0 := cell_of_blk LZ2 0
    have d1 := cell_of_blk LZ2 1
    clear hheld z0 z1 f0 f1
    generalize ((w5.setCell ⟨W.heap.size, 0, none⟩ (.int .i64 0)).setCell ⟨W.heap.size, 1, none⟩ (.int .i64 0)) = V at *
    go_wp2_with (first | (go_at_call 43; refine (alike_l g3 0 c3 g5 0 c5 l m m.length rfl hle _ (H3.later hAV) H5V (Nat.lt_of_lt_of_le hk3 hAV.size) (by rw [hsz]; exact hk5)).mono ?_; rw [Hal.out]; rintro e w7 ⟨rfl, hb7⟩; have hB7 := bjoin hBV hBV.size hb7))
    all_goals (go_ret; exact ⟨rfl, hB7⟩)
set_option maxRecDepth 100000 in
set_option maxHeartbeats 16000000 in
theorem blk_main2 (s : ByteArray) (hs : s.size ≤ 300) (r : Int) (l : List Sp.Sym) (hl : Sp.symbols (bs s) r = .ok l) (a : Nat) (ha : a ≤ 255) (hak : a % 4 = 2) (w : World) (hS : SignsIn w) (hM : MaxIn w) :
    Calls Tryz.prog 11 #[.string s, .int .i64 r, .int .u8 (a : Int)] w fun e w' => e = .returned (.bool true) ∧ Below w.heap.size w w' := by
  have e1 : decide (300 < (s.size : Int)) = false := by simp; omega
  have e2 : decide (300 < s.size) = false := by simp; omega
  have hne := symbols_ne hl
  have hlen : 0 < l.length := List.length_pos_iff.2 hne
  have hle : l.length ≤ 1000000 := by
    have := Sp.symbols_len_le hl
    rw [bs_length] at this; omega
  obtain ⟨i, hi⟩ : ∃ i, i = a % l.length := ⟨_, rfl⟩
  have hil : i < l.length := by rw [hi]; exact Nat.mod_lt _ hlen
  obtain ⟨x, hx⟩ : ∃ x, l[i]? = some x := ⟨l[i], List.getElem?_eq_getElem hil⟩
  have e3 : ((l.length : Int) == 0) = false := by rw [beq_eq_false_iff_ne]; omega
  have e4 : Int.tmod (a : Int) (l.length : Int) = (i : Int) := by rw [hi]; rfl
  have e5 : Int.tmod (a : Int) 4 = 2 := by show ((a % 4 : Nat) : Int) = _; rw [hak]; rfl
  obtain ⟨m, hm, hal⟩ := Sp.remark_put 2 (by decide) (bs s) r l hl i x hx (by rw [bs_length]; exact hs)
  obtain ⟨hx0, hx1, _⟩ := Sp.symbols_take (bs s) r l hl i x hx
  rw [bs_length] at hx1
  obtain ⟨p, hp⟩ : ∃ p : Nat, x.pos = (p : Int) := ⟨x.pos.toNat, by omega⟩
  rw [hp, Int.toNat_natCast] at hm hx1
  have hnem := symbols_ne hm
  have Hx := Lib.hid hx
  have Hp := Lib.hid hp
  have Hne := Lib.hid hne
  have Hl := Lib.hid hl
  have Hm := Lib.hid hm
  have Hal := Lib.hid hal
  have Hnem := Lib.hid hnem
  clear hl hx hne hi hm hal hnem hx0 hp hak
  have tok1 : Nat := 0
  go_enter Tryz.func11, Tryz.ntmps11
  go_wp2_with (first
    | (go_at_call 34; have tk := tok1; clear tok1; refine (awake_c _ hS hM).mono ?_; rintro e w1 ⟨rfl, hb1⟩; have hS1 := hS.later hb1; have hM1 := hM.later hb1; have tok2 : Nat := 0)
    | (go_at_call 40; have tk := tok2; clear tok2; refine (symbols_row (bs s) s (of_bs s).symm r l _ rfl Hne.out Hl.out _ hS1).mono ?_; rintro e w3 ⟨g3, c3, rfl, hb3, H3, hg3, hk3, hc3⟩; have hB3 := bjoin (bjoin hb1 hb1.size hb3) (bjoin hb1 hb1.size hb3).size (below_alloc0 (Below.refl _ w3) (.cells #[.int .i64 0, .int .i64 0] 35)); have L3 := heap_alloc_new w3 (.cells #[.int .i64 0, .int .i64 0] 35); obtain ⟨q0, q1, q2⟩ := H3 i x Hx.out; rw [Nat.zero_add] at q0 q1 q2; rw [Hp.out] at q2; have hkn := Nat.ne_of_lt hk3))
  have hs1 : (w3.alloc (.cells #[.int .i64 0, .int .i64 0] 35)).heap.size = w3.heap.size + 1 := by simp
  have hA3 : Below w3.heap.size w3 (((w3.alloc (.cells #[.int .i64 0, .int .i64 0] 35)).alloc (.cells #[.int .i64 x.kind, .string ⟨x.text.toArray⟩, .int .i64 (p : Int)] 28)).alloc (.cells #[.string ⟨#[32]⟩, .string ⟨#[10, 9]⟩, .string ⟨#[35, 32, 105, 116, 39, 115, 32, 97, 32, 36, 32, 99, 111, 109, 109, 101, 110, 116, 32, 35]⟩, .string ⟨#[35, 34, 35]⟩] 9)) := ((below_alloc0 (Below.refl _ w3) _).alloc (by simp) _).alloc (by simp; omega) _
  have hBW := bjoin (bjoin hb1 hb1.size hb3) (bjoin hb1 hb1.size hb3).size hA3
  have hblk : (((w3.alloc (.cells #[.int .i64 0, .int .i64 0] 35)).alloc (.cells #[.int .i64 x.kind, .string ⟨x.text.toArray⟩, .int .i64 (p : Int)] 28)).alloc (.cells #[.string ⟨#[32]⟩, .string ⟨#[10, 9]⟩, .string ⟨#[35, 32, 105, 116, 39, 115, 32, 97, 32, 36, 32, 99, 111, 109, 109, 101, 110, 116, 32, 35]⟩, .string ⟨#[35, 34, 35]⟩] 9)).heap[w3.heap.size + 1]? = some (.cells #[.int .i64 x.kind, .string ⟨x.text.toArray⟩, .int .i64 (p : Int)] 28) := by
    rw [← hs1]
    exact (heap_alloc_old _ _ (by simp)).trans (heap_alloc_new _ _)
  generalize (((w3.alloc (.cells #[.int .i64 0, .int .i64 0] 35)).alloc (.cells #[.int .i64 x.kind, .string ⟨x.text.toArray⟩, .int .i64 (p : Int)] 28)).alloc (.cells #[.string ⟨#[32]⟩, .string ⟨#[10, 9]⟩, .string ⟨#[35, 32, 105, 116, 39, 115, 32, 97, 32, 36, 32, 99, 111, 109, 109, 101, 110, 116, 32, 35]⟩, .string ⟨#[35, 34, 35]⟩] 9)) = W at *
  have k2 := cell_of_blk hblk 2
  clear hblk hs1 hB3 q0 q1 q2 L3
  have n1 : ¬ 9223372036854775807 < p + 20 := by omega
  have n2 : ¬ 9223372036854775807 < p + 20 + (s.size - p) := by omega
  have hcat : s.extract 0 p ++ ⟨#[35, 32, 105, 116, 39, 115, 32, 97, 32, 36, 32, 99, 111, 109, 109, 101, 110, 116, 32, 35]⟩ ++ s.extract p s.size = ⟨((bs s).take p ++ Sp.remark 2 ++ (bs s).drop p).toArray⟩ := by
    rw [extract_eq, extract_eq, show (⟨#[35, 32, 105, 116, 39, 115, 32, 97, 32, 36, 32, 99, 111, 109, 109, 101, 110, 116, 32, 35]⟩ : ByteArray) = ⟨(Sp.remark 2).toArray⟩ from rfl, bcat, bcat]
    simp
    rw [List.take_of_length_le (by simp)]
  have Hcat := Lib.hid hcat
  have hSW := hS.later hBW
  have HSW := Lib.hid hSW
  clear hcat hSW
  go_region_held3 (fun w' => w'.cell? ⟨w3.heap.size + 1, 2, none⟩ = some (.int .i64 (p : Int)) ∧ Below W.heap.size W w') (first | exact ⟨k2, Below.refl _ _⟩ | exact ⟨k2, (Below.refl _ _).drew⟩ | exact ⟨cell_later (below_alloc0 (Below.refl _ _).drew _) k2, below_alloc0 (Below.refl _ _).drew _⟩ | exact ⟨hc5', hbX⟩ | exact ⟨cell_later (below_alloc0 hbX _) k2, below_alloc0 hbX _⟩ | exact ⟨cell_later ((hbX.setCell (Nat.le_refl _) _).setCell (Nat.le_refl _) _) k2, (hbX.setCell (Nat.le_refl _) _).setCell (Nat.le_refl _) _⟩) (first | (go_at_call 40; refine (symbols_row _ _ Hcat.out r m m.length rfl Hnem.out Hm.out _ (HSW.out.later (by first | exact (Below.refl _ _).drew | exact below_alloc0 (Below.refl _ _).drew _))).mono ?_; rintro e w5 ⟨g5, c5, rfl, hb5, H5, hg5, hk5, hc5⟩; have hbX : Below W.heap.size W w5 := (by first | exact bjoin (Below.refl W.heap.size W).drew (Below.refl W.heap.size W).drew.size hb5 | exact bjoin (below_alloc0 (Below.refl W.heap.size W).drew (.cells #[.int .i64 0, .int .i64 0] 35)) (below_alloc0 (Below.refl W.heap.size W).drew (.cells #[.int .i64 0, .int .i64 0] 35)).size hb5); have hc5' := cell_later hbX k2; have hnw := World.new_ne w5 _ hc5'; try (have LZ : w5.heap[W.heap.size]? = some (.cells #[.int .i64 0, .int .i64 0] 35) := (hb5.block W.heap.size (by simp)).trans (heap_alloc_new W.drew (.cells #[.int .i64 0, .int .i64 0] 35)); have z0 := cell_of_blk LZ 0; have z1 := cell_of_blk LZ 1; have f0 := free_of_blk LZ 0; have f1 := free_of_blk LZ 1)))
  · rename_i hheld
    have hBV := bjoin hBW hBW.size hheld.2
    have hAV := bjoin hA3 hA3.size hheld.2
    have hA5 := below_alloc0 (Below.refl _ w5) (.cells #[.int .i64 0, .int .i64 0] 35)
    have L5 := heap_alloc_new w5 (.cells #[.int .i64 0, .int .i64 0] 35)
    have d0 := cell_of_blk L5 0
    have d1 := cell_of_blk L5 1
    clear hheld
    go_wp2_with (first | (go_at_call 43; refine (alike_l g3 0 c3 g5 0 c5 l m m.length rfl hle _ (H3.later hAV) (H5.later hA5) (Nat.lt_of_lt_of_le hk3 hAV.size) (Nat.lt_of_lt_of_le hk5 hA5.size)).mono ?_; rw [Hal.out]; rintro e w7 ⟨rfl, hb7⟩; have hB7 := bjoin hBV hBV.size hb7))
    all_goals (go_ret; exact ⟨rfl, hB7⟩)
  · rename_i hheld
    have hBV := bjoin hBW hBW.size hheld.2
    have hAV := bjoin hA3 hA3.size hheld.2
    have hg5' : g5 ≠ W.heap.size := by
      have h6 : W.heap.size + 1 ≤ g5 := by simpa using hg5
      omega
    have H5V : Row ((w5.setCell ⟨W.heap.size, 0, none⟩ (.int .i64 0)).setCell ⟨W.heap.size, 1, none⟩ (.int .i64 0)) g5 0 m := H5.of_block ((Below.heap_setCell _ _ _ _ hg5').trans (Below.heap_setCell _ _ _ _ hg5'))
    have hsz : ((w5.setCell ⟨W.heap.size, 0, none⟩ (.int .i64 0)).setCell ⟨W.heap.size, 1, none⟩ (.int .i64 0)).heap.size = w5.heap.size := by simp
    have LZ2 : ((w5.setCell ⟨W.heap.size, 0, none⟩ (.int .i64 0)).setCell ⟨W.heap.size, 1, none⟩ (.int .i64 0)).heap[W.heap.size]? = some (.cells #[.int .i64 0, .int .i64 0] 35) := blk_setCell (blk_setCell LZ 0 _) 1 _
    have d0 := cell_of_blk LZ2 0
    have d1 := cell_of_blk LZ2 1
    clear hheld z0 z1 f0 f1
    generalize ((w5.setCell ⟨W.heap.size, 0, none⟩ (.int .i64 0)).setCell ⟨W.heap.size, 1, none⟩ (.int .i64 0)) = V at *
    go_wp2_with (first | (go_at_call 43; refine (alike_l g3 0 c3 g5 0 c5 l m m.length rfl hle _ (H3.later hAV) H5V (Nat.lt_of_lt_of_le hk3 hAV.size) (by rw [hsz]; exact hk5)).mono ?_; rw [Hal.out]; rintro e w7 ⟨rfl, hb7⟩; have hB7 := bjoin hBV hBV.size hb7))
    all_goals (go_ret; exact ⟨rfl, hB7⟩)
set_option maxRecDepth 100000 in
set_option maxHeartbeats 16000000 in
theorem blk_main3 (s : ByteArray) (hs : s.size ≤ 300) (r : Int) (l : List Sp.Sym) (hl : Sp.symbols (bs s) r = .ok l) (a : Nat) (ha : a ≤ 255) (hak : a % 4 = 3) (w : World) (hS : SignsIn w) (hM : MaxIn w) :
    Calls Tryz.prog 11 #[.string s, .int .i64 r, .int .u8 (a : Int)] w fun e w' => e = .returned (.bool true) ∧ Below w.heap.size w w' := by
  have e1 : decide (300 < (s.size : Int)) = false := by simp; omega
  have e2 : decide (300 < s.size) = false := by simp; omega
  have hne := symbols_ne hl
  have hlen : 0 < l.length := List.length_pos_iff.2 hne
  have hle : l.length ≤ 1000000 := by
    have := Sp.symbols_len_le hl
    rw [bs_length] at this; omega
  obtain ⟨i, hi⟩ : ∃ i, i = a % l.length := ⟨_, rfl⟩
  have hil : i < l.length := by rw [hi]; exact Nat.mod_lt _ hlen
  obtain ⟨x, hx⟩ : ∃ x, l[i]? = some x := ⟨l[i], List.getElem?_eq_getElem hil⟩
  have e3 : ((l.length : Int) == 0) = false := by rw [beq_eq_false_iff_ne]; omega
  have e4 : Int.tmod (a : Int) (l.length : Int) = (i : Int) := by rw [hi]; rfl
  have e5 : Int.tmod (a : Int) 4 = 3 := by show ((a % 4 : Nat) : Int) = _; rw [hak]; rfl
  obtain ⟨m, hm, hal⟩ := Sp.remark_put 3 (by decide) (bs s) r l hl i x hx (by rw [bs_length]; exact hs)
  obtain ⟨hx0, hx1, _⟩ := Sp.symbols_take (bs s) r l hl i x hx
  rw [bs_length] at hx1
  obtain ⟨p, hp⟩ : ∃ p : Nat, x.pos = (p : Int) := ⟨x.pos.toNat, by omega⟩
  rw [hp, Int.toNat_natCast] at hm hx1
  have hnem := symbols_ne hm
  have Hx := Lib.hid hx
  have Hp := Lib.hid hp
  have Hne := Lib.hid hne
  have Hl := Lib.hid hl
  have Hm := Lib.hid hm
  have Hal := Lib.hid hal
  have Hnem := Lib.hid hnem
  clear hl hx hne hi hm hal hnem hx0 hp hak
  have tok1 : Nat := 0
  go_enter Tryz.func11, Tryz.ntmps11
  go_wp2_with (first
    | (go_at_call 34; have tk := tok1; clear tok1; refine (awake_c _ hS hM).mono ?_; rintro e w1 ⟨rfl, hb1⟩; have hS1 := hS.later hb1; have hM1 := hM.later hb1; have tok2 : Nat := 0)
    | (go_at_call 40; have tk := tok2; clear tok2; refine (symbols_row (bs s) s (of_bs s).symm r l _ rfl Hne.out Hl.out _ hS1).mono ?_; rintro e w3 ⟨g3, c3, rfl, hb3, H3, hg3, hk3, hc3⟩; have hB3 := bjoin (bjoin hb1 hb1.size hb3) (bjoin hb1 hb1.size hb3).size (below_alloc0 (Below.refl _ w3) (.cells #[.int .i64 0, .int .i64 0] 35)); have L3 := heap_alloc_new w3 (.cells #[.int .i64 0, .int .i64 0] 35); obtain ⟨q0, q1, q2⟩ := H3 i x Hx.out; rw [Nat.zero_add] at q0 q1 q2; rw [Hp.out] at q2; have hkn := Nat.ne_of_lt hk3))
  have hs1 : (w3.alloc (.cells #[.int .i64 0, .int .i64 0] 35)).heap.size = w3.heap.size + 1 := by simp
  have hA3 : Below w3.heap.size w3 (((w3.alloc (.cells #[.int .i64 0, .int .i64 0] 35)).alloc (.cells #[.int .i64 x.kind, .string ⟨x.text.toArray⟩, .int .i64 (p : Int)] 28)).alloc (.cells #[.string ⟨#[32]⟩, .string ⟨#[10, 9]⟩, .string ⟨#[35, 32, 105, 116, 39, 115, 32, 97, 32, 36, 32, 99, 111, 109, 109, 101, 110, 116, 32, 35]⟩, .string ⟨#[35, 34, 35]⟩] 9)) := ((below_alloc0 (Below.refl _ w3) _).alloc (by simp) _).alloc (by simp; omega) _
  have hBW := bjoin (bjoin hb1 hb1.size hb3) (bjoin hb1 hb1.size hb3).size hA3
  have hblk : (((w3.alloc (.cells #[.int .i64 0, .int .i64 0] 35)).alloc (.cells #[.int .i64 x.kind, .string ⟨x.text.toArray⟩, .int .i64 (p : Int)] 28)).alloc (.cells #[.string ⟨#[32]⟩, .string ⟨#[10, 9]⟩, .string ⟨#[35, 32, 105, 116, 39, 115, 32, 97, 32, 36, 32, 99, 111, 109, 109, 101, 110, 116, 32, 35]⟩, .string ⟨#[35, 34, 35]⟩] 9)).heap[w3.heap.size + 1]? = some (.cells #[.int .i64 x.kind, .string ⟨x.text.toArray⟩, .int .i64 (p : Int)] 28) := by
    rw [← hs1]
    exact (heap_alloc_old _ _ (by simp)).trans (heap_alloc_new _ _)
  generalize (((w3.alloc (.cells #[.int .i64 0, .int .i64 0] 35)).alloc (.cells #[.int .i64 x.kind, .string ⟨x.text.toArray⟩, .int .i64 (p : Int)] 28)).alloc (.cells #[.string ⟨#[32]⟩, .string ⟨#[10, 9]⟩, .string ⟨#[35, 32, 105, 116, 39, 115, 32, 97, 32, 36, 32, 99, 111, 109, 109, 101, 110, 116, 32, 35]⟩, .string ⟨#[35, 34, 35]⟩] 9)) = W at *
  have k2 := cell_of_blk hblk 2
  clear hblk hs1 hB3 q0 q1 q2 L3
  have n1 : ¬ 9223372036854775807 < p + 3 := by omega
  have n2 : ¬ 9223372036854775807 < p + 3 + (s.size - p) := by omega
  have hcat : s.extract 0 p ++ ⟨#[35, 34, 35]⟩ ++ s.extract p s.size = ⟨((bs s).take p ++ Sp.remark 3 ++ (bs s).drop p).toArray⟩ := by
    rw [extract_eq, extract_eq, show (⟨#[35, 34, 35]⟩ : ByteArray) = ⟨(Sp.remark 3).toArray⟩ from rfl, bcat, bcat]
    simp
    rw [List.take_of_length_le (by simp)]
  have Hcat := Lib.hid hcat
  have hSW := hS.later hBW
  have HSW := Lib.hid hSW
  clear hcat hSW
  go_region_held3 (fun w' => w'.cell? ⟨w3.heap.size + 1, 2, none⟩ = some (.int .i64 (p : Int)) ∧ Below W.heap.size W w') (first | exact ⟨k2, Below.refl _ _⟩ | exact ⟨k2, (Below.refl _ _).drew⟩ | exact ⟨cell_later (below_alloc0 (Below.refl _ _).drew _) k2, below_alloc0 (Below.refl _ _).drew _⟩ | exact ⟨hc5', hbX⟩ | exact ⟨cell_later (below_alloc0 hbX _) k2, below_alloc0 hbX _⟩ | exact ⟨cell_later ((hbX.setCell (Nat.le_refl _) _).setCell (Nat.le_refl _) _) k2, (hbX.setCell (Nat.le_refl _) _).setCell (Nat.le_refl _) _⟩) (first | (go_at_call 40; refine (symbols_row _ _ Hcat.out r m m.length rfl Hnem.out Hm.out _ (HSW.out.later (by first | exact (Below.refl _ _).drew | exact below_alloc0 (Below.refl _ _).drew _))).mono ?_; rintro e w5 ⟨g5, c5, rfl, hb5, H5, hg5, hk5, hc5⟩; have hbX : Below W.heap.size W w5 := (by first | exact bjoin (Below.refl W.heap.size W).drew (Below.refl W.heap.size W).drew.size hb5 | exact bjoin (below_alloc0 (Below.refl W.heap.size W).drew (.cells #[.int .i64 0, .int .i64 0] 35)) (below_alloc0 (Below.refl W.heap.size W).drew (.cells #[.int .i64 0, .int .i64 0] 35)).size hb5); have hc5' := cell_later hbX k2; have hnw := World.new_ne w5 _ hc5'; try (have LZ : w5.heap[W.heap.size]? = some (.cells #[.int .i64 0, .int .i64 0] 35) := (hb5.block W.heap.size (by simp)).trans (heap_alloc_new W.drew (.cells #[.int .i64 0, .int .i64 0] 35)); have z0 := cell_of_blk LZ 0; have z1 := cell_of_blk LZ 1; have f0 := free_of_blk LZ 0; have f1 := free_of_blk LZ 1)))
  · rename_i hheld
    have hBV := bjoin hBW hBW.size hheld.2
    have hAV := bjoin hA3 hA3.size hheld.2
    have hA5 := below_alloc0 (Below.refl _ w5) (.cells #[.int .i64 0, .int .i64 0] 35)
    have L5 := heap_alloc_new w5 (.cells #[.int .i64 0, .int .i64 0] 35)
    have d0 := cell_of_blk L5 0
    have d1 := cell_of_blk L5 1
    clear hheld
    go_wp2_with (first | (go_at_call 43; refine (alike_l g3 0 c3 g5 0 c5 l m m.length rfl hle _ (H3.later hAV) (H5.later hA5) (Nat.lt_of_lt_of_le hk3 hAV.size) (Nat.lt_of_lt_of_le hk5 hA5.size)).mono ?_; rw [Hal.out]; rintro e w7 ⟨rfl, hb7⟩; have hB7 := bjoin hBV hBV.size hb7))
    all_goals (go_ret; exact ⟨rfl, hB7⟩)
  · rename_i hheld
    have hBV := bjoin hBW hBW.size hheld.2
    have hAV := bjoin hA3 hA3.size hheld.2
    have hg5' : g5 ≠ W.heap.size := by
      have h6 : W.heap.size + 1 ≤ g5 := by simpa using hg5
      omega
    have H5V : Row ((w5.setCell ⟨W.heap.size, 0, none⟩ (.int .i64 0)).setCell ⟨W.heap.size, 1, none⟩ (.int .i64 0)) g5 0 m := H5.of_block ((Below.heap_setCell _ _ _ _ hg5').trans (Below.heap_setCell _ _ _ _ hg5'))
    have hsz : ((w5.setCell ⟨W.heap.size, 0, none⟩ (.int .i64 0)).setCell ⟨W.heap.size, 1, none⟩ (.int .i64 0)).heap.size = w5.heap.size := by simp
    have LZ2 : ((w5.setCell ⟨W.heap.size, 0, none⟩ (.int .i64 0)).setCell ⟨W.heap.size, 1, none⟩ (.int .i64 0)).heap[W.heap.size]? = some (.cells #[.int .i64 0, .int .i64 0] 35) := blk_setCell (blk_setCell LZ 0 _) 1 _
    have d0 := cell_of_blk LZ2 0
    have d1 := cell_of_blk LZ2 1
    clear hheld z0 z1 f0 f1
    generalize ((w5.setCell ⟨W.heap.size, 0, none⟩ (.int .i64 0)).setCell ⟨W.heap.size, 1, none⟩ (.int .i64 0)) = V at *
    go_wp2_with (first | (go_at_call 43; refine (alike_l g3 0 c3 g5 0 c5 l m m.length rfl hle _ (H3.later hAV) H5V (Nat.lt_of_lt_of_le hk3 hAV.size) (by rw [hsz]; exact hk5)).mono ?_; rw [Hal.out]; rintro e w7 ⟨rfl, hb7⟩; have hB7 := bjoin hBV hBV.size hb7))
    all_goals (go_ret; exact ⟨rfl, hB7⟩)
set_option maxRecDepth 100000 in
set_option maxHeartbeats 4000000 in
theorem blk_err (s : ByteArray) (r a : Int) (f : Int × Int) (hl : Sp.symbols (bs s) r = .error f) (w : World) (hS : SignsIn w) (hM : MaxIn w) :
    Calls Tryz.prog 11 #[.string s, .int .i64 r, .int .u8 a] w fun e w' => e = .returned (.bool true) ∧ Below w.heap.size w w' := by
  have hfc : (f.2 != 0) = true := bne_iff_ne.2 (Sp.symbols_fault _ _ _ hl).2.2
  have Hl := Lib.hid hl
  clear hl
  by_cases h : 300 < s.size
  · have e1 : decide (300 < (s.size : Int)) = true := by simp; omega
    have e1' : decide (300 < s.size) = true := by simp; omega
    clear h
    go_enter Tryz.func11, Tryz.ntmps11
    go_wp2_with (first
      | (go_at_call 34; refine (awake_c _ hS hM).mono ?_; rintro e w1 ⟨rfl, hb1⟩; have hS1 := hS.later hb1)
      | (go_at_call 40; refine (symbols_bad (bs s) s (of_bs s).symm r f Hl.out _ hS1).mono ?_; rintro e w3 ⟨rfl, hb3⟩; have hB3 := bjoin (bjoin hb1 hb1.size hb3) (bjoin hb1 hb1.size hb3).size (below_alloc0 (Below.refl _ w3) (.cells #[.int .i64 f.1, .int .i64 f.2] 35))))
    all_goals (go_ret; exact ⟨rfl, hB3⟩)
  · have e1 : decide (300 < (s.size : Int)) = false := by simp; omega
    have e1' : decide (300 < s.size) = false := by simp; omega
    clear h
    go_enter Tryz.func11, Tryz.ntmps11
    go_wp2_with (first
      | (go_at_call 34; refine (awake_c _ hS hM).mono ?_; rintro e w1 ⟨rfl, hb1⟩; have hS1 := hS.later hb1)
      | (go_at_call 40; refine (symbols_bad (bs s) s (of_bs s).symm r f Hl.out _ hS1).mono ?_; rintro e w3 ⟨rfl, hb3⟩; have hB3 := bjoin (bjoin hb1 hb1.size hb3) (bjoin hb1 hb1.size hb3).size (below_alloc0 (Below.refl _ w3) (.cells #[.int .i64 f.1, .int .i64 f.2] 35))))
    all_goals (go_ret; exact ⟨rfl, hB3⟩)
set_option maxRecDepth 100000 in
set_option maxHeartbeats 4000000 in
theorem blk_long (s : ByteArray) (h : 300 < s.size) (r a : Int) (l : List Sp.Sym) (hl : Sp.symbols (bs s) r = .ok l) (w : World) (hS : SignsIn w) (hM : MaxIn w) :
    Calls Tryz.prog 11 #[.string s, .int .i64 r, .int .u8 a] w fun e w' => e = .returned (.bool true) ∧ Below w.heap.size w w' := by
  have e1 : decide (300 < (s.size : Int)) = true := by simp; omega
  have e1' : decide (300 < s.size) = true := by simp; omega
  have hne := symbols_ne hl
  have Hl := Lib.hid hl
  have Hne := Lib.hid hne
  clear hl hne h
  go_enter Tryz.func11, Tryz.ntmps11
  go_wp2_with (first
    | (go_at_call 34; refine (awake_c _ hS hM).mono ?_; rintro e w1 ⟨rfl, hb1⟩; have hS1 := hS.later hb1)
    | (go_at_call 40; refine (symbols_row (bs s) s (of_bs s).symm r l _ rfl Hne.out Hl.out _ hS1).mono ?_; rintro e w3 ⟨g3, c3, rfl, hb3, H3, hg3, hk3, hc3⟩; have hB3 := bjoin (bjoin hb1 hb1.size hb3) (bjoin hb1 hb1.size hb3).size (below_alloc0 (Below.refl _ w3) (.cells #[.int .i64 0, .int .i64 0] 35))))
  all_goals (go_ret; exact ⟨rfl, hB3⟩)
theorem blanks_law (s : ByteArray) (r a : Int) (ha : 0 ≤ a ∧ a ≤ 255) (w : World) (hS : SignsIn w) (hM : MaxIn w) :
    Calls Tryz.prog 11 #[.string s, .int .i64 r, .int .u8 a] w fun e w' => e = .returned (.bool true) ∧ Below w.heap.size w w' := by
  cases hX : Sp.symbols (bs s) r with
  | error f => exact blk_err s r a f hX w hS hM
  | ok l =>
    by_cases h : 300 < s.size
    · exact blk_long s h r a l hX w hS hM
    · obtain ⟨n, rfl⟩ : ∃ n : Nat, a = (n : Int) := ⟨a.toNat, by omega⟩
      have h4 : n % 4 = 0 ∨ n % 4 = 1 ∨ n % 4 = 2 ∨ n % 4 = 3 := by omega
      rcases h4 with h4 | h4 | h4 | h4
      · exact blk_main0 s (by omega) r l hX n (by omega) h4 w hS hM
      · exact blk_main1 s (by omega) r l hX n (by omega) h4 w hS hM
      · exact blk_main2 s (by omega) r l hX n (by omega) h4 w hS hM
      · exact blk_main3 s (by omega) r l hX n (by omega) h4 w hS hM
end Go.Proofs.YtjghijeblddijaaGreatDoor
