/- Walks: StropAscends. -/
import Derived.Test.YtjghijeblddijaaGreatDoorStropRegW
import Derived.Test.YtjghijeblddijaaGreatDoorStropEqual
import Derived.Test.YtjghijeblddijaaGreatDoorStropLexis
import Derived.Lib.QuietBelow
namespace Go.Proofs.YtjghijeblddijaaGreatDoor
open Go.RowKit
open Go.Sort
set_option maxRecDepth 100000 in
set_option maxHeartbeats 4000000 in
theorem asc_long (s : ByteArray) (hs : 300 < s.size) (r : Int) (w : World) (hS : SignsIn w) (hM : MaxIn w) :
    Calls Tryz.prog 9 #[.string s, .int .i64 r] w fun e w' => e = .returned (.bool true) ∧ Below w.heap.size w w' := by
  have e1 : decide (300 < (s.size : Int)) = true := by simp; omega
  have e1' : decide (300 < s.size) = true := by simp; omega
  go_enter Tryz.func9, Tryz.ntmps9
  go_wp2_with (first
    | (go_at_call 34; refine (awake_c _ hS hM).mono ?_; rintro e w1 ⟨rfl, hb1⟩))
  all_goals (go_ret; exact ⟨rfl, hb1⟩)
set_option maxRecDepth 100000 in
set_option maxHeartbeats 4000000 in
theorem asc_err (s : ByteArray) (hs : s.size ≤ 300) (r : Int) (f : Int × Int) (hl : Sp.symbols (bs s) r = .error f) (w : World) (hS : SignsIn w) (hM : MaxIn w) :
    Calls Tryz.prog 9 #[.string s, .int .i64 r] w fun e w' => e = .returned (.bool true) ∧ Below w.heap.size w w' := by
  have e1 : decide (300 < (s.size : Int)) = false := by simp; omega
  have e1' : decide (300 < s.size) = false := by simp; omega
  have hfc : (f.2 != 0) = true := bne_iff_ne.2 (Sp.symbols_fault _ _ _ hl).2.2
  have Hl := Lib.hid hl
  clear hl
  go_enter Tryz.func9, Tryz.ntmps9
  go_wp2_with (first
    | (go_at_call 34; refine (awake_c _ hS hM).mono ?_; rintro e w1 ⟨rfl, hb1⟩; have hS1 := hS.later hb1)
    | (go_at_call 40; refine (symbols_bad (bs s) s (of_bs s).symm r f Hl.out _ hS1).mono ?_; rintro e w3 ⟨rfl, hb3⟩; have hB3 := bjoin (bjoin hb1 hb1.size hb3) (bjoin hb1 hb1.size hb3).size (below_alloc0 (Below.refl _ w3) (.cells #[.int .i64 f.1, .int .i64 f.2] 35))))
  all_goals (go_ret; exact ⟨rfl, hB3⟩)
set_option maxRecDepth 100000 in
set_option maxHeartbeats 16000000 in
theorem asc_main (s : ByteArray) (hs : s.size ≤ 300) (r : Int) (l : List Sp.Sym) (hl : Sp.symbols (bs s) r = .ok l) (w : World) (hS : SignsIn w) (hM : MaxIn w) :
    Calls Tryz.prog 9 #[.string s, .int .i64 r] w fun e w' => e = .returned (.bool true) ∧ Below w.heap.size w w' := by
  have e1 : decide (300 < (s.size : Int)) = false := by simp; omega
  have e1' : decide (300 < s.size) = false := by simp; omega
  have hne := symbols_ne hl
  have hlen : 0 < l.length := List.length_pos_iff.2 hne
  have hle : l.length ≤ 1000000 := by
    have := Sp.symbols_len_le hl
    rw [bs_length] at this; omega
  have hseen := fun k x hx => Sp.seen (bs s) r l hl (by rw [bs_length]; omega) k x hx
  have hlast := Sp.last_at (bs s) r l hl
  have Hl := Lib.hid hl
  have Hne := Lib.hid hne
  have Hseen := Lib.hid hseen
  have Hlast := Lib.hid hlast
  clear hl hne hseen hlast
  have tok1 : Nat := 0
  go_enter Tryz.func9, Tryz.ntmps9
  go_wp2_with (first
    | (go_at_call 34; have tk := tok1; clear tok1; refine (awake_c _ hS hM).mono ?_; rintro e w1 ⟨rfl, hb1⟩; have hS1 := hS.later hb1; have hM1 := hM.later hb1; have tok2 : Nat := 0)
    | (go_at_call 40; have tk := tok2; clear tok2; refine (symbols_row (bs s) s (of_bs s).symm r l _ rfl Hne.out Hl.out _ hS1).mono ?_; rintro e w3 ⟨g3, c3, rfl, hb3, H3, hg3, hk3, hc3⟩; have hA3 := below_alloc0 (Below.refl _ w3) (.cells #[.int .i64 0, .int .i64 0] 35); have hB3 := bjoin (bjoin hb1 hb1.size hb3) (bjoin hb1 hb1.size hb3).size hA3; have L3 := heap_alloc_new w3 (.cells #[.int .i64 0, .int .i64 0] 35)))
  have hS3 := hS.later hB3
  have hM3 := hM.later hB3
  have H3W := H3.later hA3
  generalize (w3.alloc (.cells #[.int .i64 0, .int .i64 0] 35)) = W0 at *
  go_loopw [30] (fun t wr => ∃ k : Nat, k ≤ l.length ∧ t = .int .i64 k ∧ Below W0.heap.size W0 wr) (fun t _ => l.length - (intOf t).toNat)
  case atStart => exact ⟨0, by omega, rfl, Below.refl _ _⟩
  case round =>
    obtain ⟨k, hk, rfl, hB⟩ := hrel
    by_cases hlt : k < l.length
    · obtain ⟨x, hx⟩ : ∃ x, l[k]? = some x := ⟨l[k], List.getElem?_eq_getElem hlt⟩
      obtain ⟨q0, q1, q2⟩ := (H3W.later hB) k x hx
      rw [Nat.zero_add] at q0 q1 q2
      have sn := Hseen.out k x hx
      have hg3r : g3 < wr.heap.size := Nat.lt_of_lt_of_le hk3 (Nat.le_trans hA3.size hB.size)
      have hg3n := Nat.ne_of_lt hg3r
      have hB1 : Below W0.heap.size W0 (wr.alloc (.cells #[.int .i64 x.kind, .string ⟨x.text.toArray⟩, .int .i64 x.pos] 28)) := bjoin hB hB.size (below_alloc0 (Below.refl _ _) _)
      have L1 := heap_alloc_new wr (.cells #[.int .i64 x.kind, .string ⟨x.text.toArray⟩, .int .i64 x.pos] 28)
      obtain ⟨p, hp⟩ : ∃ p : Nat, x.pos = (p : Int) := ⟨x.pos.toNat, by have := sn.pos0; omega⟩
      have hck := check_c (⟨x.kind, x.text, (p : Int)⟩ : Sp.Sym) sn.len sn.ascii
      unfold symV at hck
      dsimp only at hck
      have hps : p ≤ s.size := by have := sn.pos1; rw [bs_length] at this; omega
      have x4 : IntKind.i64.wrap ((l.length : Int) - 1) = (l.length : Int) - 1 := IntWalk.i64_in _ (by omega)
      have x4' : IntKind.i64.wrap (((k + 1 : Nat) : Int) - 1) = (k : Int) := (IntWalk.i64_in _ (by omega)).trans (by omega)
      have x4'' : IntKind.i64.wrap ((k : Int) + 1 - 1) = (k : Int) := (IntWalk.i64_in _ (by omega)).trans (by omega)
      have hbefore := sn.before
      rw [hp, Int.toNat_natCast] at hbefore
      have hneb := symbols_ne hbefore
      have hlenb : (l.take k ++ [(⟨0, [], (p : Int)⟩ : Sp.Sym)]).length = k + 1 := by
        rw [List.length_append, List.length_take]; simp; omega
      have hlast := sn.last
      have hasc := sn.asc
      have hok : Sp.check ⟨x.kind, x.text, (p : Int)⟩ = 0 := by rw [← hp]; exact sn.ok
      have htk : (l.take k).length = k := by rw [List.length_take]; omega
      have hex := extract_eq s 0 p
      rw [Nat.sub_zero, List.drop_zero] at hex
      have Hex := Lib.hid hex
      have Hx := Lib.hid hx
      have Hck := Lib.hid hck
      have Hok := Lib.hid hok
      have Hbefore := Lib.hid hbefore
      have Hneb := Lib.hid hneb
      have Hlenb := Lib.hid hlenb
      have Htk := Lib.hid htk
      have Hasc := Lib.hid hasc
      have Hlast := Lib.hid hlast
      rw [hp] at q2 L1 hB1
      have q2' : (wr.alloc (.cells #[.int .i64 x.kind, .string ⟨x.text.toArray⟩, .int .i64 (p : Int)] 28)).cell? ⟨g3, k * 3 + 2, none⟩ = some (.int .i64 (p : Int)) := cell_later (below_alloc0 (Below.refl _ _) _) q2
      have Hp := Lib.hid hp
      clear hx hck hok hbefore hneb hlenb htk hasc hlast hp sn hex
      by_cases hk1 : x.kind = 0
      · by_cases hk0 : k = 0
        · have x9 : decide (0 < (k : Int)) = false := by simp; omega
          have x9' : decide (0 < k) = false := by simp; omega
          have r2 := q2'
          have e5 : (x.kind == 0) = true := beq_iff_eq.2 hk1
          have e6 : (x.kind != 0) = false := by rw [hk1]; rfl
          have e7 : ((k : Int) == (l.length : Int) - 1) = true := by
            have := Hlast.out
            rw [beq_iff_eq]; have := this.1 hk1; omega
          clear hk1 hk0
          have kx0 := cell_of_blk L1 0
          have kx1 := cell_of_blk L1 1
          have kx2 := cell_of_blk L1 2
          have hS1' := hS3.later hB1
          have hM1' := hM3.later hB1
          have hH3 := H3W.later hB1
          clear q2'
          go_wp2
          clear q0 q1 q2
          generalize (wr.alloc (.cells #[.int .i64 x.kind, .string ⟨x.text.toArray⟩, .int .i64 (p : Int)] 28)) = W1 at *
          have g0 := fun d os => cell_regrown kx0 d os
          have g1 := fun d os => cell_regrown kx1 d os
          have g2 := fun d os => cell_regrown kx2 d os
          have g3' := fun d os => cell_regrown r2 d os
          have hq : ∀ d os, Calls Tryz.prog 36 #[.agg #[.int .i64 x.kind, .string ⟨x.text.toArray⟩, .int .i64 (p : Int)]] (grow (redrawn W1 d) os) fun e w'' => e = .returned (.int .i64 0) ∧ ∃ q : Regrown, w'' = grow (redrawn W1 q.d) q.os := fun d os => Calls.regrown_of ((Hck.out _ (hS1'.later (below_regrown W1 d os)) (hM1'.later (below_regrown W1 d os))).mono (by rw [Hok.out]; exact fun _ _ h => h))
          refine wp_region_quiet_below (by kernel_rfl) (by kernel_rfl) ?_
          repeat (go_big_quiet_step (exact hq _ _))
          refine wpQuiet_nil ?_
          rintro _ ⟨⟨dq, osq⟩, rfl⟩
          clear g0 g1 g2 g3' hq
          have hbV := below_regrown W1 dq osq
          have m0 := cell_later hbV kx0
          have m1 := cell_later hbV kx1
          have m2 := cell_later hbV kx2
          generalize grow (redrawn W1 dq) osq = V at *
          have hBV := bjoin hB1 hB1.size hbV
          have hSV := hS3.later hBV
          have hH3V := hH3.later hbV
          go_wp2_with (first | (go_at_call 40; refine (symbols_row ((bs s).take p) _ Hex.out r _ (k + 1) Hlenb.out Hneb.out Hbefore.out _ hSV).mono ?_; rintro e w6 ⟨g6, c6, rfl, hb6, H6, hg6, hk6, hc6⟩; have hA6 := below_alloc0 (Below.refl _ w6) (.cells #[.int .i64 0, .int .i64 0] 35); have hB6 := bjoin (bjoin hBV hBV.size hb6) (bjoin hBV hBV.size hb6).size hA6; have L6 := heap_alloc_new w6 (.cells #[.int .i64 0, .int .i64 0] 35); have H6V := H6.later hA6; have H3V := hH3V.later (bjoin hb6 hb6.size hA6)))
          have d1 := cell_of_blk L6 1
          have H6T := H6V.take k
          rw [List.take_left' Htk.out] at H6T
          have H3T := H3V.take k
          have hkc : k ≤ c6 := by omega
          have hkc3 : k ≤ c3 := by omega
          generalize (w6.alloc (.cells #[.int .i64 0, .int .i64 0] 35)) = W6 at *
          clear L6 H6V H3V
          go_quiet (first | (go_at_call 42; exact Calls.quiet_of (equal_n g6 0 c6 g3 0 c3 (l.take k) k Htk.out (by omega) _ (H6T.later (bdrewN (Below.refl _ _) _)) (H3T.later (bdrewN (Below.refl _ _) _)))))
          go_wp2
          go_roundw
          case rel => exact ⟨k + 1, by omega, by go_num, bdrewN hB6 _⟩
          case measure => simp [intOf] <;> omega
        · obtain ⟨j, hj⟩ : ∃ j, k = j + 1 := ⟨k - 1, by omega⟩
          obtain ⟨y, hy⟩ : ∃ y, l[j]? = some y := ⟨l[j]'(by omega), List.getElem?_eq_getElem (by omega)⟩
          obtain ⟨_, _, r2⟩ := (H3W.later hB1) j y hy
          rw [Nat.zero_add] at r2
          have x7 : IntKind.i64.wrap ((k : Int) - 1) = (j : Int) := (IntWalk.i64_in _ (by omega)).trans (by omega)
          have x9 : decide (0 < (k : Int)) = true := by simp; omega
          have x9' : decide (0 < k) = true := by simp; omega
          have hjl : j < l.length := by omega
          clear hy
          have e5 : (x.kind == 0) = true := beq_iff_eq.2 hk1
          have e6 : (x.kind != 0) = false := by rw [hk1]; rfl
          have e7 : ((k : Int) == (l.length : Int) - 1) = true := by
            have := Hlast.out
            rw [beq_iff_eq]; have := this.1 hk1; omega
          clear hj
          rcases Bool.eq_false_or_eq_true (decide ((p : Int) ≤ y.pos)) with x11 | x11
          · clear hk1 hk0
            have kx0 := cell_of_blk L1 0
            have kx1 := cell_of_blk L1 1
            have kx2 := cell_of_blk L1 2
            have hS1' := hS3.later hB1
            have hM1' := hM3.later hB1
            have hH3 := H3W.later hB1
            clear q2'
            go_wp2
            clear q0 q1 q2
            generalize (wr.alloc (.cells #[.int .i64 x.kind, .string ⟨x.text.toArray⟩, .int .i64 (p : Int)] 28)) = W1 at *
            have g0 := fun d os => cell_regrown kx0 d os
            have g1 := fun d os => cell_regrown kx1 d os
            have g2 := fun d os => cell_regrown kx2 d os
            have g3' := fun d os => cell_regrown r2 d os
            have hq : ∀ d os, Calls Tryz.prog 36 #[.agg #[.int .i64 x.kind, .string ⟨x.text.toArray⟩, .int .i64 (p : Int)]] (grow (redrawn W1 d) os) fun e w'' => e = .returned (.int .i64 0) ∧ ∃ q : Regrown, w'' = grow (redrawn W1 q.d) q.os := fun d os => Calls.regrown_of ((Hck.out _ (hS1'.later (below_regrown W1 d os)) (hM1'.later (below_regrown W1 d os))).mono (by rw [Hok.out]; exact fun _ _ h => h))
            refine wp_region_quiet_below (by kernel_rfl) (by kernel_rfl) ?_
            repeat (go_big_quiet_step (exact hq _ _))
            refine wpQuiet_nil ?_
            rintro _ ⟨⟨dq, osq⟩, rfl⟩
            clear g0 g1 g2 g3' hq
            have hbV := below_regrown W1 dq osq
            have m0 := cell_later hbV kx0
            have m1 := cell_later hbV kx1
            have m2 := cell_later hbV kx2
            generalize grow (redrawn W1 dq) osq = V at *
            have hBV := bjoin hB1 hB1.size hbV
            have hSV := hS3.later hBV
            have hH3V := hH3.later hbV
            go_wp2_with (first | (go_at_call 40; refine (symbols_row ((bs s).take p) _ Hex.out r _ (k + 1) Hlenb.out Hneb.out Hbefore.out _ hSV).mono ?_; rintro e w6 ⟨g6, c6, rfl, hb6, H6, hg6, hk6, hc6⟩; have hA6 := below_alloc0 (Below.refl _ w6) (.cells #[.int .i64 0, .int .i64 0] 35); have hB6 := bjoin (bjoin hBV hBV.size hb6) (bjoin hBV hBV.size hb6).size hA6; have L6 := heap_alloc_new w6 (.cells #[.int .i64 0, .int .i64 0] 35); have H6V := H6.later hA6; have H3V := hH3V.later (bjoin hb6 hb6.size hA6)))
            have d1 := cell_of_blk L6 1
            have H6T := H6V.take k
            rw [List.take_left' Htk.out] at H6T
            have H3T := H3V.take k
            have hkc : k ≤ c6 := by omega
            have hkc3 : k ≤ c3 := by omega
            generalize (w6.alloc (.cells #[.int .i64 0, .int .i64 0] 35)) = W6 at *
            clear L6 H6V H3V
            go_quiet (first | (go_at_call 42; exact Calls.quiet_of (equal_n g6 0 c6 g3 0 c3 (l.take k) k Htk.out (by omega) _ (H6T.later (bdrewN (Below.refl _ _) _)) (H3T.later (bdrewN (Below.refl _ _) _)))))
            go_wp2
            go_roundw
            case rel => exact ⟨k + 1, by omega, by go_num, bdrewN hB6 _⟩
            case measure => simp [intOf] <;> omega
          · clear hk1 hk0
            have kx0 := cell_of_blk L1 0
            have kx1 := cell_of_blk L1 1
            have kx2 := cell_of_blk L1 2
            have hS1' := hS3.later hB1
            have hM1' := hM3.later hB1
            have hH3 := H3W.later hB1
            clear q2'
            go_wp2
            clear q0 q1 q2
            generalize (wr.alloc (.cells #[.int .i64 x.kind, .string ⟨x.text.toArray⟩, .int .i64 (p : Int)] 28)) = W1 at *
            have g0 := fun d os => cell_regrown kx0 d os
            have g1 := fun d os => cell_regrown kx1 d os
            have g2 := fun d os => cell_regrown kx2 d os
            have g3' := fun d os => cell_regrown r2 d os
            have hq : ∀ d os, Calls Tryz.prog 36 #[.agg #[.int .i64 x.kind, .string ⟨x.text.toArray⟩, .int .i64 (p : Int)]] (grow (redrawn W1 d) os) fun e w'' => e = .returned (.int .i64 0) ∧ ∃ q : Regrown, w'' = grow (redrawn W1 q.d) q.os := fun d os => Calls.regrown_of ((Hck.out _ (hS1'.later (below_regrown W1 d os)) (hM1'.later (below_regrown W1 d os))).mono (by rw [Hok.out]; exact fun _ _ h => h))
            refine wp_region_quiet_below (by kernel_rfl) (by kernel_rfl) ?_
            repeat (go_big_quiet_step (exact hq _ _))
            refine wpQuiet_nil ?_
            rintro _ ⟨⟨dq, osq⟩, rfl⟩
            clear g0 g1 g2 g3' hq
            have hbV := below_regrown W1 dq osq
            have m0 := cell_later hbV kx0
            have m1 := cell_later hbV kx1
            have m2 := cell_later hbV kx2
            generalize grow (redrawn W1 dq) osq = V at *
            have hBV := bjoin hB1 hB1.size hbV
            have hSV := hS3.later hBV
            have hH3V := hH3.later hbV
            go_wp2_with (first | (go_at_call 40; refine (symbols_row ((bs s).take p) _ Hex.out r _ (k + 1) Hlenb.out Hneb.out Hbefore.out _ hSV).mono ?_; rintro e w6 ⟨g6, c6, rfl, hb6, H6, hg6, hk6, hc6⟩; have hA6 := below_alloc0 (Below.refl _ w6) (.cells #[.int .i64 0, .int .i64 0] 35); have hB6 := bjoin (bjoin hBV hBV.size hb6) (bjoin hBV hBV.size hb6).size hA6; have L6 := heap_alloc_new w6 (.cells #[.int .i64 0, .int .i64 0] 35); have H6V := H6.later hA6; have H3V := hH3V.later (bjoin hb6 hb6.size hA6)))
            have d1 := cell_of_blk L6 1
            have H6T := H6V.take k
            rw [List.take_left' Htk.out] at H6T
            have H3T := H3V.take k
            have hkc : k ≤ c6 := by omega
            have hkc3 : k ≤ c3 := by omega
            generalize (w6.alloc (.cells #[.int .i64 0, .int .i64 0] 35)) = W6 at *
            clear L6 H6V H3V
            go_quiet (first | (go_at_call 42; exact Calls.quiet_of (equal_n g6 0 c6 g3 0 c3 (l.take k) k Htk.out (by omega) _ (H6T.later (bdrewN (Below.refl _ _) _)) (H3T.later (bdrewN (Below.refl _ _) _)))))
            go_wp2
            go_roundw
            case rel => exact ⟨k + 1, by omega, by go_num, bdrewN hB6 _⟩
            case measure => simp [intOf] <;> omega
      · by_cases hk0 : k = 0
        · have x9 : decide (0 < (k : Int)) = false := by simp; omega
          have x9' : decide (0 < k) = false := by simp; omega
          have r2 := q2'
          have e5 : (x.kind == 0) = false := beq_eq_false_iff_ne.2 hk1
          have e6 : (x.kind != 0) = true := bne_iff_ne.2 hk1
          have e7 : ((k : Int) == (l.length : Int) - 1) = false := by
            have := Hlast.out
            rw [beq_eq_false_iff_ne]; intro h; exact hk1 (this.2 (by omega))
          clear hk1 hk0
          have kx0 := cell_of_blk L1 0
          have kx1 := cell_of_blk L1 1
          have kx2 := cell_of_blk L1 2
          have hS1' := hS3.later hB1
          have hM1' := hM3.later hB1
          have hH3 := H3W.later hB1
          clear q2'
          go_wp2
          clear q0 q1 q2
          generalize (wr.alloc (.cells #[.int .i64 x.kind, .string ⟨x.text.toArray⟩, .int .i64 (p : Int)] 28)) = W1 at *
          have g0 := fun d os => cell_regrown kx0 d os
          have g1 := fun d os => cell_regrown kx1 d os
          have g2 := fun d os => cell_regrown kx2 d os
          have g3' := fun d os => cell_regrown r2 d os
          have hq : ∀ d os, Calls Tryz.prog 36 #[.agg #[.int .i64 x.kind, .string ⟨x.text.toArray⟩, .int .i64 (p : Int)]] (grow (redrawn W1 d) os) fun e w'' => e = .returned (.int .i64 0) ∧ ∃ q : Regrown, w'' = grow (redrawn W1 q.d) q.os := fun d os => Calls.regrown_of ((Hck.out _ (hS1'.later (below_regrown W1 d os)) (hM1'.later (below_regrown W1 d os))).mono (by rw [Hok.out]; exact fun _ _ h => h))
          refine wp_region_quiet_below (by kernel_rfl) (by kernel_rfl) ?_
          repeat (go_big_quiet_step (exact hq _ _))
          refine wpQuiet_nil ?_
          rintro _ ⟨⟨dq, osq⟩, rfl⟩
          clear g0 g1 g2 g3' hq
          have hbV := below_regrown W1 dq osq
          have m0 := cell_later hbV kx0
          have m1 := cell_later hbV kx1
          have m2 := cell_later hbV kx2
          generalize grow (redrawn W1 dq) osq = V at *
          have hBV := bjoin hB1 hB1.size hbV
          have hSV := hS3.later hBV
          have hH3V := hH3.later hbV
          go_wp2_with (first | (go_at_call 40; refine (symbols_row ((bs s).take p) _ Hex.out r _ (k + 1) Hlenb.out Hneb.out Hbefore.out _ hSV).mono ?_; rintro e w6 ⟨g6, c6, rfl, hb6, H6, hg6, hk6, hc6⟩; have hA6 := below_alloc0 (Below.refl _ w6) (.cells #[.int .i64 0, .int .i64 0] 35); have hB6 := bjoin (bjoin hBV hBV.size hb6) (bjoin hBV hBV.size hb6).size hA6; have L6 := heap_alloc_new w6 (.cells #[.int .i64 0, .int .i64 0] 35); have H6V := H6.later hA6; have H3V := hH3V.later (bjoin hb6 hb6.size hA6)))
          have d1 := cell_of_blk L6 1
          have H6T := H6V.take k
          rw [List.take_left' Htk.out] at H6T
          have H3T := H3V.take k
          have hkc : k ≤ c6 := by omega
          have hkc3 : k ≤ c3 := by omega
          generalize (w6.alloc (.cells #[.int .i64 0, .int .i64 0] 35)) = W6 at *
          clear L6 H6V H3V
          go_quiet (first | (go_at_call 42; exact Calls.quiet_of (equal_n g6 0 c6 g3 0 c3 (l.take k) k Htk.out (by omega) _ (H6T.later (bdrewN (Below.refl _ _) _)) (H3T.later (bdrewN (Below.refl _ _) _)))))
          go_wp2
          go_roundw
          case rel => exact ⟨k + 1, by omega, by go_num, bdrewN hB6 _⟩
          case measure => simp [intOf] <;> omega
        · obtain ⟨j, hj⟩ : ∃ j, k = j + 1 := ⟨k - 1, by omega⟩
          obtain ⟨y, hy⟩ : ∃ y, l[j]? = some y := ⟨l[j]'(by omega), List.getElem?_eq_getElem (by omega)⟩
          obtain ⟨_, _, r2⟩ := (H3W.later hB1) j y hy
          rw [Nat.zero_add] at r2
          have x7 : IntKind.i64.wrap ((k : Int) - 1) = (j : Int) := (IntWalk.i64_in _ (by omega)).trans (by omega)
          have x9 : decide (0 < (k : Int)) = true := by simp; omega
          have x9' : decide (0 < k) = true := by simp; omega
          have hjl : j < l.length := by omega
          have hyx : y.pos < (p : Int) := by
            have := Hasc.out y j hj hy
            rw [Hp.out] at this
            exact this.resolve_left hk1
          have x11 : decide ((p : Int) ≤ y.pos) = false := by simp; omega
          clear hyx
          clear hy
          have e5 : (x.kind == 0) = false := beq_eq_false_iff_ne.2 hk1
          have e6 : (x.kind != 0) = true := bne_iff_ne.2 hk1
          have e7 : ((k : Int) == (l.length : Int) - 1) = false := by
            have := Hlast.out
            rw [beq_eq_false_iff_ne]; intro h; exact hk1 (this.2 (by omega))
          clear hj
          clear hk1 hk0
          have kx0 := cell_of_blk L1 0
          have kx1 := cell_of_blk L1 1
          have kx2 := cell_of_blk L1 2
          have hS1' := hS3.later hB1
          have hM1' := hM3.later hB1
          have hH3 := H3W.later hB1
          clear q2'
          go_wp2
          clear q0 q1 q2
          generalize (wr.alloc (.cells #[.int .i64 x.kind, .string ⟨x.text.toArray⟩, .int .i64 (p : Int)] 28)) = W1 at *
          have g0 := fun d os => cell_regrown kx0 d os
          have g1 := fun d os => cell_regrown kx1 d os
          have g2 := fun d os => cell_regrown kx2 d os
          have g3' := fun d os => cell_regrown r2 d os
          have hq : ∀ d os, Calls Tryz.prog 36 #[.agg #[.int .i64 x.kind, .string ⟨x.text.toArray⟩, .int .i64 (p : Int)]] (grow (redrawn W1 d) os) fun e w'' => e = .returned (.int .i64 0) ∧ ∃ q : Regrown, w'' = grow (redrawn W1 q.d) q.os := fun d os => Calls.regrown_of ((Hck.out _ (hS1'.later (below_regrown W1 d os)) (hM1'.later (below_regrown W1 d os))).mono (by rw [Hok.out]; exact fun _ _ h => h))
          refine wp_region_quiet_below (by kernel_rfl) (by kernel_rfl) ?_
          repeat (go_big_quiet_step (exact hq _ _))
          refine wpQuiet_nil ?_
          rintro _ ⟨⟨dq, osq⟩, rfl⟩
          clear g0 g1 g2 g3' hq
          have hbV := below_regrown W1 dq osq
          have m0 := cell_later hbV kx0
          have m1 := cell_later hbV kx1
          have m2 := cell_later hbV kx2
          generalize grow (redrawn W1 dq) osq = V at *
          have hBV := bjoin hB1 hB1.size hbV
          have hSV := hS3.later hBV
          have hH3V := hH3.later hbV
          go_wp2_with (first | (go_at_call 40; refine (symbols_row ((bs s).take p) _ Hex.out r _ (k + 1) Hlenb.out Hneb.out Hbefore.out _ hSV).mono ?_; rintro e w6 ⟨g6, c6, rfl, hb6, H6, hg6, hk6, hc6⟩; have hA6 := below_alloc0 (Below.refl _ w6) (.cells #[.int .i64 0, .int .i64 0] 35); have hB6 := bjoin (bjoin hBV hBV.size hb6) (bjoin hBV hBV.size hb6).size hA6; have L6 := heap_alloc_new w6 (.cells #[.int .i64 0, .int .i64 0] 35); have H6V := H6.later hA6; have H3V := hH3V.later (bjoin hb6 hb6.size hA6)))
          have d1 := cell_of_blk L6 1
          have H6T := H6V.take k
          rw [List.take_left' Htk.out] at H6T
          have H3T := H3V.take k
          have hkc : k ≤ c6 := by omega
          have hkc3 : k ≤ c3 := by omega
          generalize (w6.alloc (.cells #[.int .i64 0, .int .i64 0] 35)) = W6 at *
          clear L6 H6V H3V
          go_quiet (first | (go_at_call 42; exact Calls.quiet_of (equal_n g6 0 c6 g3 0 c3 (l.take k) k Htk.out (by omega) _ (H6T.later (bdrewN (Below.refl _ _) _)) (H3T.later (bdrewN (Below.refl _ _) _)))))
          go_wp2
          go_roundw
          case rel => exact ⟨k + 1, by omega, by go_num, bdrewN hB6 _⟩
          case measure => simp [intOf] <;> omega
    · have hkl : k = l.length := by omega
      obtain ⟨n, z, hn, hz, hzp⟩ := Hlast.out
      rw [bs_length] at hzp
      obtain ⟨z0, z1, z2⟩ := (H3W.later hB) n z hz
      rw [Nat.zero_add] at z0 z1 z2
      rw [hzp] at z2
      have x4 : IntKind.i64.wrap ((l.length : Int) - 1) = (n : Int) := by rw [hn]; exact (IntWalk.i64_in _ (by omega)).trans (by omega)
      have x5 : decide (0 < (l.length : Int)) = true := by simp; omega
      have x6 : decide (0 < l.length) = true := by simp; omega
      have hnl : n < l.length := by omega
      have Hz := Lib.hid hz
      clear hz hzp hkl hn
      go_wp2
      all_goals (go_ret; exact ⟨rfl, bjoin hB3 hB3.size hB⟩)
theorem asc_law (s : ByteArray) (r : Int) (w : World) (hS : SignsIn w) (hM : MaxIn w) :
    Calls Tryz.prog 9 #[.string s, .int .i64 r] w fun e w' => e = .returned (.bool true) ∧ Below w.heap.size w w' := by
  by_cases h : 300 < s.size
  · exact asc_long s h r w hS hM
  cases hX : Sp.symbols (bs s) r with
  | error f => exact asc_err s (by omega) r f hX w hS hM
  | ok l => exact asc_main s (by omega) r l hX w hS hM
end Go.Proofs.YtjghijeblddijaaGreatDoor
