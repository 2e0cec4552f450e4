/- Walks of the reference of chapter 04: bold. Printed by wip/tools/boldJ.py. Walks of the reference of chapter 04: regime. -/
import Derived.Test.YtjghijeblddijaaGreatDoorRefWalkG
namespace Go.Proofs.YtjghijeblddijaaGreatDoor
open Go.RowKit
/-- What bold answers. -/
def boldE (i : Nat) : Option (List UInt8 × Nat) → Ending
  | none => .returned (.tuple #[.string ⟨#[]⟩, .int .i64 (i : Int)])
  | some (wd, n) => .returned (.tuple #[.string ⟨wd.toArray⟩, .int .i64 ((i + n : Nat) : Int)])
theorem run_bat (p : UInt8 → Bool) (h0 : p 0 = false) (s : ByteArray) (k : Nat) : Sp.run p ((bs s).drop k) = if p (bat s k) = true then Sp.run p ((bs s).drop (k + 1)) + 1 else 0 := by
  obtain ⟨_, hd⟩ | ⟨_, hd, hz⟩ := drop_bat s k
  · rw [hd]; rfl
  · rw [hd, hz, h0]; rfl
theorem letter_alnum (r : Nat) (hr : r ≠ 0) (c : UInt8) : (Sp.letter r c || Sp.digit c) = Sp.alnum c := by
  unfold Sp.letter Sp.alnum
  rw [show (r != 0) = true from bne_iff_ne.2 hr, Bool.true_and]
theorem letter_low (r : Nat) (hr : r ≠ 0) (c : UInt8) : Sp.small (Sp.low c) = Sp.letter r c := by
  unfold Sp.letter
  rw [show (r != 0) = true from bne_iff_ne.2 hr, Bool.true_and, Bool.eq_iff_iff, Sp.small_iff, Bool.or_eq_true, Sp.small_iff, Sp.capital_iff]
  have h1 := Sp.low_int c
  by_cases h : Sp.capital c = true
  · rw [if_pos h] at h1
    rw [Sp.capital_iff] at h
    omega
  · rw [if_neg h] at h1
    rw [Sp.capital_iff] at h
    omega
theorem drop_head (s : ByteArray) (i : Nat) (h : bat s i ≠ 0) : (bs s).drop i = bat s i :: (bs s).drop (i + 1) := by
  obtain ⟨_, hd⟩ | ⟨_, _, hz⟩ := drop_bat s i
  · exact hd
  · exact absurd hz h
theorem up_run (l : List UInt8) : (l.take (Sp.run (fun c => Sp.capital c || Sp.digit c) l)).map Sp.up = l.take (Sp.run (fun c => Sp.capital c || Sp.digit c) l) := by
  induction l with
  | nil => rfl
  | cons c t ih =>
    simp only [Sp.run]
    split
    · rename_i h
      rw [List.take_succ_cons, List.map_cons, ih]
      congr 1
      unfold Sp.up
      rw [if_neg]
      intro hs
      rw [Sp.small_iff] at hs
      rw [Bool.or_eq_true, Sp.capital_iff, Sp.digit_iff] at h
      omega
    · rfl
theorem bold0_no (s : ByteArray) (i : Nat) (h : Sp.capital (bat s i) = false) : Sp.bold 0 ((bs s).drop i) = none := by
  obtain ⟨_, hd⟩ | ⟨_, hd, hz⟩ := drop_bat s i
  · rw [hd]; simp [Sp.bold, h]
  · rw [hd]; rfl
theorem bold0_yes (s : ByteArray) (i : Nat) (h : Sp.capital (bat s i) = true) : Sp.bold 0 ((bs s).drop i) = some ((((bs s).drop i).take (Sp.run (fun c => Sp.capital c || Sp.digit c) ((bs s).drop i))).map Sp.up, Sp.run (fun c => Sp.capital c || Sp.digit c) ((bs s).drop i)) := by
  rw [up_run]
  have hd := drop_head s i (fun h0 => by rw [h0] at h; revert h; decide)
  rw [hd]
  simp [Sp.bold, h]
theorem boldr_no (r : Nat) (hr : r ≠ 0) (s : ByteArray) (i : Nat) (h : bat s i ≠ Sp.mark r ∨ Sp.letter r (bat s (i + 1)) = false) : Sp.bold r ((bs s).drop i) = none := by
  have hr' : (r == 0) = false := beq_eq_false_iff_ne.2 hr
  obtain ⟨_, hd⟩ | ⟨_, hd, hz⟩ := drop_bat s i
  · rw [hd]
    have hg : ((bs s).drop (i + 1)).getD 0 0 = bat s (i + 1) := getD_bat s (i + 1) 0
    unfold Sp.bold
    simp only [hr', hg]
    rw [if_neg (by decide), if_neg]
    rw [Bool.and_eq_true, letter_low r hr, beq_iff_eq]
    rintro ⟨h1, h2⟩
    rcases h with h | h
    · exact h h1
    · rw [h] at h2; cases h2
  · rw [hd]; rfl
theorem boldr_at (r : Nat) (hr : r ≠ 0) (s : ByteArray) (i : Nat) (h1 : bat s i = Sp.mark r) (h2 : Sp.letter r (bat s (i + 1)) = true) :
    Sp.bold r ((bs s).drop i) = (if r == 2 then (if bat s (i + 1 + Sp.run Sp.alnum ((bs s).drop (i + 1))) == Sp.mark r then some ((((bs s).drop (i + 1)).take (Sp.run Sp.alnum ((bs s).drop (i + 1)))).map Sp.up, Sp.run Sp.alnum ((bs s).drop (i + 1)) + 2) else none)
      else some ((((bs s).drop (i + 1)).take (Sp.run Sp.alnum ((bs s).drop (i + 1)))).map Sp.up, Sp.run Sp.alnum ((bs s).drop (i + 1)) + 1)) := by
  have hr' : (r == 0) = false := beq_eq_false_iff_ne.2 hr
  have hd := drop_head s i (fun h0 => by
    rw [h0] at h1
    unfold Sp.mark at h1
    split at h1 <;> exact absurd h1 (by decide))
  rw [hd]
  have hg : ((bs s).drop (i + 1)).getD 0 0 = bat s (i + 1) := getD_bat s (i + 1) 0
  unfold Sp.bold
  simp only [hr', hg, getD_bat]
  rw [if_neg (by decide), if_pos]
  rw [Bool.and_eq_true, letter_low r hr, beq_iff_eq]
  exact ⟨h1, h2⟩
set_option maxRecDepth 100000 in
set_option maxHeartbeats 4000000 in
theorem rbold0_c (g : Nat) (s : ByteArray) (at_ err bad : Int) (i : Nat) (hi : i ≤ s.size) (hs : s.size ≤ 140737488355328) (w : World) (H : RefR w g s at_ 0 err bad) :
    Calls Tryz.prog 149 #[.pointer (some ⟨g, 0, none⟩), .int .i64 (i : Int)] w fun e w' => e = boldE i (Sp.bold 0 ((bs s).drop i)) ∧ Below w.heap.size w w' := by
  have R := H
  obtain ⟨c0, c1, c2, c4, c5⟩ := H
  have H := R
  cases hc : Sp.capital (bat s i) with
  | false =>
    have hfin := Lib.hid (bold0_no s i hc)
    go_enter Tryz.func149, Tryz.ntmps149
    go_wp2_with (first
      | (go_at_call 153; refine (rat_i i g s at_ 0 err bad _ (by omega) _ R).mono ?_; rintro e w' ⟨rfl, rfl⟩)
      | (go_at_call 193; refine (rcapital_c _ _).mono ?_; rw [hc]; rintro e w' ⟨rfl, rfl⟩))
    go_ret2
    rw [hfin.out]
    exact ⟨rfl, Below.refl _ _⟩
  | true =>
    have hfin := Lib.hid (bold0_yes s i hc)
    generalize hF : i = F at *
    clear hF
    go_enter Tryz.func149, Tryz.ntmps149
    go_wp2_with (first
      | (go_at_call 153; refine (rat_i F g s at_ 0 err bad _ (by omega) _ R).mono ?_; rintro e w' ⟨rfl, rfl⟩)
      | (go_at_call 193; refine (rcapital_c _ _).mono ?_; rw [hc]; rintro e w' ⟨rfl, rfl⟩))
    go_loop [7] (fun t => ∃ k : Nat, k ≤ s.size ∧ F ≤ k ∧ t = .int .i64 k ∧ Hid (F + Sp.run (fun c => Sp.capital c || Sp.digit c) ((bs s).drop F) = k + Sp.run (fun c => Sp.capital c || Sp.digit c) ((bs s).drop k))) (fun t => s.size - (intOf t).toNat)
    case atStart => exact ⟨F, hi, Nat.le_refl _, rfl, Lib.hid rfl⟩
    case round =>
      obtain ⟨k, hk, hFk, rfl, hh⟩ := hrel
      have hb := Lib.hid (run_bat (fun c => Sp.capital c || Sp.digit c) (by decide) s k)
      have hlt : (Sp.capital (bat s k) || Sp.digit (bat s k)) = true → k < s.size := fun h => bat_lt s _ (by intro h0; rw [h0] at h; revert h; decide)
      clear hc
      cases hc : Sp.capital (bat s k) with
      | true =>
        have hlt := hlt (by rw [hc]; rfl)
        go_wp2_with (first
          | (go_at_call 153; refine (rat_i k g s at_ 0 err bad _ (by omega) _ R).mono ?_; rintro e w' ⟨rfl, rfl⟩)
          | (go_at_call 193; refine (rcapital_c _ _).mono ?_; rw [hc]; rintro e w' ⟨rfl, rfl⟩))
        go_round
        case rel => exact ⟨k + 1, by omega, by omega, by go_num, Lib.hid (by rw [hh.out, hb.out, if_pos (by rw [hc]; rfl)]; omega)⟩
        case measure => simp [intOf]; omega
      | false =>
        cases hd : Sp.digit (bat s k) with
        | true =>
          have hlt := hlt (by rw [hd]; cases Sp.capital (bat s k) <;> rfl)
          go_wp2_with (first
            | (go_at_call 153; refine (rat_i k g s at_ 0 err bad _ (by omega) _ R).mono ?_; rintro e w' ⟨rfl, rfl⟩)
            | (go_at_call 193; refine (rcapital_c _ _).mono ?_; rw [hc]; rintro e w' ⟨rfl, rfl⟩)
            | (go_at_call 152; refine (rdigit_c _ _).mono ?_; rw [hd]; rintro e w' ⟨rfl, rfl⟩))
          go_round
          case rel => exact ⟨k + 1, by omega, by omega, by go_num, Lib.hid (by rw [hh.out, hb.out, if_pos (by rw [hc, hd]; rfl)]; omega)⟩
          case measure => simp [intOf]; omega
        | false =>
          have hend := Lib.hid (show Sp.run (fun c => Sp.capital c || Sp.digit c) ((bs s).drop F) = k - F from by
            have h1 := hh.out
            rw [hb.out, if_neg (by rw [hc, hd]; decide)] at h1
            omega)
          clear hlt
          go_wp2_with (first
            | (go_at_call 153; refine (rat_i k g s at_ 0 err bad _ (by omega) _ R).mono ?_; rintro e w' ⟨rfl, rfl⟩)
            | (go_at_call 193; refine (rcapital_c _ _).mono ?_; rw [hc]; rintro e w' ⟨rfl, rfl⟩)
            | (go_at_call 152; refine (rdigit_c _ _).mono ?_; rw [hd]; rintro e w' ⟨rfl, rfl⟩))
          go_loopw [8, 9] (fun x t wr => ∃ (j : Nat) (l : List UInt8), F ≤ j ∧ j ≤ k ∧ t = .int .i64 j ∧ x = .string ⟨l.toArray⟩ ∧ l.length ≤ j ∧ Below w.heap.size w wr ∧ Hid (l = (((bs s).drop F).take (j - F)).map Sp.up)) (fun _ t _ => k - (intOf t).toNat)
          case atStart => exact ⟨F, [], Nat.le_refl _, hFk, rfl, rfl, by simp, Below.refl _ _, Lib.hid (by rw [Nat.sub_self]; rfl)⟩
          case round =>
            obtain ⟨j, l, hFj, hjk, rfl, rfl, hll, hB, hl⟩ := hrel
            have H2 := H.later hB
            clear c0 c1 c2 c4 c5
            obtain ⟨c0, c1, c2, c4, c5⟩ := H2
            by_cases hlt : j < k
            · have hjs : j < s.size := by omega
              have hcv := one_byte wr _ (Sp.up s[j]) rfl
              have hcat := Lib.hid (bcat l [Sp.up s[j]])
              have hmid := Lib.hid (mid_snoc s F j hjs hFj)
              have hxs : l.length + 1 ≤ 9223372036854775807 := by omega
              go_wp2_with (go_at_call 217; refine (rraise_c _ _).mono ?_; rintro e w' ⟨rfl, rfl⟩)
              go_roundw
              case rel =>
                refine ⟨j + 1, l ++ [Sp.up s[j]], by omega, by omega, by go_num, by rw [hcat.out], by simp; omega, below_alloc0 hB _, Lib.hid ?_⟩
                rw [← hmid.out, List.map_append, ← hl.out]; rfl
              case measure => simp [intOf]; omega
            · have hjk2 : k = j := by omega
              subst hjk2
              go_wp2
              go_ret2
              refine ⟨?_, hB⟩
              rw [hfin.out, hend.out, ← hl.out]
              unfold boldE
              dsimp only
              rw [show F + (k - F) = k by omega]
              first | rfl | skip
set_option maxRecDepth 100000 in
set_option maxHeartbeats 4000000 in
theorem rbold1_c (g : Nat) (s : ByteArray) (at_ err bad : Int) (i : Nat) (hi : i ≤ s.size) (hs : s.size ≤ 140737488355328) (w : World) (H : RefR w g s at_ 1 err bad) :
    Calls Tryz.prog 149 #[.pointer (some ⟨g, 0, none⟩), .int .i64 (i : Int)] w fun e w' => e = boldE i (Sp.bold 1 ((bs s).drop i)) ∧ Below w.heap.size w w' := by
  have R := H
  obtain ⟨c0, c1, c2, c4, c5⟩ := H
  have H := R
  by_cases h1 : bat s i = 46
  · have e1 := byte_nn _ 46 46 rfl h1
    cases h2 : Sp.letter 1 (bat s (i + 1)) with
    | false =>
      have hfin := Lib.hid (boldr_no 1 (by decide) s i (.inr h2))
      clear h1
      go_enter Tryz.func149, Tryz.ntmps149
      go_wp2_with (first
        | (go_at_call 153; first
            | (refine (rat_i i g s at_ 1 err bad _ (by omega) _ R).mono ?_; rintro e w' ⟨rfl, rfl⟩)
            | (refine (rat_i (i + 1) g s at_ 1 err bad _ (by omega) _ R).mono ?_; rintro e w' ⟨rfl, rfl⟩))
        | (go_at_call 155; refine (rletter_c g s at_ 1 err bad (by decide) _ _ R).mono ?_; rw [show ((1 : Int).toNat) = 1 from rfl, h2]; rintro e w' ⟨rfl, rfl⟩))
      go_ret2
      rw [hfin.out]
      exact ⟨rfl, Below.refl _ _⟩
    | true =>
      have hfin := Lib.hid (boldr_at 1 (by decide) s i h1 h2)
      have hlt0 : i + 1 < s.size := bat_lt s _ (by intro h0; rw [h0, letter_zero] at h2; cases h2)
      generalize hF : i + 1 = F at *
      have HF := Lib.hid hF
      clear h1 hF
      go_enter Tryz.func149, Tryz.ntmps149
      go_wp2_with (first
        | (go_at_call 153; first
            | (refine (rat_i i g s at_ 1 err bad _ (by omega) _ R).mono ?_; rintro e w' ⟨rfl, rfl⟩)
            | (refine (rat_i F g s at_ 1 err bad _ (by have := HF.out; omega) _ R).mono ?_; rintro e w' ⟨rfl, rfl⟩))
        | (go_at_call 155; refine (rletter_c g s at_ 1 err bad (by decide) _ _ R).mono ?_; rw [show ((1 : Int).toNat) = 1 from rfl, h2]; rintro e w' ⟨rfl, rfl⟩))
      go_loop [7] (fun t => ∃ k : Nat, k ≤ s.size ∧ F ≤ k ∧ t = .int .i64 k ∧ Hid (F + Sp.run Sp.alnum ((bs s).drop F) = k + Sp.run Sp.alnum ((bs s).drop k))) (fun t => s.size - (intOf t).toNat)
      case atStart => exact ⟨F, by omega, Nat.le_refl _, congrArg (Value.int .i64) (by have := HF.out; omega), Lib.hid rfl⟩
      case round =>
        obtain ⟨k, hk, hFk, rfl, hh⟩ := hrel
        have hb := Lib.hid (run_bat Sp.alnum (by decide) s k)
        have ha := Lib.hid (letter_alnum 1 (by decide) (bat s k))
        have hlt : (Sp.letter 1 (bat s k) || Sp.digit (bat s k)) = true → k < s.size := fun h => bat_lt s _ (by intro h0; rw [h0, letter_zero] at h; revert h; decide)
        clear h2
        cases hc : Sp.letter 1 (bat s k) with
        | true =>
          have hlt := hlt (by rw [hc]; rfl)
          go_wp2_with (first
            | (go_at_call 153; refine (rat_i k g s at_ 1 err bad _ (by omega) _ R).mono ?_; rintro e w' ⟨rfl, rfl⟩)
            | (go_at_call 155; refine (rletter_c g s at_ 1 err bad (by decide) _ _ R).mono ?_; rw [show ((1 : Int).toNat) = 1 from rfl, hc]; rintro e w' ⟨rfl, rfl⟩))
          go_round
          case rel => exact ⟨k + 1, by omega, by omega, by go_num, Lib.hid (by rw [hh.out, hb.out, if_pos (by rw [← ha.out, hc]; rfl)]; omega)⟩
          case measure => simp [intOf]; omega
        | false =>
          cases hd : Sp.digit (bat s k) with
          | true =>
            have hlt := hlt (by rw [hd]; cases Sp.letter 1 (bat s k) <;> rfl)
            go_wp2_with (first
              | (go_at_call 153; refine (rat_i k g s at_ 1 err bad _ (by omega) _ R).mono ?_; rintro e w' ⟨rfl, rfl⟩)
              | (go_at_call 155; refine (rletter_c g s at_ 1 err bad (by decide) _ _ R).mono ?_; rw [show ((1 : Int).toNat) = 1 from rfl, hc]; rintro e w' ⟨rfl, rfl⟩)
              | (go_at_call 152; refine (rdigit_c _ _).mono ?_; rw [hd]; rintro e w' ⟨rfl, rfl⟩))
            go_round
            case rel => exact ⟨k + 1, by omega, by omega, by go_num, Lib.hid (by rw [hh.out, hb.out, if_pos (by rw [← ha.out, hc, hd]; rfl)]; omega)⟩
            case measure => simp [intOf]; omega
          | false =>
            have hend := Lib.hid (show Sp.run Sp.alnum ((bs s).drop F) = k - F from by
              have h1 := hh.out
              rw [hb.out, if_neg (by rw [← ha.out, hc, hd]; decide)] at h1
              omega)
            clear hlt
            go_wp2_with (first
              | (go_at_call 153; refine (rat_i k g s at_ 1 err bad _ (by omega) _ R).mono ?_; rintro e w' ⟨rfl, rfl⟩)
              | (go_at_call 155; refine (rletter_c g s at_ 1 err bad (by decide) _ _ R).mono ?_; rw [show ((1 : Int).toNat) = 1 from rfl, hc]; rintro e w' ⟨rfl, rfl⟩)
              | (go_at_call 152; refine (rdigit_c _ _).mono ?_; rw [hd]; rintro e w' ⟨rfl, rfl⟩))
            go_loopw [8, 9] (fun x t wr => ∃ (j : Nat) (l : List UInt8), F ≤ j ∧ j ≤ k ∧ t = .int .i64 j ∧ x = .string ⟨l.toArray⟩ ∧ l.length ≤ j ∧ Below w.heap.size w wr ∧ Hid (l = (((bs s).drop F).take (j - F)).map Sp.up)) (fun _ t _ => k - (intOf t).toNat)
            case atStart => exact ⟨F, [], Nat.le_refl _, hFk, congrArg (Value.int .i64) (by have := HF.out; omega), rfl, by simp, Below.refl _ _, Lib.hid (by rw [Nat.sub_self]; rfl)⟩
            case round =>
              obtain ⟨j, l, hFj, hjk, rfl, rfl, hll, hB, hl⟩ := hrel
              have H2 := H.later hB
              clear c0 c1 c2 c4 c5
              obtain ⟨c0, c1, c2, c4, c5⟩ := H2
              by_cases hlt : j < k
              · have hjs : j < s.size := by omega
                have hcv := one_byte wr _ (Sp.up s[j]) rfl
                have hcat := Lib.hid (bcat l [Sp.up s[j]])
                have hmid := Lib.hid (mid_snoc s F j hjs hFj)
                have hxs : l.length + 1 ≤ 9223372036854775807 := by omega
                go_wp2_with (go_at_call 217; refine (rraise_c _ _).mono ?_; rintro e w' ⟨rfl, rfl⟩)
                go_roundw
                case rel =>
                  refine ⟨j + 1, l ++ [Sp.up s[j]], by omega, by omega, by go_num, by rw [hcat.out], by simp; omega, below_alloc0 hB _, Lib.hid ?_⟩
                  rw [← hmid.out, List.map_append, ← hl.out]; rfl
                case measure => simp [intOf]; omega
              · have hjk2 : k = j := by omega
                subst hjk2
                go_wp2
                go_ret2
                refine ⟨?_, hB⟩
                rw [hfin.out, if_neg (by decide), hend.out, ← hl.out]
                unfold boldE
                dsimp only
                rw [show i + (k - F + 1) = k by have := HF.out; omega]
                first | rfl | skip
  · have e1 := byte_ne _ 46 46 rfl h1
    have hfin := Lib.hid (boldr_no 1 (by decide) s i (.inl h1))
    clear h1
    go_enter Tryz.func149, Tryz.ntmps149
    go_wp2_with (first
      | (go_at_call 153; refine (rat_i i g s at_ 1 err bad _ (by omega) _ R).mono ?_; rintro e w' ⟨rfl, rfl⟩))
    go_ret2
    rw [hfin.out]
    exact ⟨rfl, Below.refl _ _⟩
set_option maxRecDepth 100000 in
set_option maxHeartbeats 4000000 in
theorem rbold2_c (g : Nat) (s : ByteArray) (at_ err bad : Int) (i : Nat) (hi : i ≤ s.size) (hs : s.size ≤ 140737488355328) (w : World) (H : RefR w g s at_ 2 err bad) :
    Calls Tryz.prog 149 #[.pointer (some ⟨g, 0, none⟩), .int .i64 (i : Int)] w fun e w' => e = boldE i (Sp.bold 2 ((bs s).drop i)) ∧ Below w.heap.size w w' := by
  have R := H
  obtain ⟨c0, c1, c2, c4, c5⟩ := H
  have H := R
  by_cases h1 : bat s i = 39
  · have e1 := byte_nn _ 39 39 rfl h1
    cases h2 : Sp.letter 2 (bat s (i + 1)) with
    | false =>
      have hfin := Lib.hid (boldr_no 2 (by decide) s i (.inr h2))
      clear h1
      go_enter Tryz.func149, Tryz.ntmps149
      go_wp2_with (first
        | (go_at_call 153; first
            | (refine (rat_i i g s at_ 2 err bad _ (by omega) _ R).mono ?_; rintro e w' ⟨rfl, rfl⟩)
            | (refine (rat_i (i + 1) g s at_ 2 err bad _ (by omega) _ R).mono ?_; rintro e w' ⟨rfl, rfl⟩))
        | (go_at_call 155; refine (rletter_c g s at_ 2 err bad (by decide) _ _ R).mono ?_; rw [show ((2 : Int).toNat) = 2 from rfl, h2]; rintro e w' ⟨rfl, rfl⟩))
      go_ret2
      rw [hfin.out]
      exact ⟨rfl, Below.refl _ _⟩
    | true =>
      have hfin := Lib.hid (boldr_at 2 (by decide) s i h1 h2)
      have hlt0 : i + 1 < s.size := bat_lt s _ (by intro h0; rw [h0, letter_zero] at h2; cases h2)
      generalize hF : i + 1 = F at *
      have HF := Lib.hid hF
      clear h1 hF
      go_enter Tryz.func149, Tryz.ntmps149
      go_wp2_with (first
        | (go_at_call 153; first
            | (refine (rat_i i g s at_ 2 err bad _ (by omega) _ R).mono ?_; rintro e w' ⟨rfl, rfl⟩)
            | (refine (rat_i F g s at_ 2 err bad _ (by have := HF.out; omega) _ R).mono ?_; rintro e w' ⟨rfl, rfl⟩))
        | (go_at_call 155; refine (rletter_c g s at_ 2 err bad (by decide) _ _ R).mono ?_; rw [show ((2 : Int).toNat) = 2 from rfl, h2]; rintro e w' ⟨rfl, rfl⟩))
      go_loop [7] (fun t => ∃ k : Nat, k ≤ s.size ∧ F ≤ k ∧ t = .int .i64 k ∧ Hid (F + Sp.run Sp.alnum ((bs s).drop F) = k + Sp.run Sp.alnum ((bs s).drop k))) (fun t => s.size - (intOf t).toNat)
      case atStart => exact ⟨F, by omega, Nat.le_refl _, congrArg (Value.int .i64) (by have := HF.out; omega), Lib.hid rfl⟩
      case round =>
        obtain ⟨k, hk, hFk, rfl, hh⟩ := hrel
        have hb := Lib.hid (run_bat Sp.alnum (by decide) s k)
        have ha := Lib.hid (letter_alnum 2 (by decide) (bat s k))
        have hlt : (Sp.letter 2 (bat s k) || Sp.digit (bat s k)) = true → k < s.size := fun h => bat_lt s _ (by intro h0; rw [h0, letter_zero] at h; revert h; decide)
        clear h2
        cases hc : Sp.letter 2 (bat s k) with
        | true =>
          have hlt := hlt (by rw [hc]; rfl)
          go_wp2_with (first
            | (go_at_call 153; refine (rat_i k g s at_ 2 err bad _ (by omega) _ R).mono ?_; rintro e w' ⟨rfl, rfl⟩)
            | (go_at_call 155; refine (rletter_c g s at_ 2 err bad (by decide) _ _ R).mono ?_; rw [show ((2 : Int).toNat) = 2 from rfl, hc]; rintro e w' ⟨rfl, rfl⟩))
          go_round
          case rel => exact ⟨k + 1, by omega, by omega, by go_num, Lib.hid (by rw [hh.out, hb.out, if_pos (by rw [← ha.out, hc]; rfl)]; omega)⟩
          case measure => simp [intOf]; omega
        | false =>
          cases hd : Sp.digit (bat s k) with
          | true =>
            have hlt := hlt (by rw [hd]; cases Sp.letter 2 (bat s k) <;> rfl)
            go_wp2_with (first
              | (go_at_call 153; refine (rat_i k g s at_ 2 err bad _ (by omega) _ R).mono ?_; rintro e w' ⟨rfl, rfl⟩)
              | (go_at_call 155; refine (rletter_c g s at_ 2 err bad (by decide) _ _ R).mono ?_; rw [show ((2 : Int).toNat) = 2 from rfl, hc]; rintro e w' ⟨rfl, rfl⟩)
              | (go_at_call 152; refine (rdigit_c _ _).mono ?_; rw [hd]; rintro e w' ⟨rfl, rfl⟩))
            go_round
            case rel => exact ⟨k + 1, by omega, by omega, by go_num, Lib.hid (by rw [hh.out, hb.out, if_pos (by rw [← ha.out, hc, hd]; rfl)]; omega)⟩
            case measure => simp [intOf]; omega
          | false =>
            have hend := Lib.hid (show Sp.run Sp.alnum ((bs s).drop F) = k - F from by
              have h1 := hh.out
              rw [hb.out, if_neg (by rw [← ha.out, hc, hd]; decide)] at h1
              omega)
            clear hlt
            by_cases hq : bat s k = 39
            · have Hq := Lib.hid hq
              have e2 := byte_nn _ 39 39 rfl hq
              clear hq
              go_wp2_with (first
                | (go_at_call 153; refine (rat_i k g s at_ 2 err bad _ (by omega) _ R).mono ?_; rintro e w' ⟨rfl, rfl⟩)
                | (go_at_call 155; refine (rletter_c g s at_ 2 err bad (by decide) _ _ R).mono ?_; rw [show ((2 : Int).toNat) = 2 from rfl, hc]; rintro e w' ⟨rfl, rfl⟩)
                | (go_at_call 152; refine (rdigit_c _ _).mono ?_; rw [hd]; rintro e w' ⟨rfl, rfl⟩))
              go_loopw [8, 9] (fun x t wr => ∃ (j : Nat) (l : List UInt8), F ≤ j ∧ j ≤ k ∧ t = .int .i64 j ∧ x = .string ⟨l.toArray⟩ ∧ l.length ≤ j ∧ Below w.heap.size w wr ∧ Hid (l = (((bs s).drop F).take (j - F)).map Sp.up)) (fun _ t _ => k - (intOf t).toNat)
              case atStart => exact ⟨F, [], Nat.le_refl _, hFk, congrArg (Value.int .i64) (by have := HF.out; omega), rfl, by simp, Below.refl _ _, Lib.hid (by rw [Nat.sub_self]; rfl)⟩
              case round =>
                obtain ⟨j, l, hFj, hjk, rfl, rfl, hll, hB, hl⟩ := hrel
                have H2 := H.later hB
                clear c0 c1 c2 c4 c5
                obtain ⟨c0, c1, c2, c4, c5⟩ := H2
                by_cases hlt : j < k
                · have hjs : j < s.size := by omega
                  have hcv := one_byte wr _ (Sp.up s[j]) rfl
                  have hcat := Lib.hid (bcat l [Sp.up s[j]])
                  have hmid := Lib.hid (mid_snoc s F j hjs hFj)
                  have hxs : l.length + 1 ≤ 9223372036854775807 := by omega
                  go_wp2_with (go_at_call 217; refine (rraise_c _ _).mono ?_; rintro e w' ⟨rfl, rfl⟩)
                  go_roundw
                  case rel =>
                    refine ⟨j + 1, l ++ [Sp.up s[j]], by omega, by omega, by go_num, by rw [hcat.out], by simp; omega, below_alloc0 hB _, Lib.hid ?_⟩
                    rw [← hmid.out, List.map_append, ← hl.out]; rfl
                  case measure => simp [intOf]; omega
                · have hjk2 : k = j := by omega
                  subst hjk2
                  go_wp2
                  go_ret2
                  refine ⟨?_, hB⟩
                  rw [hfin.out, if_pos (by decide), hend.out, if_pos (by rw [show F + (k - F) = k by omega, Hq.out]; rfl), ← hl.out]
                  unfold boldE
                  dsimp only
                  rw [show ((i + (k - F + 2) : Nat) : Int) = (k : Int) + 1 by have := HF.out; omega]
                  first | rfl | skip
            · have e2 := byte_ne _ 39 39 rfl hq
              have hfin2 := Lib.hid (show Sp.bold 2 ((bs s).drop i) = none from by
                rw [hfin.out, if_pos (by decide), hend.out, if_neg]
                rw [show F + (k - F) = k by omega, beq_iff_eq]
                exact hq)
              clear hq
              go_wp2_with (first
                | (go_at_call 153; refine (rat_i k g s at_ 2 err bad _ (by omega) _ R).mono ?_; rintro e w' ⟨rfl, rfl⟩)
                | (go_at_call 155; refine (rletter_c g s at_ 2 err bad (by decide) _ _ R).mono ?_; rw [show ((2 : Int).toNat) = 2 from rfl, hc]; rintro e w' ⟨rfl, rfl⟩)
                | (go_at_call 152; refine (rdigit_c _ _).mono ?_; rw [hd]; rintro e w' ⟨rfl, rfl⟩))
              go_ret2
              rw [hfin2.out]
              exact ⟨rfl, Below.refl _ _⟩
  · have e1 := byte_ne _ 39 39 rfl h1
    have hfin := Lib.hid (boldr_no 2 (by decide) s i (.inl h1))
    clear h1
    go_enter Tryz.func149, Tryz.ntmps149
    go_wp2_with (first
      | (go_at_call 153; refine (rat_i i g s at_ 2 err bad _ (by omega) _ R).mono ?_; rintro e w' ⟨rfl, rfl⟩))
    go_ret2
    rw [hfin.out]
    exact ⟨rfl, Below.refl _ _⟩
theorem rbold_i (n g : Nat) (s : ByteArray) (at_ rg err bad : Int) (h0 : 0 ≤ rg) (h2 : rg ≤ 2) (i : Int) (hn : i = n) (hi : n ≤ s.size) (hs : s.size ≤ 140737488355328) (w : World) (H : RefR w g s at_ rg err bad) :
    Calls Tryz.prog 149 #[.pointer (some ⟨g, 0, none⟩), .int .i64 i] w fun e w' => e = boldE n (Sp.bold rg.toNat ((bs s).drop n)) ∧ Below w.heap.size w w' := by
  subst hn
  obtain rfl | rfl | rfl : rg = 0 ∨ rg = 1 ∨ rg = 2 := by omega
  · exact rbold0_c g s at_ err bad n hi hs w H
  · exact rbold1_c g s at_ err bad n hi hs w H
  · exact rbold2_c g s at_ err bad n hi hs w H
end Go.Proofs.YtjghijeblddijaaGreatDoor
namespace Go.Proofs.YtjghijeblddijaaGreatDoor
open Go.RowKit
namespace Sp
def lstrip (l : List UInt8) : List UInt8 := l.dropWhile blank
def rstrip (l : List UInt8) : List UInt8 := (l.reverse.dropWhile blank).reverse
theorem rstrip_cons (c : UInt8) (t : List UInt8) : rstrip (c :: t) = if rstrip t = [] then (if blank c then [] else [c]) else c :: rstrip t := by
  unfold rstrip
  rw [List.reverse_cons, List.dropWhile_append]
  cases h : (t.reverse.dropWhile blank) with
  | nil =>
    cases hb : blank c <;> simp [List.dropWhile, hb]
  | cons a u => simp
theorem rstrip_snoc (c : UInt8) (t : List UInt8) : rstrip (t ++ [c]) = if blank c then rstrip t else t ++ [c] := by
  unfold rstrip
  rw [List.reverse_append, List.reverse_singleton, List.singleton_append, List.dropWhile_cons]
  split <;> simp
theorem strips (l : List UInt8) : rstrip (lstrip l) = lstrip (rstrip l) := by
  induction l with
  | nil => rfl
  | cons c t ih =>
    have h1 : lstrip (c :: t) = if blank c then lstrip t else c :: t := by unfold lstrip; rw [List.dropWhile_cons]
    rw [h1, rstrip_cons]
    cases hb : blank c with
    | true =>
      simp only [if_true]
      rw [ih]
      split
      · rename_i h; rw [h]
      · unfold lstrip; rw [List.dropWhile_cons, if_pos hb]
    | false =>
      simp only [Bool.false_eq_true, if_false]
      rw [rstrip_cons, hb]
      split
      · unfold lstrip; simp [List.dropWhile, hb]
      · unfold lstrip; simp [List.dropWhile, hb]
theorem blank_low (c : UInt8) : blank (low c) = blank c := by
  rw [Bool.eq_iff_iff, blank_iff, blank_iff, low_int]
  split
  · rename_i h; rw [capital_iff] at h; omega
  · exact Iff.rfl
theorem lstrip_map (l : List UInt8) : lstrip (l.map low) = (lstrip l).map low := by
  induction l with
  | nil => rfl
  | cons c t ih =>
    unfold lstrip at ih ⊢
    rw [List.map_cons, List.dropWhile_cons, List.dropWhile_cons, blank_low]
    split
    · exact ih
    · rfl
theorem rstrip_map (l : List UInt8) : rstrip (l.map low) = (rstrip l).map low := by
  unfold rstrip
  have h := lstrip_map l.reverse
  unfold lstrip at h
  rw [← List.map_reverse, h, List.map_reverse]
theorem trim_map (l : List UInt8) : rstrip (lstrip (l.map low)) = (trim l).map low := by
  rw [lstrip_map, rstrip_map, strips]; rfl
def regOf (r : Nat) (w : List UInt8) : Nat := if w = UPPER then 0 else if w = POINT then 1 else if w = QUOTE then 2 else r
theorem regOf_trim (r : Nat) (l : List UInt8) : regimeOf r l = regOf r ((trim l).map low) := rfl
end Sp
theorem rblank_f (c : UInt8) (h : Sp.blank c = false) (w : World) :
    Calls Tryz.prog 145 #[.int .u8 (c.toNat : Int)] w fun e w' => e = .returned (.bool false) ∧ w = w' := by
  rw [← h]; exact rblank_c c w
def sLen : Value → Nat
  | .string t => t.size
  | _ => 0
set_option maxRecDepth 100000 in
set_option maxHeartbeats 4000000 in
theorem rregime_c (B g : Nat) (s : ByteArray) (at_ rg : Int) (h0 : 0 ≤ rg) (out : List Sp.Sym) (A : Option Addr) (c : Nat) (err bad : Int) (text : ByteArray) (ht : text.size ≤ 1000000000) (w : World) (H : Ref B w g s at_ rg out A c err bad) :
    Calls Tryz.prog 216 #[.pointer (some ⟨g, 0, none⟩), .string text] w fun e w' => e = .returned (.tuple #[]) ∧ Ref B w' g s at_ (Sp.regimeOf rg.toNat (bs text) : Int) out A c err bad ∧ Below B w w' := by
  have hBw : B ≤ w.heap.size := Nat.le_trans H.base (Nat.le_of_lt H.lt)
  have hfin := Lib.hid (Sp.regOf_trim rg.toNat (bs text))
  obtain ⟨c0, c1, c2, c4, c5⟩ := H.R
  go_enter Tryz.func216, Tryz.ntmps216
  go_wp2
  go_loopw [4, 5] (fun x t wr => ∃ (k : Nat) (l : List UInt8), k ≤ text.size ∧ t = .int .i64 k ∧ x = .string ⟨l.toArray⟩ ∧ l.length ≤ k ∧ Below w.heap.size w wr ∧ Hid (l = ((bs text).take k).map Sp.low)) (fun _ t _ => text.size - (intOf t).toNat)
  case atStart => exact ⟨0, [], by omega, rfl, rfl, by simp, Below.refl _ _, Lib.hid rfl⟩
  case round =>
    obtain ⟨k, l, hk, rfl, rfl, hll, hB, hh⟩ := hrel
    by_cases hlt : k < text.size
    · have hcv := one_byte wr _ (Sp.low text[k]) rfl
      have hcat := Lib.hid (bcat l [Sp.low text[k]])
      have hts := Lib.hid (take_snoc text k hlt)
      have hxs : l.length + 1 ≤ 9223372036854775807 := by omega
      go_wp2_with (go_at_call 128; refine (rlower_c _ _).mono ?_; rintro e w' ⟨rfl, rfl⟩)
      go_roundw
      case rel =>
        refine ⟨k + 1, l ++ [Sp.low text[k]], by omega, by go_num, by rw [hcat.out], by simp; omega, below_alloc0 hB _, Lib.hid ?_⟩
        rw [hts.out, List.map_append, ← hh.out]; rfl
      case measure => simp [intOf]; omega
    · have hh2 : Hid (l = (bs text).map Sp.low) := Lib.hid (by have h := hh.out; rw [List.take_of_length_le (by rw [bs_length]; omega)] at h; exact h)
      have hlb : l.length ≤ 1000000000 := by omega
      have H1 := H.later hB
      clear c0 c1 c2 c4 c5
      obtain ⟨c0, c1, c2, c4, c5⟩ := H1.R
      clear hh
      go_wp2
      go_loop [4] (fun x => ∃ y : ByteArray, x = .string y ∧ y.size ≤ 1000000000 ∧ Hid (Sp.lstrip (bs y) = Sp.lstrip l)) sLen
      case atStart => exact ⟨_, rfl, hlb, Lib.hid rfl⟩
      case round =>
        obtain ⟨y, rfl, hy, hyy⟩ := hrel
        by_cases hyb : ∃ h : 0 < y.size, Sp.blank y[0] = true
        · obtain ⟨hy0, hb⟩ := hyb
          have hd := Lib.hid (bs_drop y 0 hy0)
          have hex := Lib.hid (bs_extract y 1 y.size)
          have hexs : (y.extract 1 y.size).size = y.size - 1 := by simp
          go_wp2_with (go_at_call 145; refine (rblank_c _ _).mono ?_; rw [hb]; rintro e w' ⟨rfl, rfl⟩)
          go_round
          case rel =>
            refine ⟨_, rfl, by omega, Lib.hid ?_⟩
            rw [hex.out, ← hyy.out, List.take_of_length_le (by rw [List.length_drop, bs_length]; omega)]
            have h := hd.out
            rw [List.drop_zero] at h
            rw [h]
            unfold Sp.lstrip
            rw [List.dropWhile_cons, if_pos hb]
            rfl
          case measure => simp [sLen]; omega
        · have hst : Hid (bs y = Sp.lstrip l) := Lib.hid (by
            rw [← hyy.out]
            by_cases h0 : 0 < y.size
            · have hb : Sp.blank y[0] = false := by
                cases hb : Sp.blank y[0]
                · rfl
                · exact absurd ⟨h0, hb⟩ hyb
              have h := bs_drop y 0 h0
              rw [List.drop_zero] at h
              rw [h]
              unfold Sp.lstrip
              rw [List.dropWhile_cons, if_neg (by rw [hb]; decide)]
            · have h : bs y = [] := by
                have := bs_length y
                exact List.eq_nil_of_length_eq_zero (by omega)
              rw [h]; rfl)
          have hcase : (¬ 0 < y.size) ∨ (∃ h : 0 < y.size, Sp.blank y[0] = false) := by
            by_cases h0 : 0 < y.size
            · refine .inr ⟨h0, ?_⟩
              cases hb : Sp.blank y[0]
              · rfl
              · exact absurd ⟨h0, hb⟩ hyb
            · exact .inl h0
          clear hyb hyy
          rcases hcase with hy0 | ⟨hy0, hb⟩
          · go_wp2
            go_loop [4] (fun x => ∃ z : ByteArray, x = .string z ∧ z.size ≤ 1000000000 ∧ Hid (Sp.rstrip (bs z) = Sp.rstrip (bs y))) sLen
            case atStart => exact ⟨_, rfl, hy, Lib.hid rfl⟩
            case round =>
              obtain ⟨z, rfl, hz, hzz⟩ := hrel
              by_cases hzb : ∃ h : 0 < z.size, Sp.blank z[z.size - 1] = true
              · obtain ⟨hz0, hb⟩ := hzb
                have hts := Lib.hid (take_snoc z (z.size - 1) (by omega))
                have hex := Lib.hid (bs_extract z 0 (z.size - 1))
                have hexs : (z.extract 0 (z.size - 1)).size = z.size - 1 := by simp
                have hzi : ((z.size - 1 : Nat) : Int) = (z.size : Int) - 1 := by omega
                go_wp2_with (go_at_call 145; refine (rblank_c _ _).mono ?_; rw [hb]; rintro e w' ⟨rfl, rfl⟩)
                go_round
                case rel =>
                  refine ⟨_, rfl, by omega, Lib.hid ?_⟩
                  rw [hex.out, ← hzz.out, List.drop_zero, Nat.sub_zero]
                  have h := hts.out
                  rw [show z.size - 1 + 1 = z.size from by omega, List.take_of_length_le (by rw [bs_length]; omega)] at h
                  have key : Sp.rstrip (bs z) = Sp.rstrip ((bs z).take (z.size - 1)) := by conv => lhs; rw [h, Sp.rstrip_snoc, if_pos hb]
                  exact key.symm
                case measure => simp [sLen]; omega
              · have hst : Hid (bs z = (Sp.trim (bs text)).map Sp.low) := Lib.hid (by
                  rw [← Sp.trim_map, ← hh2.out, ← hst.out, ← hzz.out]
                  by_cases h0 : 0 < z.size
                  · have hb : Sp.blank z[z.size - 1] = false := by
                      cases hb : Sp.blank z[z.size - 1]
                      · rfl
                      · exact absurd ⟨h0, hb⟩ hzb
                    have h := take_snoc z (z.size - 1) (by omega)
                    rw [show z.size - 1 + 1 = z.size from by omega, List.take_of_length_le (by rw [bs_length]; omega)] at h
                    rw [h, Sp.rstrip_snoc, if_neg (by rw [hb]; decide)]
                  · have h : bs z = [] := by
                      have := bs_length z
                      exact List.eq_nil_of_length_eq_zero (by omega)
                    rw [h]; rfl)
                have hcase : (¬ 0 < z.size) ∨ (∃ h : 0 < z.size, Sp.blank z[z.size - 1] = false) := by
                  by_cases h0 : 0 < z.size
                  · refine .inr ⟨h0, ?_⟩
                    cases hb : Sp.blank z[z.size - 1]
                    · rfl
                    · exact absurd ⟨h0, hb⟩ hzb
                  · exact .inl h0
                clear hzb hzz
                have f2 := free_of_blk H1.blk 2
                have hB2 : Below B w wr := hB.mono hBw
                have HB2 := Lib.hid hB2
                clear hB2
                rcases hcase with hz0 | ⟨hz0, hb⟩
                · have hz1 : Hid (Sp.regOf rg.toNat (bs z) = rg.toNat) := Lib.hid (by
                    have h : bs z = [] := by
                      have := bs_length z
                      exact List.eq_nil_of_length_eq_zero (by omega)
                    rw [h]; rfl)
                  have hz2 : z = ⟨#[]⟩ := by
                    have h : bs z = [] := by
                      have := bs_length z
                      exact List.eq_nil_of_length_eq_zero (by omega)
                    rw [← of_bs z, h]
                  subst hz2
                  go_wp2
                  go_end0
                  refine ⟨rfl, ?_, HB2.out⟩
                  rw [hfin.out, ← hst.out, hz1.out, Int.toNat_of_nonneg h0]
                  exact H1
                · have hst2 : Hid (Sp.regimeOf rg.toNat (bs text) = Sp.regOf rg.toNat z.toList) := Lib.hid (by rw [hfin.out, ← hst.out, toList_bs])
                  clear hst
                  have hcs : ((z.toList == Sp.UPPER) = true ∧ Hid (Sp.regOf rg.toNat z.toList = 0)) ∨ ((z.toList == Sp.UPPER) = false ∧ (z.toList == Sp.POINT) = true ∧ Hid (Sp.regOf rg.toNat z.toList = 1)) ∨ ((z.toList == Sp.UPPER) = false ∧ (z.toList == Sp.POINT) = false ∧ (z.toList == Sp.QUOTE) = true ∧ Hid (Sp.regOf rg.toNat z.toList = 2)) ∨ ((z.toList == Sp.UPPER) = false ∧ (z.toList == Sp.POINT) = false ∧ (z.toList == Sp.QUOTE) = false ∧ Hid (Sp.regOf rg.toNat z.toList = rg.toNat)) := by
                    unfold Sp.regOf
                    by_cases h1 : z.toList = Sp.UPPER
                    · exact .inl ⟨beq_iff_eq.2 h1, Lib.hid (by rw [if_pos h1])⟩
                    · by_cases h2 : z.toList = Sp.POINT
                      · exact .inr (.inl ⟨beq_eq_false_iff_ne.2 h1, beq_iff_eq.2 h2, Lib.hid (by rw [if_neg h1, if_pos h2])⟩)
                      · by_cases h3 : z.toList = Sp.QUOTE
                        · exact .inr (.inr (.inl ⟨beq_eq_false_iff_ne.2 h1, beq_eq_false_iff_ne.2 h2, beq_iff_eq.2 h3, Lib.hid (by rw [if_neg h1, if_neg h2, if_pos h3])⟩))
                        · exact .inr (.inr (.inr ⟨beq_eq_false_iff_ne.2 h1, beq_eq_false_iff_ne.2 h2, beq_eq_false_iff_ne.2 h3, Lib.hid (by rw [if_neg h1, if_neg h2, if_neg h3])⟩))
                  unfold Sp.UPPER Sp.POINT Sp.QUOTE at hcs
                  rcases hcs with ⟨q1, hq⟩ | ⟨q1, q2, hq⟩ | ⟨q1, q2, q3, hq⟩ | ⟨q1, q2, q3, hq⟩
                  all_goals
                    go_wp2_with (go_at_call 145; refine (rblank_c _ _).mono ?_; rw [hb]; rintro e w' ⟨rfl, rfl⟩)
                    go_end0
                    refine ⟨rfl, ?_, by first | exact HB2.out | exact HB2.out.setCell H.base _⟩
                    rw [hst2.out, hq.out]
                    first | exact H1.setRg _ | (rw [Int.toNat_of_nonneg h0]; exact H1)
          · go_wp2_with (go_at_call 145; refine (rblank_c _ _).mono ?_; rw [hb]; rintro e w' ⟨rfl, rfl⟩)
            go_loop [4] (fun x => ∃ z : ByteArray, x = .string z ∧ z.size ≤ 1000000000 ∧ Hid (Sp.rstrip (bs z) = Sp.rstrip (bs y))) sLen
            case atStart => exact ⟨_, rfl, hy, Lib.hid rfl⟩
            case round =>
              obtain ⟨z, rfl, hz, hzz⟩ := hrel
              by_cases hzb : ∃ h : 0 < z.size, Sp.blank z[z.size - 1] = true
              · obtain ⟨hz0, hb⟩ := hzb
                have hts := Lib.hid (take_snoc z (z.size - 1) (by omega))
                have hex := Lib.hid (bs_extract z 0 (z.size - 1))
                have hexs : (z.extract 0 (z.size - 1)).size = z.size - 1 := by simp
                have hzi : ((z.size - 1 : Nat) : Int) = (z.size : Int) - 1 := by omega
                go_wp2_with (go_at_call 145; refine (rblank_c _ _).mono ?_; rw [hb]; rintro e w' ⟨rfl, rfl⟩)
                go_round
                case rel =>
                  refine ⟨_, rfl, by omega, Lib.hid ?_⟩
                  rw [hex.out, ← hzz.out, List.drop_zero, Nat.sub_zero]
                  have h := hts.out
                  rw [show z.size - 1 + 1 = z.size from by omega, List.take_of_length_le (by rw [bs_length]; omega)] at h
                  have key : Sp.rstrip (bs z) = Sp.rstrip ((bs z).take (z.size - 1)) := by conv => lhs; rw [h, Sp.rstrip_snoc, if_pos hb]
                  exact key.symm
                case measure => simp [sLen]; omega
              · have hst : Hid (bs z = (Sp.trim (bs text)).map Sp.low) := Lib.hid (by
                  rw [← Sp.trim_map, ← hh2.out, ← hst.out, ← hzz.out]
                  by_cases h0 : 0 < z.size
                  · have hb : Sp.blank z[z.size - 1] = false := by
                      cases hb : Sp.blank z[z.size - 1]
                      · rfl
                      · exact absurd ⟨h0, hb⟩ hzb
                    have h := take_snoc z (z.size - 1) (by omega)
                    rw [show z.size - 1 + 1 = z.size from by omega, List.take_of_length_le (by rw [bs_length]; omega)] at h
                    rw [h, Sp.rstrip_snoc, if_neg (by rw [hb]; decide)]
                  · have h : bs z = [] := by
                      have := bs_length z
                      exact List.eq_nil_of_length_eq_zero (by omega)
                    rw [h]; rfl)
                have hcase : (¬ 0 < z.size) ∨ (∃ h : 0 < z.size, Sp.blank z[z.size - 1] = false) := by
                  by_cases h0 : 0 < z.size
                  · refine .inr ⟨h0, ?_⟩
                    cases hb : Sp.blank z[z.size - 1]
                    · rfl
                    · exact absurd ⟨h0, hb⟩ hzb
                  · exact .inl h0
                clear hzb hzz
                have f2 := free_of_blk H1.blk 2
                have hB2 : Below B w wr := hB.mono hBw
                have HB2 := Lib.hid hB2
                clear hB2
                rcases hcase with hz0 | ⟨hz0, hb⟩
                · have hz1 : Hid (Sp.regOf rg.toNat (bs z) = rg.toNat) := Lib.hid (by
                    have h : bs z = [] := by
                      have := bs_length z
                      exact List.eq_nil_of_length_eq_zero (by omega)
                    rw [h]; rfl)
                  have hz2 : z = ⟨#[]⟩ := by
                    have h : bs z = [] := by
                      have := bs_length z
                      exact List.eq_nil_of_length_eq_zero (by omega)
                    rw [← of_bs z, h]
                  subst hz2
                  go_wp2
                  go_end0
                  refine ⟨rfl, ?_, HB2.out⟩
                  rw [hfin.out, ← hst.out, hz1.out, Int.toNat_of_nonneg h0]
                  exact H1
                · have hst2 : Hid (Sp.regimeOf rg.toNat (bs text) = Sp.regOf rg.toNat z.toList) := Lib.hid (by rw [hfin.out, ← hst.out, toList_bs])
                  clear hst
                  have hcs : ((z.toList == Sp.UPPER) = true ∧ Hid (Sp.regOf rg.toNat z.toList = 0)) ∨ ((z.toList == Sp.UPPER) = false ∧ (z.toList == Sp.POINT) = true ∧ Hid (Sp.regOf rg.toNat z.toList = 1)) ∨ ((z.toList == Sp.UPPER) = false ∧ (z.toList == Sp.POINT) = false ∧ (z.toList == Sp.QUOTE) = true ∧ Hid (Sp.regOf rg.toNat z.toList = 2)) ∨ ((z.toList == Sp.UPPER) = false ∧ (z.toList == Sp.POINT) = false ∧ (z.toList == Sp.QUOTE) = false ∧ Hid (Sp.regOf rg.toNat z.toList = rg.toNat)) := by
                    unfold Sp.regOf
                    by_cases h1 : z.toList = Sp.UPPER
                    · exact .inl ⟨beq_iff_eq.2 h1, Lib.hid (by rw [if_pos h1])⟩
                    · by_cases h2 : z.toList = Sp.POINT
                      · exact .inr (.inl ⟨beq_eq_false_iff_ne.2 h1, beq_iff_eq.2 h2, Lib.hid (by rw [if_neg h1, if_pos h2])⟩)
                      · by_cases h3 : z.toList = Sp.QUOTE
                        · exact .inr (.inr (.inl ⟨beq_eq_false_iff_ne.2 h1, beq_eq_false_iff_ne.2 h2, beq_iff_eq.2 h3, Lib.hid (by rw [if_neg h1, if_neg h2, if_pos h3])⟩))
                        · exact .inr (.inr (.inr ⟨beq_eq_false_iff_ne.2 h1, beq_eq_false_iff_ne.2 h2, beq_eq_false_iff_ne.2 h3, Lib.hid (by rw [if_neg h1, if_neg h2, if_neg h3])⟩))
                  unfold Sp.UPPER Sp.POINT Sp.QUOTE at hcs
                  rcases hcs with ⟨q1, hq⟩ | ⟨q1, q2, hq⟩ | ⟨q1, q2, q3, hq⟩ | ⟨q1, q2, q3, hq⟩
                  all_goals
                    go_wp2_with (go_at_call 145; refine (rblank_c _ _).mono ?_; rw [hb]; rintro e w' ⟨rfl, rfl⟩)
                    go_end0
                    refine ⟨rfl, ?_, by first | exact HB2.out | exact HB2.out.setCell H.base _⟩
                    rw [hst2.out, hq.out]
                    first | exact H1.setRg _ | (rw [Int.toNat_of_nonneg h0]; exact H1)
end Go.Proofs.YtjghijeblddijaaGreatDoor
