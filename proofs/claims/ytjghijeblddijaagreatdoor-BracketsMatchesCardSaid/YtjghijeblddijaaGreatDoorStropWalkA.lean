/- Walks: the byte tests, blanks, run, byte. -/
import Derived.Test.YtjghijeblddijaaGreatDoorStropKit
namespace Go.Proofs.YtjghijeblddijaaGreatDoor
open Go.RowKit

theorem blank_c (c : UInt8) (w : World) :
    Calls Tryz.prog 131 #[.int .u8 (c.toNat : Int)] w fun e w' => e = .returned (.bool (Sp.blank c)) ∧ w = w' := by
  go_enter Tryz.func131, Tryz.ntmps131
  go_wp2
  all_goals (go_ret; exact ⟨ret_bool (by rw [Sp.blank_iff]; first | (simp; omega) | simp; done), rfl⟩)
theorem capital_c (c : UInt8) (w : World) :
    Calls Tryz.prog 200 #[.int .u8 (c.toNat : Int)] w fun e w' => e = .returned (.bool (Sp.capital c)) ∧ w = w' := by
  go_enter Tryz.func200, Tryz.ntmps200
  go_wp2
  all_goals (go_ret; exact ⟨ret_bool (by rw [Sp.capital_iff]; simp; omega), rfl⟩)
theorem small_c (c : UInt8) (w : World) :
    Calls Tryz.prog 199 #[.int .u8 (c.toNat : Int)] w fun e w' => e = .returned (.bool (Sp.small c)) ∧ w = w' := by
  go_enter Tryz.func199, Tryz.ntmps199
  go_wp2
  all_goals (go_ret; exact ⟨ret_bool (by rw [Sp.small_iff]; simp; omega), rfl⟩)
theorem digit_c (c : UInt8) (w : World) :
    Calls Tryz.prog 137 #[.int .u8 (c.toNat : Int)] w fun e w' => e = .returned (.bool (Sp.digit c)) ∧ w = w' := by
  go_enter Tryz.func137, Tryz.ntmps137
  go_wp2
  all_goals (go_ret; exact ⟨ret_bool (by rw [Sp.digit_iff]; simp; omega), rfl⟩)
theorem permitted_c (c : UInt8) (w : World) :
    Calls Tryz.prog 197 #[.int .u8 (c.toNat : Int)] w fun e w' => e = .returned (.bool (Sp.permitted c)) ∧ w = w' := by
  go_enter Tryz.func197, Tryz.ntmps197
  go_wp2_with (go_at_call 131; refine (blank_c _ _).mono ?_; rintro e w' ⟨rfl, rfl⟩)
  all_goals (go_ret; exact ⟨ret_bool (by rw [Sp.permitted_iff]; simp [*] <;> omega), rfl⟩)
theorem low_c (c : UInt8) (w : World) :
    Calls Tryz.prog 203 #[.int .u8 (c.toNat : Int)] w fun e w' => e = .returned (.int .u8 ((Sp.low c).toNat : Int)) ∧ w = w' := by
  have hl := Lib.hid (Sp.low_int c)
  have hc := Lib.hid (Sp.capital_iff c)
  go_enter Tryz.func203, Tryz.ntmps203
  go_wp2_with (go_at_call 200; refine (capital_c _ _).mono ?_; rintro e w' ⟨rfl, rfl⟩)
  · go_ret
    have h : Sp.capital c = true := by assumption
    have := hc.out.1 h
    exact ⟨ret_int (by rw [hl.out, if_pos h]; omega), rfl⟩
  · go_ret
    have h : Sp.capital c = false := by assumption
    exact ⟨ret_int (by rw [hl.out, if_neg (by simp [h])]), rfl⟩
theorem stop_c (p : Value) (at_ c : Int) (w : World) :
    Calls Tryz.prog 144 #[p, .int .i64 at_, .int .i64 c] w fun e w' => e = .panicked (flt at_ c) ∧ w = w' := by
  go_enter Tryz.func144, Tryz.ntmps144
  go_wp2
  exact ⟨rfl, rfl, rfl⟩
theorem letter_c (g : Nat) (s : ByteArray) (at_ rg : Int) (hr : 0 ≤ rg) (c : UInt8) (w : World) (H : ScnR w g s at_ rg) :
    Calls Tryz.prog 135 #[.pointer (some ⟨g, 0, none⟩), .int .u8 (c.toNat : Int)] w fun e w' => e = .returned (.bool (Sp.letter rg.toNat c)) ∧ w = w' := by
  obtain ⟨c0, c1, c2⟩ := H
  go_enter Tryz.func135, Tryz.ntmps135
  go_wp2_with (first | (go_at_call 199; refine (small_c _ _).mono ?_; rintro e w' ⟨rfl, rfl⟩) | (go_at_call 200; refine (capital_c _ _).mono ?_; rintro e w' ⟨rfl, rfl⟩))
  all_goals (go_ret; exact ⟨ret_bool (by rw [Sp.letter_iff _ hr]; simp_all), rfl⟩)

theorem blanks_c (g : Nat) (s : ByteArray) (at_ rg : Int) (i : Nat) (hi : i ≤ s.size) (hs : s.size ≤ maxLen) (w : World) (H : ScnR w g s at_ rg) :
    Calls Tryz.prog 80 #[.pointer (some ⟨g, 0, none⟩), .int .i64 (i : Int)] w fun e w' =>
      e = .returned (.int .i64 ((i + Sp.bl ((bs s).drop i) : Nat) : Int)) ∧ w = w' := by
  unfold maxLen at hs
  obtain ⟨c0, c1, c2⟩ := H
  go_enter Tryz.func80, Tryz.ntmps80
  go_wp2
  go_loop [1] (fun t => ∃ k : Nat, k ≤ s.size ∧ t = .int .i64 k ∧ Hid (i + Sp.bl ((bs s).drop i) = k + Sp.bl ((bs s).drop k))) (fun t => s.size - (intOf t).toNat)
  case atStart => exact ⟨i, hi, rfl, Lib.hid rfl⟩
  case round =>
    obtain ⟨k, hk, rfl, hh⟩ := hrel
    by_cases hlt : k < s.size
    · have hb := Lib.hid (bl_drop s k hlt)
      go_wp2_with (go_at_call 131; refine (blank_c _ _).mono ?_; rintro e w' ⟨rfl, rfl⟩)
      · have h : Sp.blank s[k] = true := by assumption
        go_round
        case rel => exact ⟨k + 1, by omega, by go_num, Lib.hid (by rw [hh.out, hb.out, if_pos h]; omega)⟩
        case measure => simp [intOf]; omega
      · have h : Sp.blank s[k] = false := by assumption
        go_ret
        exact ⟨ret_int (by have h1 := hh.out; have h2 := hb.out; rw [if_neg (by simp [h])] at h2; omega), rfl⟩
    · go_wp2
      go_ret
      exact ⟨ret_int (by have h := hh.out; rw [bs_drop_end s k (by omega)] at h; simp only [Sp.bl] at h; omega), rfl⟩

theorem run_c (g : Nat) (s : ByteArray) (at_ rg : Int) (i : Nat) (hi : i ≤ s.size) (hs : s.size ≤ maxLen) (f : Nat) (cap : Array Value) (p : UInt8 → Bool) (w : World) (H : ScnR w g s at_ rg) (HT : Tells w f cap p) :
    Calls Tryz.prog 201 #[.pointer (some ⟨g, 0, none⟩), .int .i64 (i : Int), .func (.func f) #[] cap] w fun e w' =>
      e = .returned (.int .i64 ((i + Sp.run p ((bs s).drop i) : Nat) : Int)) ∧ w = w' := by
  unfold maxLen at hs
  obtain ⟨c0, c1, c2⟩ := H
  go_enter Tryz.func201, Tryz.ntmps201
  go_wp2
  go_loop [1] (fun t => ∃ k : Nat, k ≤ s.size ∧ t = .int .i64 k ∧ Hid (i + Sp.run p ((bs s).drop i) = k + Sp.run p ((bs s).drop k))) (fun t => s.size - (intOf t).toNat)
  case atStart => exact ⟨i, hi, rfl, Lib.hid rfl⟩
  case round =>
    obtain ⟨k, hk, rfl, hh⟩ := hrel
    by_cases hlt : k < s.size
    · have hb := Lib.hid (run_drop p s k hlt)
      have eg := HT.eg
      go_wp2_with (refine (HT.now _).mono ?_; rintro e w' ⟨rfl, rfl⟩)
      · have h : p s[k] = true := by assumption
        go_round
        case rel => exact ⟨k + 1, by omega, by go_num, Lib.hid (by rw [hh.out, hb.out, if_pos h]; omega)⟩
        case measure => simp [intOf]; omega
      · have h : p s[k] = false := by assumption
        go_ret
        exact ⟨ret_int (by have h1 := hh.out; have h2 := hb.out; rw [if_neg (by simp [h])] at h2; omega), rfl⟩
    · go_wp2
      go_ret
      exact ⟨ret_int (by have h := hh.out; rw [bs_drop_end s k (by omega)] at h; simp only [Sp.run] at h; omega), rfl⟩

/-- The byte at i: 0 behind the end. -/
theorem byte_end (g : Nat) (s : ByteArray) (at_ rg : Int) (i : Nat) (hi : s.size ≤ i) (w : World) (H : ScnR w g s at_ rg) :
    Calls Tryz.prog 132 #[.pointer (some ⟨g, 0, none⟩), .int .i64 (i : Int)] w fun e w' => e = .returned (.int .u8 0) ∧ w = w' := by
  obtain ⟨c0, c1, c2⟩ := H
  go_enter Tryz.func132, Tryz.ntmps132
  go_wp2
  go_ret
  exact ⟨rfl, rfl⟩
theorem byte_ok (g : Nat) (s : ByteArray) (at_ rg : Int) (i : Nat) (hi : i < s.size) (hp : Sp.permitted s[i] = true) (w : World) (H : ScnR w g s at_ rg) :
    Calls Tryz.prog 132 #[.pointer (some ⟨g, 0, none⟩), .int .i64 (i : Int)] w fun e w' => e = .returned (.int .u8 (s[i].toNat : Int)) ∧ w = w' := by
  obtain ⟨c0, c1, c2⟩ := H
  go_enter Tryz.func132, Tryz.ntmps132
  go_wp2_with (go_at_call 197; refine (permitted_c _ _).mono ?_; rintro e w' ⟨rfl, rfl⟩)
  go_ret
  exact ⟨rfl, rfl⟩
theorem byte_bad (g : Nat) (s : ByteArray) (at_ rg : Int) (i : Nat) (hi : i < s.size) (hp : Sp.permitted s[i] = false) (w : World) (H : ScnR w g s at_ rg) :
    Calls Tryz.prog 132 #[.pointer (some ⟨g, 0, none⟩), .int .i64 (i : Int)] w fun e w' => e = .panicked (flt i 2) ∧ w = w' := by
  obtain ⟨c0, c1, c2⟩ := H
  go_enter Tryz.func132, Tryz.ntmps132
  go_wp2_with (first | (go_at_call 197; refine (permitted_c _ _).mono ?_; rintro e w' ⟨rfl, rfl⟩) | (go_at_call 144; refine (stop_c _ _ _ _).mono ?_; rintro e w' ⟨rfl, rfl⟩))
  exact ⟨rfl, rfl, rfl⟩

/-! The same at an index that is spelled otherwise. -/
theorem blanks_i (n : Nat) (g : Nat) (s : ByteArray) (at_ rg : Int) (i : Int) (hn : i = n) (hi : n ≤ s.size) (hs : s.size ≤ 140737488355328) (w : World) (H : ScnR w g s at_ rg) :
    Calls Tryz.prog 80 #[.pointer (some ⟨g, 0, none⟩), .int .i64 i] w fun e w' =>
      e = .returned (.int .i64 ((n + Sp.bl ((bs s).drop n) : Nat) : Int)) ∧ w = w' := by
  subst hn; exact blanks_c g s at_ rg n hi (by unfold maxLen; omega) w H
theorem run_i (n : Nat) (g : Nat) (s : ByteArray) (at_ rg : Int) (i : Int) (hn : i = n) (hi : n ≤ s.size) (hs : s.size ≤ 140737488355328) (f : Nat) (cap : Array Value) (p : UInt8 → Bool) (w : World) (H : ScnR w g s at_ rg) (HT : Tells w f cap p) :
    Calls Tryz.prog 201 #[.pointer (some ⟨g, 0, none⟩), .int .i64 i, .func (.func f) #[] cap] w fun e w' =>
      e = .returned (.int .i64 ((n + Sp.run p ((bs s).drop n) : Nat) : Int)) ∧ w = w' := by
  subst hn; exact run_c g s at_ rg n hi (by unfold maxLen; omega) f cap p w H HT
end Go.Proofs.YtjghijeblddijaaGreatDoor
