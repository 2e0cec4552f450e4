/- Facts about the pure scanner's words and comments. -/
import Derived.Test.YtjghijeblddijaaGreatDoorStropFacts
import Derived.Lib.SlTrimSet
import Derived.Lib.Case
namespace Go.Proofs.YtjghijeblddijaaGreatDoor
namespace Sp
theorem low_lowerB (c : UInt8) : Lib.lowerB c = low c :=
  ascii256 (P := fun c => Lib.lowerB c = low c) (by decide +kernel) c
theorem toLowerA_low (l : List UInt8) : Lib.toLowerA l = l.map low := by
  unfold Lib.toLowerA
  rw [show Lib.lowerB = low from funext low_lowerB]
theorem blank_mem (c : UInt8) : ([32, 9, 10] : List UInt8).contains c = blank c :=
  ascii256 (P := fun c => ([32, 9, 10] : List UInt8).contains c = blank c) (by decide +kernel) c
theorem trimS_trim (l : List UInt8) : Lib.trimS l [32, 9, 10] = trim l := by
  unfold Lib.trimS Lib.trimLeftS Lib.trimRightS trim
  simp only [blank_mem]
theorem permitted_lt (c : UInt8) (h : permitted c = true) : c.toNat < 128 :=
  ascii256 (P := fun c => permitted c = true → c.toNat < 128) (by decide +kernel) c h
theorem mem_take_run (p : UInt8 → Bool) (l : List UInt8) : ∀ c ∈ l.take (run p l), p c = true := by
  induction l with
  | nil => simp
  | cons a t ih =>
    unfold run
    split
    · rename_i ha
      intro c hc
      rw [List.take_succ_cons] at hc
      rcases List.mem_cons.1 hc with rfl | hc
      · exact ha
      · exact ih c hc
    · simp
theorem capdig_lt (c : UInt8) (h : (capital c || digit c) = true) : c.toNat < 128 :=
  ascii256 (P := fun c => (capital c || digit c) = true → c.toNat < 128) (by decide +kernel) c h
theorem alnum_lt (c : UInt8) (h : alnum c = true) : c.toNat < 128 :=
  ascii256 (P := fun c => alnum c = true → c.toNat < 128) (by decide +kernel) c h
theorem mark_lt (r : Nat) : (mark r).toNat < 128 := by unfold mark; split <;> decide
theorem mark_ne (r : Nat) : mark r ≠ 0 := by unfold mark; split <;> decide
theorem bold_ascii (r : Nat) (l : List UInt8) (w : List UInt8) (n : Nat) (h : bold r l = some (w, n)) : ∀ c ∈ l.take n, c.toNat < 128 := by
  cases l with
  | nil => simp [bold] at h
  | cons a t =>
    unfold bold at h
    dsimp only at h
    split at h
    · split at h
      · injection h with h
        injection h with h1 h2
        subst h2
        intro c hc
        exact capdig_lt c (mem_take_run _ _ c hc)
      · cases h
    · split at h
      · rename_i hm
        rw [Bool.and_eq_true, beq_iff_eq] at hm
        split at h
        · split at h
          · rename_i he
            injection h with h
            injection h with h1 h2
            subst h2
            rw [beq_iff_eq] at he
            intro c hc
            rw [show run alnum t + 2 = (run alnum t + 1) + 1 from rfl, List.take_succ_cons] at hc
            rcases List.mem_cons.1 hc with rfl | hc
            · rw [hm.1]; exact mark_lt r
            · have hlt : run alnum t < t.length := by
                apply Classical.byContradiction
                intro hn
                rw [List.getD, List.getElem?_eq_none (by omega)] at he
                exact mark_ne r he.symm
              rw [List.take_succ_eq_append_getElem hlt] at hc
              rcases List.mem_append.1 hc with hc | hc
              · exact alnum_lt c (mem_take_run _ _ c hc)
              · rw [List.mem_singleton] at hc
                subst hc
                rw [List.getD, List.getElem?_eq_getElem hlt] at he
                have he' : t[run alnum t] = mark r := he
                rw [he']; exact mark_lt r
          · cases h
        · injection h with h
          injection h with h1 h2
          subst h2
          intro c hc
          rw [List.take_succ_cons] at hc
          rcases List.mem_cons.1 hc with rfl | hc
          · rw [hm.1]; exact mark_lt r
          · exact alnum_lt c (mem_take_run _ _ c hc)
      · cases h
theorem untilGo_ascii (r : Nat) (word : List UInt8) (l : List UInt8) (i s : Nat) (g : Bool) (b : List UInt8) (n : Nat) (h : untilGo r word l i s g = .ok (b, n)) (hs : ∀ c ∈ l.take s, c.toNat < 128) : ∀ c ∈ b, c.toNat < 128 := by
  induction l generalizing i s g b n with
  | nil => cases s <;> simp [untilGo] at h
  | cons a t ih =>
    cases s with
    | succ s =>
      simp only [untilGo] at h
      split at h
      · rename_i b' n' he
        injection h with h
        injection h with h1 h2
        subst h1
        intro c hc
        rcases List.mem_cons.1 hc with rfl | hc
        · exact hs c (by simp)
        · exact ih _ _ _ _ _ he (fun c hc => hs c (by rw [List.take_succ_cons]; exact List.mem_cons_of_mem _ hc)) c hc
      · cases h
    | zero =>
      simp only [untilGo] at h
      split at h
      · cases h
      · rename_i hp
        have hp' : permitted a = true := by simpa using hp
        split at h
        · rename_i w n0 hb
          split at h
          · injection h with h
            injection h with h1 h2
            subst h1
            simp
          · split at h
            · rename_i b' n' he
              injection h with h
              injection h with h1 h2
              subst h1
              intro c hc
              rcases List.mem_cons.1 hc with rfl | hc
              · exact permitted_lt c hp'
              · refine ih _ _ _ _ _ he (fun c hc => bold_ascii r _ w n0 hb c ?_) c hc
                cases n0 with
                | zero => simp at hc
                | succ m => rw [List.take_succ_cons]; exact List.mem_cons_of_mem _ hc
            · cases h
        · split at h
          · rename_i b' n' he
            injection h with h
            injection h with h1 h2
            subst h1
            intro c hc
            rcases List.mem_cons.1 hc with rfl | hc
            · exact permitted_lt c hp'
            · exact ih _ _ _ _ _ he (fun c hc => by simp at hc) c hc
          · cases h
theorem untilGo_len (r : Nat) (word : List UInt8) (l : List UInt8) (i s : Nat) (g : Bool) (b : List UInt8) (n : Nat) (h : untilGo r word l i s g = .ok (b, n)) : b.length ≤ l.length := by
  induction l generalizing i s g b n with
  | nil => cases s <;> simp [untilGo] at h
  | cons a t ih =>
    cases s with
    | succ s =>
      simp only [untilGo] at h
      split at h
      · rename_i b' n' he
        injection h with h
        injection h with h1 h2
        subst h1
        have := ih _ _ _ _ _ he
        simp only [List.length_cons]; omega
      · cases h
    | zero =>
      simp only [untilGo] at h
      split at h
      · cases h
      · split at h
        · split at h
          · injection h with h
            injection h with h1 h2
            subst h1
            simp
          · split at h
            · rename_i b' n' he
              injection h with h
              injection h with h1 h2
              subst h1
              have := ih _ _ _ _ _ he
              simp only [List.length_cons]; omega
            · cases h
        · split at h
          · rename_i b' n' he
            injection h with h
            injection h with h1 h2
            subst h1
            have := ih _ _ _ _ _ he
            simp only [List.length_cons]; omega
          · cases h
theorem trim_mem (l : List UInt8) : ∀ c ∈ trim l, c ∈ l := fun c hc => by
  unfold trim at hc
  have h1 := (List.dropWhile_sublist _).subset hc
  rw [List.mem_reverse] at h1
  have h2 := (List.dropWhile_sublist _).subset h1
  exact List.mem_reverse.1 h2
theorem trim_len (l : List UInt8) : (trim l).length ≤ l.length := by
  unfold trim
  refine Nat.le_trans (List.dropWhile_sublist _).length_le ?_
  rw [List.length_reverse]
  refine Nat.le_trans (List.dropWhile_sublist _).length_le ?_
  rw [List.length_reverse]
  exact Nat.le_refl _
theorem regimeOf_le (r : Nat) (l : List UInt8) (h : r ≤ 2) : regimeOf r l ≤ 2 := by
  unfold regimeOf
  dsimp only
  split; · omega
  split; · omega
  split <;> omega
end Sp
end Go.Proofs.YtjghijeblddijaaGreatDoor
