/- What follows a symbol does not matter, if it cannot go on with the symbol: bold words, comments, strings, formats, signs; a symbol as such. -/
import Derived.Test.YtjghijeblddijaaGreatDoorStropCutB
namespace Go.Proofs.YtjghijeblddijaaGreatDoor
namespace Sp
theorem run_app (p : UInt8 → Bool) (u x : List UInt8) : (run p u < u.length ∧ run p (u ++ x) = run p u) ∨ (run p u = u.length ∧ run p (u ++ x) = u.length + run p x) := by
  induction u with
  | nil => exact .inr ⟨rfl, by simp⟩
  | cons c u ih =>
    cases hp : p c with
    | false => exact .inl ⟨by simp [run, hp], by simp [run, hp]⟩
    | true =>
      have e : ∀ y, run p (c :: y) = run p y + 1 := fun y => by simp [run, hp]
      rw [List.cons_append, e, e, List.length_cons]
      rcases ih with h | h
      · exact .inl ⟨by omega, by omega⟩
      · exact .inr ⟨by omega, by omega⟩
theorem run_cut (p : UInt8 → Bool) {b : List UInt8} (hC : Cut b) (hp : ∀ c, (blank c = true ∨ c = 35) → p c = false) : run p b = 0 := by
  cases b with
  | nil => rfl
  | cons c t => simp [run, hp c (hC c t rfl)]
theorem take_app (u b b' : List UInt8) (n : Nat) (h : n ≤ u.length) : (u ++ b').take n = (u ++ b).take n := by
  rw [List.take_append_of_le_length h, List.take_append_of_le_length h]
theorem getD_app (u b : List UInt8) (n : Nat) (h : n < u.length) : (u ++ b).getD n 0 = u.getD n 0 := by
  simp [List.getD, List.getElem?_append_left h]
theorem getD_behind (u b : List UInt8) : (u ++ b).getD u.length 0 = b.getD 0 0 := by
  unfold List.getD
  rw [List.getElem?_append_right (Nat.le_refl _), Nat.sub_self]
theorem capdig_cut (c : UInt8) (h : blank c = true ∨ c = 35) : (capital c || digit c) = false := by
  have := not_capital c h
  rw [this.2.1, this.2.2.1]; rfl
theorem alnum_cut (c : UInt8) (h : blank c = true ∨ c = 35) : alnum c = false := (not_capital c h).2.2.2.1
theorem bold_cut_some (r : Nat) {b b' : List UInt8} (hC : Cut b') (u w : List UInt8) (n : Nat) (h : bold r (u ++ b) = some (w, n)) (hn : n ≤ u.length) (hn1 : 1 ≤ n) : bold r (u ++ b') = some (w, n) := by
  cases u with
  | nil => simp at hn; omega
  | cons c t =>
    rw [List.cons_append] at h ⊢
    unfold bold at h ⊢
    dsimp only at h ⊢
    by_cases hr : (r == 0) = true
    · rw [if_pos hr] at h ⊢
      split at h
      · rename_i hcap
        rw [if_pos hcap]
        injection h with h; injection h with h1 h2
        rw [← List.cons_append] at h1 h2 ⊢
        have e : run (fun c => capital c || digit c) (c :: t ++ b') = n := by
          rcases run_app (fun c => capital c || digit c) (c :: t) b with ⟨k1, k2⟩ | ⟨k1, k2⟩
          · rcases run_app (fun c => capital c || digit c) (c :: t) b' with ⟨l1, l2⟩ | ⟨l1, l2⟩
            · rw [l2, ← k2]; exact h2
            · omega
          · rcases run_app (fun c => capital c || digit c) (c :: t) b' with ⟨l1, l2⟩ | ⟨l1, l2⟩
            · omega
            · rw [l2, run_cut _ hC (fun c h => capdig_cut c h)]
              rw [k2] at h2
              omega
        rw [e]
        rw [h2] at h1
        rw [take_app (c :: t) b b' n hn, h1]
      · cases h
    · rw [if_neg hr] at h ⊢
      split at h
      · rename_i htest
        have hlen : 1 ≤ t.length ∧ (r == 2 → run alnum (t ++ b) < t.length) ∧ run alnum (t ++ b) ≤ t.length := by
          have hn' : n ≤ t.length + 1 := hn
          split at h
          · rename_i hr2
            split at h
            · injection h with h; injection h with h1 h2
              exact ⟨by omega, fun _ => by omega, by omega⟩
            · cases h
          · rename_i hr2
            injection h with h; injection h with h1 h2
            have h3 : 1 ≤ run alnum (t ++ b) := by
              rw [Bool.and_eq_true] at htest
              cases hx : t ++ b with
              | nil => rw [hx] at htest; exact absurd htest.2 (by decide)
              | cons d s =>
                rw [hx] at htest
                have : alnum d = true := ascii256 (P := fun c => small (low c) = true → alnum c = true) (by decide +kernel) d htest.2
                simp [run, this]
            exact ⟨by omega, fun hh => absurd hh hr2, by omega⟩
        have e0 : (t ++ b').getD 0 0 = (t ++ b).getD 0 0 := by rw [getD_app _ _ _ (by omega), getD_app _ _ _ (by omega)]
        rw [e0, if_pos htest]
        have e : run alnum (t ++ b') = run alnum (t ++ b) := by
          rcases run_app alnum t b with ⟨k1, k2⟩ | ⟨k1, k2⟩
          · rcases run_app alnum t b' with ⟨l1, l2⟩ | ⟨l1, l2⟩ <;> omega
          · rcases run_app alnum t b' with ⟨l1, l2⟩ | ⟨l1, l2⟩
            · omega
            · rw [l2, run_cut _ hC (fun c h => alnum_cut c h)]; omega
        rw [e, take_app t b b' _ hlen.2.2]
        split at h
        · rename_i hr2
          rw [if_pos hr2]
          have hlt := hlen.2.1 hr2
          rw [getD_app _ _ _ hlt] at h ⊢
          exact h
        · rename_i hr2
          rw [if_neg hr2]
          exact h
      · cases h
theorem bold_cut_none (r : Nat) {b b' : List UInt8} (hC : Cut b') (c : UInt8) (t : List UInt8) (h : bold r (c :: t ++ b) = none) : bold r (c :: t ++ b') = none := by
  rw [List.cons_append] at h ⊢
  unfold bold at h ⊢
  dsimp only at h ⊢
  by_cases hr : (r == 0) = true
  · rw [if_pos hr] at h ⊢
    split at h
    · cases h
    · rename_i hc; rw [if_neg hc]
  · rw [if_neg hr] at h ⊢
    cases t with
    | nil =>
      rw [List.nil_append]
      have : small (low (b'.getD 0 0)) = false := by
        rcases cut_getD hC with h' | h' | h'
        · rw [h']; decide
        · exact (not_capital _ (.inl h')).2.2.2.2.1
        · exact (not_capital _ (.inr h')).2.2.2.2.1
      rw [this, Bool.and_false, if_neg (by decide)]
    | cons d s =>
      have e0 : ∀ x, (d :: s ++ x).getD 0 0 = d := fun x => rfl
      rw [e0] at h ⊢
      split at h
      · rename_i htest
        rw [if_pos htest]
        split at h
        · rename_i hr2
          rw [if_pos hr2]
          split at h
          · cases h
          · rename_i hm
            have hmm : ¬ ((d :: s ++ b').getD (run alnum (d :: s ++ b')) 0 == mark r) = true := by
              rcases run_app alnum (d :: s) b' with ⟨l1, l2⟩ | ⟨l1, l2⟩
              · rcases run_app alnum (d :: s) b with ⟨k1, k2⟩ | ⟨k1, k2⟩
                · rw [k2, getD_app _ _ _ k1] at hm
                  rw [l2, getD_app _ _ _ l1]; exact hm
                · omega
              · rw [l2, run_cut _ hC (fun c h => alnum_cut c h), Nat.add_zero, getD_behind]
                have hr2' : r = 2 := by simpa using hr2
                subst hr2'
                rcases cut_getD hC with h' | h' | h'
                · rw [h']; decide
                · have := (not_capital _ (.inl h')).2.2.2.2.2.1
                  simpa [mark] using this
                · rw [h']; decide
            rw [if_neg hmm]
        · cases h
      · rename_i htest; rw [if_neg htest]
theorem untilGo_skip (r : Nat) (w : List UInt8) (l : List UInt8) : ∀ (i s : Nat) (g : Bool) (b : List UInt8) (n : Nat), untilGo r w l i s g = .ok (b, n) → i + s < n := by
  induction l with
  | nil => intro i s g b n h; cases s <;> simp [untilGo] at h
  | cons a t ih =>
    intro i s g b n h
    cases s with
    | zero => have := (untilGo_bound r w (a :: t) i 0 g b n h).1; omega
    | succ s =>
      simp only [untilGo] at h
      split at h
      · rename_i b' n' he
        injection h with h
        injection h with h1 h2
        have := ih _ _ _ _ _ he
        omega
      · cases h
theorem untilGo_cut (r : Nat) (w : List UInt8) {b b' : List UInt8} (hC : Cut b') (u : List UInt8) : ∀ (i s : Nat) (g : Bool) (x : List UInt8) (n : Nat), untilGo r w (u ++ b) i s g = .ok (x, n) → n ≤ i + u.length → untilGo r w (u ++ b') i s g = .ok (x, n) := by
  induction u with
  | nil =>
    intro i s g x n h hn
    have := (untilGo_bound _ _ _ _ _ _ _ _ h).1
    simp at hn; omega
  | cons c u ih =>
    intro i s g x n h hn
    have hbs : ∀ w n, bold r (c :: (u ++ b)) = some (w, n) → n ≤ u.length + 1 → 1 ≤ n → bold r (c :: (u ++ b')) = some (w, n) := fun w n h1 h2 h3 => bold_cut_some r hC (c :: u) w n h1 h2 h3
    have hbn : bold r (c :: (u ++ b)) = none → bold r (c :: (u ++ b')) = none := fun h1 => bold_cut_none r hC c u h1
    rw [List.cons_append] at *
    rw [List.length_cons] at hn
    cases s with
    | succ s =>
      simp only [untilGo] at h ⊢
      split at h
      · rename_i x' n' he
        injection h with h
        injection h with h1 h2
        rw [ih _ _ _ _ _ he (by omega)]
        subst h1; subst h2; rfl
      · cases h
    | zero =>
      simp only [untilGo] at h ⊢
      split at h
      · cases h
      · rename_i hp
        rw [if_neg hp]
        split at h
        · rename_i w0 n0 hb
          have hbd := bold_bound _ _ _ _ hb
          split at h
          · rename_i hcl
            injection h with h
            injection h with h1 h2
            rw [hbs w0 n0 hb (by omega) hbd.1]
            dsimp only
            rw [if_pos hcl]
            subst h1; subst h2; rfl
          · rename_i hcl
            split at h
            · rename_i x' n' he
              injection h with h
              injection h with h1 h2
              have hsk := untilGo_skip _ _ _ _ _ _ _ _ he
              rw [hbs w0 n0 hb (by omega) hbd.1]
              dsimp only
              rw [if_neg hcl, ih _ _ _ _ _ he (by omega)]
              subst h1; subst h2; rfl
            · cases h
        · rename_i hb
          rw [hbn hb]
          dsimp only
          split at h
          · rename_i x' n' he
            injection h with h
            injection h with h1 h2
            rw [ih _ _ _ _ _ he (by omega)]
            subst h1; subst h2; rfl
          · cases h
theorem commentGo_cut {b b' : List UInt8} (u : List UInt8) : ∀ (i n : Nat), commentGo (u ++ b) i = .ok n → n ≤ i + u.length → commentGo (u ++ b') i = .ok n := by
  induction u with
  | nil =>
    intro i n h hn
    have := (commentGo_bound _ _ _ h).1
    simp at hn; omega
  | cons c u ih =>
    intro i n h hn
    rw [List.cons_append] at *
    rw [List.length_cons] at hn
    unfold commentGo at h ⊢
    split at h
    · cases h
    · rename_i hp
      rw [if_neg hp]
      split at h
      · rename_i h35; rw [if_pos h35]; exact h
      · rename_i h35; rw [if_neg h35]; exact ih _ _ h (by omega)
theorem formatGo_cut {b b' : List UInt8} (u : List UInt8) : ∀ (i : Nat) (q : Bool) (x : List UInt8) (n : Nat), formatGo (u ++ b) i q = .ok (x, n) → n ≤ i + u.length → formatGo (u ++ b') i q = .ok (x, n) := by
  induction u with
  | nil =>
    intro i q x n h hn
    have := (formatGo_bound _ _ _ _ _ h).1
    simp at hn; omega
  | cons c u ih =>
    intro i q x n h hn
    rw [List.cons_append] at *
    rw [List.length_cons] at hn
    unfold formatGo at h ⊢
    split at h
    · cases h
    · rename_i hp
      rw [if_neg hp]
      split at h
      · cases h
      · rename_i h9
        rw [if_neg h9]
        split at h
        · rename_i h36; rw [if_pos h36]; exact h
        · rename_i h36
          rw [if_neg h36]
          split at h
          · rename_i x' n' he
            injection h with h
            injection h with h1 h2
            rw [ih _ _ _ _ he (by omega)]
            subst h1; subst h2; rfl
          · cases h
theorem quotedGo_cut {b b' : List UInt8} (hC : Cut b') (u : List UInt8) : ∀ (i : Nat) (x : List UInt8) (n : Nat), quotedGo (u ++ b) i = .ok (x, n) → n ≤ i + u.length → quotedGo (u ++ b') i = .ok (x, n) := by
  induction hm : u.length using Nat.strongRecOn generalizing u with
  | ind m ih =>
    intro i x n h hn
    subst hm
    cases u with
    | nil =>
      have := (quotedGo_bound _ _ _ _ h).1
      simp at hn; omega
    | cons c t =>
      rw [List.cons_append] at *
      rw [List.length_cons] at hn
      cases hp : permitted c with
      | false => rw [quotedGo_bad c _ i hp] at h; cases h
      | true =>
      by_cases h9 : c = 9 ∨ c = 10
      · rw [quotedGo_line c _ i hp h9] at h; cases h
      by_cases h34 : c = 34
      · subst h34
        cases t with
        | nil =>
          rw [List.nil_append] at *
          have hn' : n ≤ i + 1 := hn
          have hb : b.getD 0 0 ≠ 34 := by
            intro hb
            cases b with
            | nil => exact absurd hb (by decide)
            | cons d s =>
              have hd : d = 34 := hb
              subst hd
              rw [quotedGo_two] at h
              cases hq : quotedGo s (i + 2) with
              | error f => rw [hq] at h; cases h
              | ok y =>
                rw [hq] at h
                have := quotedGo_bound s (i + 2) y.1 y.2 hq
                have e : y.2 = n := by
                  have h' : (Except.ok ([34] ++ y.1, y.2) : Except (Nat × Int) (List UInt8 × Nat)) = .ok (x, n) := h
                  injection h' with h'; injection h'
                omega
          have hb' : b'.getD 0 0 ≠ 34 := by
            rcases cut_getD hC with h' | h' | h'
            · rw [h']; decide
            · exact (not_capital _ (.inl h')).2.2.2.2.2.2.1
            · rw [h']; decide
          rw [quotedGo_end b i hb] at h
          rw [quotedGo_end b' i hb']
          exact h
        | cons d s =>
          rw [List.cons_append] at *
          by_cases hd : d = 34
          · subst hd
            rw [quotedGo_two] at h ⊢
            cases hq : quotedGo (s ++ b) (i + 2) with
            | error f => rw [hq] at h; cases h
            | ok y =>
              rw [hq] at h
              have e : y.2 = n := by
                have h' : (Except.ok ([34] ++ y.1, y.2) : Except (Nat × Int) (List UInt8 × Nat)) = .ok (x, n) := h
                injection h' with h'; injection h'
              rw [ih s.length (by simp only [List.length_cons]; omega) s rfl (i + 2) y.1 y.2 hq (by simp only [List.length_cons] at hn; omega)]
              exact h
          · rw [quotedGo_end _ i (show (d :: (s ++ b)).getD 0 0 ≠ 34 from hd)] at h
            rw [quotedGo_end _ i (show (d :: (s ++ b')).getD 0 0 ≠ 34 from hd)]
            exact h
      · rw [quotedGo_any c _ i hp h9 h34] at h ⊢
        cases hq : quotedGo (t ++ b) (i + 1) with
        | error f => rw [hq] at h; cases h
        | ok y =>
          rw [hq] at h
          have e : y.2 = n := by
            have h' : (Except.ok ([c] ++ y.1, y.2) : Except (Nat × Int) (List UInt8 × Nat)) = .ok (x, n) := h
            injection h' with h'; injection h'
          rw [ih t.length (by simp only [List.length_cons]; omega) t rfl (i + 1) y.1 y.2 hq (by omega)]
          exact h
theorem signs_plain : ∀ s ∈ signs, ∀ c ∈ s, blank c = false ∧ c ≠ 35 := by decide +kernel
theorem prefix_cut {b b' : List UInt8} (hC : Cut b') (u s : List UInt8) (hs : s ∈ signs) (h : s.isPrefixOf (u ++ b') = true) : s.isPrefixOf (u ++ b) = true := by
  rw [List.isPrefixOf_iff_prefix] at h ⊢
  rcases Nat.lt_or_ge u.length s.length with hl | hl
  · exfalso
    cases hb : b' with
    | nil =>
      rw [hb, List.append_nil] at h
      have := h.length_le; omega
    | cons c t =>
      have hu : u ++ [c] <+: u ++ b' := by rw [hb]; exact ⟨t, by simp⟩
      have hp : u ++ [c] <+: s := List.prefix_of_prefix_length_le hu h (by simp; omega)
      have hm : c ∈ s := hp.subset (by simp)
      have := signs_plain s hs c hm
      rcases hC c t hb with h1 | h1
      · rw [this.1] at h1; cases h1
      · exact this.2 h1
  · have hu : u <+: u ++ b' := List.prefix_append _ _
    have : s <+: u := List.prefix_of_prefix_length_le h hu hl
    exact this.trans (List.prefix_append _ _)
theorem sign_cut {b b' : List UInt8} (hC : Cut b') (u : List UInt8) (h : Within u.length (sign (u ++ b))) : sign (u ++ b') = sign (u ++ b) := by
  unfold sign at h ⊢
  cases hf : signs.find? (fun s => s.isPrefixOf (u ++ b)) with
  | none => rw [hf] at h; exact h.elim
  | some s =>
    rw [hf] at h
    have hl : s.length ≤ u.length := h
    rw [List.find?_eq_some_iff_append] at hf
    obtain ⟨hp, pre, post, he, hno⟩ := hf
    have hf' : signs.find? (fun s => s.isPrefixOf (u ++ b')) = some s := by
      rw [List.find?_eq_some_iff_append]
      refine ⟨?_, pre, post, he, fun a ha => ?_⟩
      · rw [List.isPrefixOf_iff_prefix] at hp ⊢
        have : s <+: u := List.prefix_of_prefix_length_le hp (List.prefix_append _ _) hl
        exact this.trans (List.prefix_append _ _)
      · have h1 := hno a ha
        have ham : a ∈ signs := by rw [he]; exact List.mem_append_left _ ha
        cases hx : a.isPrefixOf (u ++ b') with
        | false => rfl
        | true => rw [prefix_cut hC u a ham hx] at h1; exact h1
    rw [hf']
theorem word_cut (r : Nat) (w : List UInt8) (n : Nat) {b b' : List UInt8} (hC : Cut b') (u : List UInt8) (hn : n ≤ u.length) (h : Within u.length (word r w n (u ++ b))) : word r w n (u ++ b') = word r w n (u ++ b) := by
  unfold word at h ⊢
  rw [drop_app u b n hn] at h ⊢
  rw [drop_app u b' n hn]
  have hul : (u.drop n).length = u.length - n := List.length_drop
  split at h
  · rename_i hco
    rw [if_pos hco, if_pos hco]
    cases hg : untilGo r w (u.drop n ++ b) n 0 false with
    | error f => rw [hg] at h; exact h.elim
    | ok y =>
      rw [hg] at h
      have h' : y.2 ≤ u.length := h
      rw [untilGo_cut r w hC _ n 0 false y.1 y.2 hg (by omega)]
  · rename_i hco
    rw [if_neg hco, if_neg hco]
    split at h
    · rename_i hpr
      rw [if_pos hpr, if_pos hpr]
      cases hg : untilGo r w (u.drop n ++ b) n 0 false with
      | error f => rw [hg] at h; exact h.elim
      | ok y =>
        rw [hg] at h
        have h' : y.2 ≤ u.length := h
        rw [untilGo_cut r w hC _ n 0 false y.1 y.2 hg (by omega)]
    · rename_i hpr
      rw [if_neg hpr, if_neg hpr]
theorem word_len (r : Nat) (w : List UInt8) (n m : Nat) (l : List UInt8) (h : Within m (word r w n l)) : n ≤ m := by
  unfold word at h
  split at h
  · split at h
    · rename_i x k he
      have := (untilGo_bound _ _ _ _ _ _ _ _ he).1
      have h' : k ≤ m := h
      omega
    · exact h.elim
  · split at h
    · split at h
      · rename_i x k he
        have := (untilGo_bound _ _ _ _ _ _ _ _ he).1
        have h' : k ≤ m := h
        omega
      · exact h.elim
    · split at h
      · exact h.elim
      · exact h
theorem quoted_cut {b b' : List UInt8} (hC : Cut b') (c : UInt8) (t : List UInt8) (h : Within (t.length + 1) (quoted (c :: t ++ b))) : quoted (c :: t ++ b') = quoted (c :: t ++ b) := by
  unfold quoted at h ⊢
  have e : ∀ x, (c :: t ++ x).drop 1 = t ++ x := fun x => rfl
  rw [e] at h ⊢
  rw [e]
  cases hg : quotedGo (t ++ b) 1 with
  | error f => rw [hg] at h; exact h.elim
  | ok y =>
    rw [hg] at h
    have h' : y.2 ≤ t.length + 1 := h
    rw [quotedGo_cut hC t 1 y.1 y.2 hg (by omega)]
theorem format_cut {b b' : List UInt8} (c : UInt8) (t : List UInt8) (h : Within (t.length + 1) (format (c :: t ++ b))) : format (c :: t ++ b') = format (c :: t ++ b) := by
  unfold format at h ⊢
  have e : ∀ x, (c :: t ++ x).drop 1 = t ++ x := fun x => rfl
  rw [e] at h ⊢
  rw [e]
  cases hg : formatGo (t ++ b) 1 false with
  | error f => rw [hg] at h; exact h.elim
  | ok y =>
    rw [hg] at h
    have h' : y.2 ≤ t.length + 1 := h
    rw [formatGo_cut t 1 false y.1 y.2 hg (by omega)]
theorem comment_cut (r : Nat) {b b' : List UInt8} (c : UInt8) (t : List UInt8) (h : Within (t.length + 1) (comment r (c :: t ++ b))) : comment r (c :: t ++ b') = comment r (c :: t ++ b) := by
  unfold comment at h ⊢
  have e : ∀ x, (c :: t ++ x).drop 1 = t ++ x := fun x => rfl
  rw [e] at h ⊢
  rw [e]
  cases hg : commentGo (t ++ b) 1 with
  | error f => rw [hg] at h; exact h.elim
  | ok y =>
    rw [hg] at h
    have h' : y ≤ t.length + 1 := h
    rw [commentGo_cut t 1 y hg (by omega)]
/-- A symbol that lies in the common part is the same, whatever follows it. -/
theorem symbol_cut (r : Nat) {b b' : List UInt8} (hN : Nx b b') (hC : Cut b') (c : UInt8) (t : List UInt8) (h : Within (t.length + 1) (symbol r (c :: t ++ b))) : symbol r (c :: t ++ b') = symbol r (c :: t ++ b) := by
  unfold symbol at h ⊢
  dsimp only at h ⊢
  have g0 : ∀ x, (c :: t ++ x).getD 0 0 = c := fun x => rfl
  rw [g0] at h ⊢
  rw [g0]
  by_cases hp : (!permitted c) = true
  · rw [if_pos hp] at h; exact h.elim
  rw [if_neg hp] at h ⊢
  rw [if_neg hp]
  cases hb : bold r (c :: t ++ b) with
  | some y =>
    rw [hb] at h
    dsimp only at h
    have hbd := bold_bound _ _ _ _ hb
    have hl := word_len _ _ _ _ _ h
    rw [bold_cut_some r hC (c :: t) y.1 y.2 hb hl hbd.1]
    exact word_cut r y.1 y.2 hC (c :: t) hl h
  | none =>
    rw [hb] at h
    rw [bold_cut_none r hC c t hb]
    dsimp only at h ⊢
    by_cases hle : letter r c = true
    · rw [if_pos hle] at h ⊢
      rw [if_pos hle]
      exact tag_cut r hN hC (c :: t) h
    rw [if_neg hle] at h ⊢
    rw [if_neg hle]
    have g1 : ∀ x, (c :: t ++ x).getD 1 0 = (t ++ x).getD 0 0 := fun x => rfl
    rw [g1] at h ⊢
    rw [g1]
    by_cases hnum : (digit c || (c == 46 && digit ((t ++ b).getD 0 0))) = true
    · rw [if_pos hnum] at h ⊢
      have hsame : number r (c :: t ++ b') = number r (c :: t ++ b) := number_cut r hN hC (c :: t) h
      have hnum' : (digit c || (c == 46 && digit ((t ++ b').getD 0 0))) = true := by
        cases t with
        | cons d s => exact hnum
        | nil =>
          cases hd : digit c with
          | true => rfl
          | false =>
            exfalso
            rw [hd, Bool.false_or, Bool.and_eq_true, beq_iff_eq] at hnum
            rw [List.nil_append] at hnum
            obtain ⟨rfl, hdb⟩ := hnum
            have e1 : spread digit ([46] ++ b) = ([], 0) := rfl
            unfold number at h
            dsimp only at h
            rw [e1] at h
            rw [if_neg (by simp), List.drop_zero] at h
            have hf : 2 ≤ (fraction ([46] ++ b)).2 := by
              rw [fraction_eq]
              have e2 : tl ([46] ++ b) = 46 :: b := rfl
              rw [e2]
              have e3 : (46 :: b).getD 0 0 = 46 := rfl
              have e4 : (46 :: b).getD 1 0 = b.getD 0 0 := rfl
              rw [e3, e4, hdb]
              rw [if_pos (by decide)]
              have h5 : 1 ≤ (spread digit b).2 := by
                cases b with
                | nil => exact absurd hdb (by decide)
                | cons d s => exact spread_one digit d s hdb
              show 2 ≤ _ + 1 + (spread digit b).2
              omega
            split at h
            · exact h.elim
            · have h' : 0 + (fraction ([46] ++ b)).2 + _ ≤ 1 := h
              omega
      rw [if_pos hnum', hsame]
    · rw [if_neg hnum] at h ⊢
      have hnum' : ¬ (digit c || (c == 46 && digit ((t ++ b').getD 0 0))) = true := by
        cases t with
        | cons d s => exact hnum
        | nil =>
          intro hn
          cases hd : digit c with
          | true => rw [hd] at hnum; exact hnum rfl
          | false =>
            rw [hd, Bool.false_or, Bool.and_eq_true] at hn
            rw [List.nil_append] at hn
            rcases cut_getD hC with h' | h' | h'
            · rw [h'] at hn; exact absurd hn.2 (by decide)
            · rw [(not_capital _ (.inl h')).2.2.1] at hn; exact absurd hn.2 (by decide)
            · rw [h'] at hn; exact absurd hn.2 (by decide)
      rw [if_neg hnum']
      by_cases h34 : (c == 34) = true
      · rw [if_pos h34] at h ⊢
        rw [if_pos h34]
        exact quoted_cut hC c t h
      rw [if_neg h34] at h ⊢
      rw [if_neg h34]
      by_cases h36 : (c == 36) = true
      · rw [if_pos h36] at h ⊢
        rw [if_pos h36]
        exact format_cut c t h
      rw [if_neg h36] at h ⊢
      rw [if_neg h36]
      by_cases h35 : (c == 35) = true
      · rw [if_pos h35] at h ⊢
        rw [if_pos h35]
        exact comment_cut r c t h
      rw [if_neg h35] at h ⊢
      rw [if_neg h35]
      exact sign_cut hC (c :: t) h
end Sp
end Go.Proofs.YtjghijeblddijaaGreatDoor
