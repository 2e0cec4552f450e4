/- What a symbol's text looks like: from the scanner to its form. A symbol that is written in a regime is read as itself, if what follows does not go on with it; Check accepts each symbol of a text. StropAscends: the facts, in plain Lean. -/
import Derived.Test.YtjghijeblddijaaGreatDoorStropCutD
import Derived.Test.YtjghijeblddijaaGreatDoorStropPureB
import Derived.Test.YtjghijeblddijaaGreatDoorStropFault
namespace Go.Proofs.YtjghijeblddijaaGreatDoor
namespace Sp
def capdig (c : UInt8) : Bool := capital c || digit c
def smalldig (c : UInt8) : Bool := small c || digit c
structure BoldT (t : List UInt8) : Prop where
  head : ∃ c s, t = c :: s ∧ capital c = true
  all : ∀ a ∈ t, capdig a = true
  no1 : ¬ (t = CO ∨ t = COMMENT)
  no2 : ¬ (t = PR ∨ t = PRAGMAT)
  few : count t ≤ 40
structure TagT (t : List UInt8) : Prop where
  head : ∃ c s, t = c :: s ∧ small c = true
  all : ∀ a ∈ t, smalldig a = true
  few : count t ≤ 40
structure IntT (t : List UInt8) : Prop where
  ne : t ≠ []
  all : ∀ a ∈ t, digit a = true
  few : count t ≤ 100
/-- A point and digits. -/
def FracT (f : List UInt8) : Prop := ∃ g, f = 46 :: g ∧ g ≠ [] ∧ ∀ a ∈ g, digit a = true
/-- An exponent. -/
def ExpT (e : List UInt8) : Prop := ∃ s h, e = 101 :: s ++ h ∧ (s = [] ∨ s = [43] ∨ s = [45]) ∧ h ≠ [] ∧ ∀ a ∈ h, digit a = true
structure RealT (t : List UInt8) : Prop where
  parts : ∃ d f e, t = d ++ f ++ e ∧ (∀ a ∈ d, digit a = true) ∧ (f = [] ∨ FracT f) ∧ (e = [] ∨ ExpT e) ∧ (d ≠ [] ∨ f ≠ []) ∧ (f ≠ [] ∨ e ≠ [])
  few : count t ≤ 100
structure BitsT (t : List UInt8) : Prop where
  parts : ∃ d y, t = d ++ 114 :: y ∧ d ≠ [] ∧ (∀ a ∈ d, digit a = true) ∧ y ≠ [] ∧ (∀ a ∈ y, hexc a = true) ∧ rightBits d y = true
  few : count t ≤ 100
def plainC (c : UInt8) : Bool := permitted c && !(c == 9 || c == 10)
def StrT (t : List UInt8) : Prop := ∀ a ∈ t, plainC a = true
def fmtOk : List UInt8 → Bool → Bool
  | [], q => !q
  | c :: t, q => plainC c && !(c == 36 && !q) && fmtOk t (if c = 34 then !q else q)
/-- A symbol's form. -/
inductive WF : Int → List UInt8 → Prop
  | bold {t} : BoldT t → WF 1 t
  | tag {t} : TagT t → WF 2 t
  | int {t} : IntT t → WF 3 t
  | real {t} : RealT t → WF 4 t
  | bits {t} : BitsT t → WF 5 t
  | str {t} : StrT t → WF 6 t
  | fmt {t} : fmtOk t false = true → WF 7 t
  | sign {t} : t ∈ signs → WF 8 t

theorem up_alnum (c : UInt8) (h : alnum c = true) : capdig (up c) = true :=
  ascii256 (P := fun c => alnum c = true → capdig (up c) = true) (by decide +kernel) c h
theorem up_letter (c : UInt8) (h : small (low c) = true) : capital (up c) = true :=
  ascii256 (P := fun c => small (low c) = true → capital (up c) = true) (by decide +kernel) c h
theorem bold_form (r : Nat) (l w : List UInt8) (n : Nat) (h : bold r l = some (w, n)) : (∃ c s, w = c :: s ∧ capital c = true) ∧ ∀ a ∈ w, capdig a = true := by
  cases l with
  | nil => simp [bold] at h
  | cons c t =>
    unfold bold at h
    dsimp only at h
    split at h
    · split at h
      · rename_i hc
        injection h with h
        injection h with h1 h2
        have e : run (fun c => capital c || digit c) (c :: t) = run (fun c => capital c || digit c) t + 1 := by simp [run, hc]
        subst h1
        refine ⟨⟨c, t.take (run (fun c => capital c || digit c) t), by rw [e]; rfl, hc⟩, fun a ha => ?_⟩
        exact mem_take_run (fun c => capital c || digit c) (c :: t) a ha
      · cases h
    · split at h
      · rename_i htest
        have key : (∃ c s, (t.take (run alnum t)).map up = c :: s ∧ capital c = true) ∧ ∀ a ∈ (t.take (run alnum t)).map up, capdig a = true := by
          refine ⟨?_, fun a ha => ?_⟩
          · cases t with
            | nil => rw [Bool.and_eq_true] at htest; exact absurd htest.2 (by decide)
            | cons d s =>
              rw [Bool.and_eq_true] at htest
              have hd : small (low d) = true := htest.2
              have hal : alnum d = true := ascii256 (P := fun c => small (low c) = true → alnum c = true) (by decide +kernel) d hd
              have e : run alnum (d :: s) = run alnum s + 1 := by simp [run, hal]
              exact ⟨up d, (s.take (run alnum s)).map up, by rw [e]; rfl, up_letter d hd⟩
          · obtain ⟨b, hb, rfl⟩ := List.mem_map.1 ha
            exact up_alnum b (mem_take_run alnum t b hb)
        split at h
        · split at h
          · injection h with h
            injection h with h1 h2
            rw [← h1]; exact key
          · cases h
        · injection h with h
          injection h with h1 h2
          rw [← h1]; exact key
      · cases h
theorem low_smalldig (r : Nat) (c : UInt8) (h : (letter r c || digit c) = true) : smalldig (low c) = true := by
  have h2 : (small c || capital c || digit c) = true := by
    cases hd : digit c with
    | true => simp
    | false =>
      rw [hd, Bool.or_false] at h
      rw [letter_cap r c h]; rfl
  exact ascii256 (P := fun c => (small c || capital c || digit c) = true → smalldig (low c) = true) (by decide +kernel) c h2
theorem low_small (r : Nat) (c : UInt8) (h : letter r c = true) : small (low c) = true :=
  ascii256 (P := fun c => (small c || capital c) = true → small (low c) = true) (by decide +kernel) c (letter_cap r c h)
theorem fraction_form (l : List UInt8) : (fraction l).1 = [] ∨ FracT (fraction l).1 := by
  rw [fraction_eq]
  split
  · rename_i h
    right
    rw [Bool.and_eq_true] at h
    refine ⟨_, rfl, ?_, spread_digits _⟩
    cases ht : tl l with
    | nil => rw [ht] at h; exact absurd h.1 (by decide)
    | cons c t =>
      cases t with
      | nil =>
        rw [ht, show ([c] : List UInt8).getD 1 0 = 0 from rfl] at h
        exact absurd h.2 (by decide)
      | cons d s =>
        rw [ht] at h
        have hd : digit d = true := h.2
        show (spread digit (d :: s)).1 ≠ []
        rw [spread_yes digit d s hd]; simp
  · left; rfl
theorem expo_form (m : List UInt8) : (expo m).1 = [] ∨ ExpT (expo m).1 := by
  unfold expo
  split
  · rename_i hs
    split
    · left; rfl
    · rename_i hne
      right
      refine ⟨[(tl m).getD 0 0], (spread digit (tl ((tl m).drop 1))).1, rfl, ?_, hne, spread_digits _⟩
      rw [Bool.or_eq_true, beq_iff_eq, beq_iff_eq] at hs
      rcases hs with hs | hs
      · right; left; rw [hs]
      · right; right; rw [hs]
  · split
    · left; rfl
    · rename_i hne
      right
      exact ⟨[], (spread digit (tl m)).1, rfl, .inl rfl, hne, spread_digits _⟩
theorem exponent_form (r : Nat) (l : List UInt8) : (exponent r l).1 = [] ∨ ExpT (exponent r l).1 := by
  rw [exponent_eq]
  split
  · split
    · left; rfl
    · rename_i hne
      right
      exact (expo_form _).resolve_left hne
  · left; rfl
theorem number_form (r : Nat) (c : UInt8) (t : List UInt8) (hc : (digit c || (c == 46 && digit (t.getD 0 0))) = true) (k : Int) (x : List UInt8) (n : Nat) (h : number r (c :: t) = .sym k x n) : WF k x := by
  unfold number at h
  dsimp only at h
  split at h
  · rename_i hb
    split at h
    · cases h
    · rename_i hcnt
      split at h
      · rename_i hrb
        injection h with h1 h2 h3
        obtain ⟨y, hy, hyn, hyh⟩ := (radix_facts r ((c :: t).drop (spread digit (c :: t)).2)).2.2 hb.2
        rw [hy] at hrb hcnt h2
        subst h1; subst h2
        exact .bits ⟨⟨(spread digit (c :: t)).1, y, rfl, hb.1, spread_digits _, hyn, hyh, hrb⟩, by omega⟩
      · cases h
  · split at h
    · cases h
    · rename_i hcnt
      injection h with h1 h2 h3
      have hf := fraction_form ((c :: t).drop (spread digit (c :: t)).2)
      have he := exponent_form r ((c :: t).drop ((spread digit (c :: t)).2 + (fraction ((c :: t).drop (spread digit (c :: t)).2)).2))
      have hdf : (spread digit (c :: t)).1 ≠ [] ∨ (fraction ((c :: t).drop (spread digit (c :: t)).2)).1 ≠ [] := by
        cases hd : digit c with
        | true => left; rw [spread_yes digit c t hd]; simp
        | false =>
          right
          rw [hd, Bool.false_or, Bool.and_eq_true, beq_iff_eq] at hc
          obtain ⟨rfl, hd2⟩ := hc
          rw [spread_not digit 46 t hd, List.drop_zero, fraction_eq, tl_not 46 t (by decide)]
          have e1 : (46 :: t).getD 0 0 = 46 := rfl
          have e2 : (46 :: t).getD 1 0 = t.getD 0 0 := rfl
          rw [e1, e2, hd2, if_pos (by decide)]
          simp
      have hdd := spread_digits (c :: t)
      generalize (spread digit (c :: t)).1 = d at *
      generalize (fraction ((c :: t).drop (spread digit (c :: t)).2)) = f at *
      generalize (exponent r ((c :: t).drop ((spread digit (c :: t)).2 + f.2))).1 = e at *
      subst h2
      split at h1
      · rename_i hfe
        subst h1
        rw [hfe.1, hfe.2, List.append_nil, List.append_nil] at hcnt ⊢
        exact .int ⟨hdf.resolve_right (fun hh => hh hfe.1), hdd, by omega⟩
      · rename_i hfe
        subst h1
        refine .real ⟨⟨d, f.1, e, rfl, hdd, hf, he, hdf, ?_⟩, by omega⟩
        by_cases hf1 : f.1 = []
        · right; intro he1; exact hfe ⟨hf1, he1⟩
        · left; exact hf1
theorem plain_of (c : UInt8) (hp : permitted c = true) (h9 : ¬ (c = 9 ∨ c = 10)) : plainC c = true := by
  unfold plainC
  rw [hp]
  simp only [not_or] at h9
  simp [h9.1, h9.2]
theorem quotedGo_form (l : List UInt8) : ∀ (i : Nat) (b : List UInt8) (n : Nat), quotedGo l i = .ok (b, n) → StrT b ∧ n = i + (dq b).length + 1 := by
  induction hn : l.length using Nat.strongRecOn generalizing l with
  | ind m ih =>
    intro i b n h
    subst hn
    cases l with
    | nil => simp [quotedGo] at h
    | cons c t =>
      cases hp : permitted c with
      | false => rw [quotedGo_bad c t i hp] at h; cases h
      | true =>
      by_cases h9 : c = 9 ∨ c = 10
      · rw [quotedGo_line c t i hp h9] at h; cases h
      by_cases h34 : c = 34
      · subst h34
        by_cases ht : t.getD 0 0 = 34
        · cases t with
          | nil => exact absurd ht (by decide)
          | cons d u =>
            have hd : d = 34 := ht
            subst hd
            rw [quotedGo_two] at h
            cases hq : quotedGo u (i + 2) with
            | error f => rw [hq] at h; cases h
            | ok x =>
              rw [hq] at h
              obtain ⟨i1, i2⟩ := ih u.length (by simp only [List.length_cons]; omega) u rfl (i + 2) x.1 x.2 hq
              have h' : (Except.ok ([34] ++ x.1, x.2) : Except (Nat × Int) (List UInt8 × Nat)) = .ok (b, n) := h
              injection h' with h'; injection h' with h1 h2
              subst h1; subst h2
              refine ⟨fun a ha => ?_, ?_⟩
              · rcases List.mem_cons.1 ha with rfl | ha
                · decide
                · exact i1 a ha
              · rw [i2]
                have : dq ([34] ++ x.1) = 34 :: 34 :: dq x.1 := by simp [dq]
                rw [this]; simp only [List.length_cons]; omega
        · rw [quotedGo_end t i ht] at h
          injection h with h; injection h with h1 h2
          subst h1; subst h2
          exact ⟨fun a ha => (by simp at ha), by simp [dq]⟩
      · rw [quotedGo_any c t i hp h9 h34] at h
        cases hq : quotedGo t (i + 1) with
        | error f => rw [hq] at h; cases h
        | ok x =>
          rw [hq] at h
          obtain ⟨i1, i2⟩ := ih t.length (by simp only [List.length_cons]; omega) t rfl (i + 1) x.1 x.2 hq
          have h' : (Except.ok ([c] ++ x.1, x.2) : Except (Nat × Int) (List UInt8 × Nat)) = .ok (b, n) := h
          injection h' with h'; injection h' with h1 h2
          subst h1; subst h2
          refine ⟨fun a ha => ?_, ?_⟩
          · rcases List.mem_cons.1 ha with rfl | ha
            · exact plain_of _ hp h9
            · exact i1 a ha
          · rw [i2]
            have : dq ([c] ++ x.1) = c :: dq x.1 := by simp [dq, h34]
            rw [this]; simp only [List.length_cons]; omega
theorem formatGo_form (l : List UInt8) : ∀ (i : Nat) (q : Bool) (b : List UInt8) (n : Nat), formatGo l i q = .ok (b, n) → fmtOk b q = true ∧ n = i + b.length + 1 := by
  induction l with
  | nil => intro i q b n h; simp [formatGo] at h
  | cons c t ih =>
    intro i q b n h
    unfold formatGo at h
    split at h
    · cases h
    · rename_i hp
      split at h
      · cases h
      · rename_i h9
        split at h
        · rename_i h36
          injection h with h; injection h with h1 h2
          subst h1; subst h2
          rw [Bool.and_eq_true] at h36
          exact ⟨h36.2, rfl⟩
        · rename_i h36
          split at h
          · rename_i b' n' he
            injection h with h; injection h with h1 h2
            obtain ⟨i1, i2⟩ := ih _ _ _ _ he
            subst h1; subst h2
            refine ⟨?_, by rw [i2, List.length_cons]; omega⟩
            have hpl : plainC c = true := by
              refine plain_of c (by simpa using hp) ?_
              simpa using h9
            unfold fmtOk
            rw [hpl, Bool.true_and, Bool.and_eq_true]
            refine ⟨?_, ?_⟩
            · cases hx : (c == 36 && !q) with
              | true => exact absurd hx h36
              | false => rfl
            by_cases h34 : c = 34
            · rw [if_pos h34]; simpa [h34] using i1
            · rw [if_neg h34]; simpa [h34] using i1
          · cases h
/-- Every symbol has its form. -/
theorem symbol_form (r : Nat) (l : List UInt8) (hl : l ≠ []) (k : Int) (x : List UInt8) (n : Nat) (h : symbol r l = .sym k x n) : WF k x := by
  cases l with
  | nil => exact absurd rfl hl
  | cons c t =>
  unfold symbol at h
  dsimp only at h
  split at h
  · cases h
  · split at h
    · rename_i w m hb
      obtain ⟨f1, f2⟩ := bold_form r _ w m hb
      unfold word at h
      split at h
      · split at h <;> cases h
      · rename_i hco
        split at h
        · split at h <;> cases h
        · rename_i hpr
          split at h
          · cases h
          · rename_i hcnt
            injection h with h1 h2 h3
            subst h1; subst h2
            exact .bold ⟨f1, f2, hco, hpr, by omega⟩
    · split at h
      · rename_i hle
        unfold tag at h
        dsimp only at h
        split at h
        · cases h
        · rename_i hcnt
          injection h with h1 h2 h3
          subst h1; subst h2
          have hle' : letter r c = true := hle
          refine .tag ⟨?_, fun a ha => ?_, by omega⟩
          · rw [spread_yes _ c t (by simp [hle'])]
            exact ⟨low c, _, rfl, low_small r c hle'⟩
          · obtain ⟨b, hb, rfl⟩ := spread_mem _ _ a ha
            exact low_smalldig r b hb
      · split at h
        · rename_i hnum
          exact number_form r c t hnum k x n h
        · split at h
          · unfold quoted at h
            split at h
            · rename_i b m he
              injection h with h1 h2 h3
              subst h1; subst h2
              exact .str (quotedGo_form _ _ _ _ he).1
            · cases h
          · split at h
            · unfold format at h
              split at h
              · rename_i b m he
                injection h with h1 h2 h3
                subst h1; subst h2
                exact .fmt (formatGo_form _ _ _ _ _ he).1
              · cases h
            · split at h
              · unfold comment at h
                split at h <;> cases h
              · unfold sign at h
                split at h
                · rename_i s hs
                  injection h with h1 h2 h3
                  subst h1; subst h2
                  exact .sign (List.mem_of_find?_eq_some hs)
                · cases h
theorem quotedGo_len (l : List UInt8) (i : Nat) (b : List UInt8) (n : Nat) (h : quotedGo l i = .ok (b, n)) : b.length ≤ l.length := by
  have h1 := (quotedGo_form l i b n h).2
  have h2 := quotedGo_bound l i b n h
  have h3 : b.length ≤ (dq b).length := by
    unfold dq
    clear h1 h
    induction b with
    | nil => simp
    | cons c t ih =>
      rw [List.flatMap_cons, List.length_append, List.length_cons]
      have : 1 ≤ (if c = 34 then ([34, 34] : List UInt8) else [c]).length := by split <;> simp
      have := ih
      omega
  omega
theorem number_len (r : Nat) (l : List UInt8) (k : Int) (x : List UInt8) (n : Nat) (h : number r l = .sym k x n) : x.length ≤ 3 * l.length + 3 := by
  have e0 := (spread_le digit l).2
  have e1 := (radix_facts r (l.drop (spread digit l).2)).2.1
  have e2 := (fraction_facts (l.drop (spread digit l).2)).2
  have e3 := (exponent_facts r (l.drop ((spread digit l).2 + (fraction (l.drop (spread digit l).2)).2))).2
  rw [List.length_drop] at e1 e2 e3
  unfold number at h
  dsimp only at h
  generalize exponent r (l.drop ((spread digit l).2 + (fraction (l.drop (spread digit l).2)).2)) = e at *
  generalize fraction (l.drop (spread digit l).2) = f at *
  generalize radix r (l.drop (spread digit l).2) = y at *
  generalize spread digit l = d at *
  split at h
  · split at h
    · cases h
    · split at h
      · injection h with h1 h2 h3
        rw [← h2, List.length_append]; omega
      · cases h
  · split at h
    · cases h
    · injection h with h1 h2 h3
      rw [← h2, List.length_append, List.length_append]; omega
theorem symbol_len (r : Nat) (l : List UInt8) (hl : l ≠ []) (k : Int) (x : List UInt8) (n : Nat) (h : symbol r l = .sym k x n) : x.length ≤ 3 * l.length + 3 := by
  cases l with
  | nil => exact absurd rfl hl
  | cons c t =>
  unfold symbol at h
  dsimp only at h
  split at h
  · cases h
  · split at h
    · rename_i w m hb
      have hwl := Sp.bold_len _ _ _ _ hb
      unfold word at h
      split at h
      · split at h <;> cases h
      · split at h
        · split at h <;> cases h
        · split at h
          · cases h
          · injection h with h1 h2 h3
            subst h2; omega
    · split at h
      · unfold tag at h
        dsimp only at h
        split at h
        · cases h
        · injection h with h1 h2 h3
          have := (spread_le (fun c => letter r c || digit c) (c :: t)).2
          subst h2; omega
      · split at h
        · exact number_len r (c :: t) k x n h
        · split at h
          · unfold quoted at h
            split at h
            · rename_i b m he
              injection h with h1 h2 h3
              have := quotedGo_len _ _ _ _ he
              have e : ((c :: t).drop 1).length = t.length := rfl
              subst h2
              rw [List.length_cons]; omega
            · cases h
          · split at h
            · unfold format at h
              split at h
              · rename_i b m he
                injection h with h1 h2 h3
                have h4 := (formatGo_form _ _ _ _ _ he).2
                have h5 := formatGo_bound _ _ _ _ _ he
                have e : ((c :: t).drop 1).length = t.length := rfl
                subst h2
                rw [List.length_cons]; omega
              · cases h
            · split at h
              · unfold comment at h
                split at h <;> cases h
              · unfold sign at h
                split at h
                · rename_i s hs
                  injection h with h1 h2 h3
                  have h6 := List.mem_of_find?_eq_some hs
                  have hall : ∀ x ∈ signs, x.length ≤ 4 := by decide
                  have := hall s h6
                  subst h2
                  rw [List.length_cons]; omega
                · cases h
theorem scan_form : ∀ (f r : Nat) (l : List UInt8) (pos : Nat) (L : List Sym), r ≤ 2 → scan f r l pos = .ok L → ∀ y ∈ L, WF y.kind y.text ∧ y.text.length ≤ 3 * l.length + 3 := by
  intro f
  induction f with
  | zero => intro r l pos L _ h; cases h
  | succ f ih =>
    intro r l pos L hr h
    have hl := bl_tl l
    rcases scan_ok f r l pos L hr h with ⟨_, rfl⟩ | ⟨h0, ⟨k, t, n, L', hs, h1, h2, h3, rfl⟩ | ⟨n, r', hs, h1, h2, h4, h3⟩⟩
    · intro y hy; simp at hy
    · intro y hy
      rcases List.mem_cons.1 hy with rfl | hy
      · refine ⟨symbol_form r _ h0 k t n hs, ?_⟩
        have := symbol_len r (tl l) h0 k t n hs
        dsimp only
        omega
      · have := ih r _ _ _ hr h3 y hy
        rw [List.length_drop] at this
        exact ⟨this.1, by omega⟩
    · intro y hy
      have := ih r' _ _ _ h4 h3 y hy
      rw [List.length_drop] at this
      exact ⟨this.1, by omega⟩
end Sp
end Go.Proofs.YtjghijeblddijaaGreatDoor
namespace Go.Proofs.YtjghijeblddijaaGreatDoor
namespace Sp
/-- What follows cannot go on with a tag or a number. -/
def Stop (r : Nat) (b : List UInt8) : Prop := ∀ c s, tl b = c :: s → letter r c = false ∧ digit c = false ∧ ¬ (c = 46 ∧ digit (s.getD 0 0) = true)
theorem stop_nil (r : Nat) : Stop r [] := fun c s e => by cases e
theorem stop_hash (r : Nat) (b s : List UInt8) (h : tl b = 35 :: s) : Stop r b := fun c t e => by
  rw [h] at e
  injection e with e1 e2
  subst e1
  exact ⟨letter_cut r 35 (.inr rfl), by decide, fun h => absurd h.1 (by decide)⟩
theorem spreadGo_all (p : UInt8 → Bool) (u b : List UInt8) (hu : ∀ a ∈ u, p a = true ∧ blank a = false ∧ low a = a) (hb : ∀ c s, tl b = c :: s → p c = false) : spreadGo p (u ++ b) 0 = (u, u.length) := by
  induction u with
  | nil => exact spreadGo_none p b 0 hb
  | cons a u ih =>
    have ha := hu a List.mem_cons_self
    rw [List.cons_append, spreadGo_yes p a _ 0 ha.2.1 ha.1, ih fun c hc => hu c (List.mem_cons_of_mem _ hc), ha.2.2]
    show (a :: u, 0 + 1 + u.length) = (a :: u, (a :: u).length)
    rw [List.length_cons]
    congr 1; omega
theorem spread_all (p : UInt8 → Bool) (u b : List UInt8) (hne : u ≠ []) (hu : ∀ a ∈ u, p a = true ∧ blank a = false ∧ low a = a) (hb : ∀ c s, tl b = c :: s → p c = false) : spread p (u ++ b) = (u, u.length) := by
  cases u with
  | nil => exact absurd rfl hne
  | cons a u =>
    have ha := hu a List.mem_cons_self
    rw [List.cons_append, spread_yes p a _ ha.1, spreadGo_all p u b (fun c hc => hu c (List.mem_cons_of_mem _ hc)) hb, ha.2.2]
    show (a :: u, 1 + u.length) = (a :: u, (a :: u).length)
    rw [List.length_cons]
    congr 1; omega
theorem digit_facts (c : UInt8) (h : digit c = true) : blank c = false ∧ low c = c ∧ capital c = false ∧ small c = false ∧ permitted c = true ∧ small (low c) = false ∧ c ≠ 46 ∧ c ≠ 39 :=
  ascii256 (P := fun c => digit c = true → blank c = false ∧ low c = c ∧ capital c = false ∧ small c = false ∧ permitted c = true ∧ small (low c) = false ∧ c ≠ 46 ∧ c ≠ 39) (by decide +kernel) c h
theorem small_facts (c : UInt8) (h : small c = true) : blank c = false ∧ low c = c ∧ capital c = false ∧ digit c = false ∧ permitted c = true ∧ c ≠ 46 ∧ c ≠ 39 :=
  ascii256 (P := fun c => small c = true → blank c = false ∧ low c = c ∧ capital c = false ∧ digit c = false ∧ permitted c = true ∧ c ≠ 46 ∧ c ≠ 39) (by decide +kernel) c h
theorem capdig_facts (c : UInt8) (h : capdig c = true) : blank c = false ∧ up (low c) = c ∧ alnum (low c) = true ∧ permitted c = true :=
  ascii256 (P := fun c => capdig c = true → blank c = false ∧ up (low c) = c ∧ alnum (low c) = true ∧ permitted c = true) (by decide +kernel) c h
theorem hexc_facts (c : UInt8) (h : hexc c = true) : blank c = false ∧ low c = c ∧ (digit c = true ∨ (small c = true ∧ c ≤ 102)) :=
  ascii256 (P := fun c => hexc c = true → blank c = false ∧ low c = c ∧ (digit c = true ∨ (small c = true ∧ c ≤ 102))) (by decide +kernel) c h
theorem digs (d : List UInt8) (h : ∀ a ∈ d, digit a = true) : ∀ a ∈ d, digit a = true ∧ blank a = false ∧ low a = a := fun a ha =>
  ⟨h a ha, (digit_facts a (h a ha)).1, (digit_facts a (h a ha)).2.1⟩
theorem letter_small (r : Nat) (c : UInt8) (h : small c = true) : letter r c = true := by unfold letter; rw [h]; rfl
theorem not_digit_letter (r : Nat) (c : UInt8) (h : digit c = true) : letter r c = false := by
  unfold letter
  rw [(digit_facts c h).2.2.1, (digit_facts c h).2.2.2.1]; simp
theorem tl_of_not (c : UInt8) (t x : List UInt8) (h : blank c = false) : tl (c :: t ++ x) = c :: t ++ x := tl_not c _ h
theorem tl_cons (c : UInt8) (x : List UInt8) (h : blank c = false) : ∀ d s, tl (c :: x) = d :: s → d = c := fun d s e => by
  rw [tl_not c x h] at e
  injection e with e _
  exact e.symm
theorem head_digs (d b : List UInt8) (hne : d ≠ []) (h : ∀ a ∈ d, digit a = true) : ∃ c s, d ++ b = c :: s ∧ digit c = true := by
  cases d with
  | nil => exact absurd rfl hne
  | cons c s => exact ⟨c, s ++ b, rfl, h c List.mem_cons_self⟩
/-! numbers -/
theorem fraction_put (g b : List UInt8) (hne : g ≠ []) (h : ∀ a ∈ g, digit a = true) (hb : ∀ c s, tl b = c :: s → digit c = false) : fraction (46 :: g ++ b) = (46 :: g, 1 + g.length) := by
  obtain ⟨c, s, e, hc⟩ := head_digs g b hne h
  rw [fraction_eq, tl_of_not 46 g b (by decide)]
  have e1 : (46 :: g ++ b).getD 0 0 = 46 := rfl
  have e2 : (46 :: g ++ b).getD 1 0 = c := by show (g ++ b).getD 0 0 = c; rw [e]; rfl
  have e3 : (46 :: g ++ b).drop 1 = g ++ b := rfl
  have e4 : bl (46 :: g ++ b) = 0 := bl_not 46 _ (by decide)
  rw [e1, e2, e3, e4, hc, if_pos (by decide), spread_all digit g b hne (digs g h) hb]
theorem fraction_stop (b : List UInt8) (h : ∀ c s, tl b = c :: s → ¬ (c = 46 ∧ digit (s.getD 0 0) = true)) : fraction b = ([], 0) := by
  rw [fraction_eq]
  cases ht : tl b with
  | nil => rfl
  | cons c s =>
    have := h c s ht
    have e1 : (c :: s).getD 0 0 = c := rfl
    have e2 : (c :: s).getD 1 0 = s.getD 0 0 := rfl
    rw [e1, e2]
    have e3 : ¬ (c == 46 && digit (s.getD 0 0)) = true := by
      rw [Bool.and_eq_true, beq_iff_eq]; exact this
    rw [if_neg e3]
theorem radix_stop (r : Nat) (b : List UInt8) (h : ∀ c s, tl b = c :: s → ¬ (letter r c = true ∧ low c = 114)) : radix r b = ([], 0) := by
  rw [radix_eq]
  cases ht : tl b with
  | nil =>
    show (if (letter r 0 && low 0 == 114) = true then _ else _) = _
    rw [letter0]; rfl
  | cons c s =>
    have := h c s ht
    have e1 : (c :: s).getD 0 0 = c := rfl
    rw [e1]
    have e3 : ¬ (letter r c && low c == 114) = true := by
      rw [Bool.and_eq_true, beq_iff_eq]; exact this
    rw [if_neg e3]
theorem exponent_stop (r : Nat) (b : List UInt8) (h : ∀ c s, tl b = c :: s → ¬ (letter r c = true ∧ low c = 101)) : exponent r b = ([], 0) := by
  rw [exponent_eq]
  cases ht : tl b with
  | nil =>
    show (if (letter r 0 && low 0 == 101) = true then _ else _) = _
    rw [letter0]; rfl
  | cons c s =>
    have := h c s ht
    have e1 : (c :: s).getD 0 0 = c := rfl
    rw [e1]
    have e3 : ¬ (letter r c && low c == 101) = true := by
      rw [Bool.and_eq_true, beq_iff_eq]; exact this
    rw [if_neg e3]
theorem radix_put (r : Nat) (y b : List UInt8) (hne : y ≠ []) (h : ∀ a ∈ y, hexc a = true) (hb : Stop r b) : radix r (114 :: y ++ b) = (114 :: y, 1 + y.length) := by
  rw [radix_eq, tl_of_not 114 y b (by decide)]
  have e1 : (114 :: y ++ b).getD 0 0 = 114 := rfl
  have e3 : (114 :: y ++ b).drop 1 = y ++ b := rfl
  have e4 : bl (114 :: y ++ b) = 0 := bl_not 114 _ (by decide)
  have e5 : tl (y ++ b) = y ++ b ∧ bl (y ++ b) = 0 := by
    cases y with
    | nil => exact absurd rfl hne
    | cons c s =>
      have := (hexc_facts c (h c List.mem_cons_self)).1
      exact ⟨tl_not c _ this, bl_not c _ this⟩
  have e6 : spread (hexish r) (y ++ b) = (y, y.length) := by
    refine spread_all _ y b hne (fun a ha => ?_) (fun c s e => ?_)
    · have h1 := hexc_facts a (h a ha)
      refine ⟨?_, h1.1, h1.2.1⟩
      unfold hexish
      rcases h1.2.2 with hd | ⟨hs, hl⟩
      · rw [hd]; rfl
      · rw [letter_small r a hs, h1.2.1, decide_eq_true hl]; simp
    · have h1 := hb c s e
      unfold hexish
      rw [h1.1, h1.2.1]; rfl
  rw [e1, e3, e4, e5.1, e5.2, e6, letter_small r 114 (by decide)]
  rw [if_pos (by decide), if_neg hne]
theorem expo_put (s h b : List UInt8) (hs : s = [] ∨ s = [43] ∨ s = [45]) (hne : h ≠ []) (hd : ∀ a ∈ h, digit a = true) (hb : ∀ c t, tl b = c :: t → digit c = false) : expo (s ++ h ++ b) = (101 :: s ++ h, s.length + h.length) := by
  obtain ⟨c, t, e, hc⟩ := head_digs h b hne hd
  have hcb := (digit_facts c hc).1
  have e5 : tl (h ++ b) = h ++ b ∧ bl (h ++ b) = 0 := by rw [e]; exact ⟨tl_not c _ hcb, bl_not c _ hcb⟩
  have e6 : spread digit (h ++ b) = (h, h.length) := spread_all digit h b hne (digs h hd) hb
  unfold expo
  rcases hs with rfl | rfl | rfl
  · rw [List.nil_append, e5.1, e5.2, e6]
    have e7 : (h ++ b).getD 0 0 = c := by rw [e]; rfl
    have e8 : ¬ (c == 43 || c == 45) = true := by
      have := ascii256 (P := fun c => digit c = true → (c == 43 || c == 45) = false) (by decide +kernel) c hc
      rw [this]; decide
    rw [e7, if_neg e8, if_neg hne]
    simp
  · have e7 : tl ([43] ++ h ++ b) = 43 :: (h ++ b) := tl_not 43 _ (by decide)
    have e8 : bl ([43] ++ h ++ b) = 0 := bl_not 43 _ (by decide)
    rw [e7, e8]
    have e9 : (43 :: (h ++ b)).getD 0 0 = 43 := rfl
    have e10 : (43 :: (h ++ b)).drop 1 = h ++ b := rfl
    rw [e9, e10, e5.1, e5.2, e6, if_pos (by decide), if_neg hne]
    simp
  · have e7 : tl ([45] ++ h ++ b) = 45 :: (h ++ b) := tl_not 45 _ (by decide)
    have e8 : bl ([45] ++ h ++ b) = 0 := bl_not 45 _ (by decide)
    rw [e7, e8]
    have e9 : (45 :: (h ++ b)).getD 0 0 = 45 := rfl
    have e10 : (45 :: (h ++ b)).drop 1 = h ++ b := rfl
    rw [e9, e10, e5.1, e5.2, e6, if_pos (by decide), if_neg hne]
    simp
theorem exponent_put (r : Nat) (e b : List UInt8) (he : ExpT e) (hb : ∀ c t, tl b = c :: t → digit c = false) : exponent r (e ++ b) = (e, e.length) := by
  obtain ⟨s, h, rfl, hs, hne, hd⟩ := he
  rw [exponent_eq]
  have e7 : tl (101 :: s ++ h ++ b) = 101 :: (s ++ h ++ b) := tl_not 101 _ (by decide)
  have e8 : bl (101 :: s ++ h ++ b) = 0 := bl_not 101 _ (by decide)
  have e9 : (101 :: (s ++ h ++ b)).getD 0 0 = 101 := rfl
  have e10 : (101 :: (s ++ h ++ b)).drop 1 = s ++ h ++ b := rfl
  rw [e7, e8, e9, e10, expo_put s h b hs hne hd hb, letter_small r 101 (by decide), if_pos (by decide), if_neg (by simp)]
  show (101 :: s ++ h, 0 + 1 + (s.length + h.length)) = _
  simp only [List.length_append, List.length_cons, List.cons_append]
  congr 1; omega
theorem Stop.digit {r : Nat} {b : List UInt8} (h : Stop r b) : ∀ c s, tl b = c :: s → Sp.digit c = false := fun c s e => (h c s e).2.1
theorem frac_head (f b : List UInt8) (h : FracT f) : tl (f ++ b) = f ++ b ∧ (f ++ b).getD 0 0 = 46 := by
  obtain ⟨g, rfl, _, _⟩ := h
  exact ⟨tl_not 46 _ (by decide), rfl⟩
theorem exp_head (e b : List UInt8) (h : ExpT e) : ∃ t, e ++ b = 101 :: t := by
  obtain ⟨s, g, rfl, _, _, _⟩ := h
  exact ⟨s ++ g ++ b, rfl⟩
theorem number_int (r : Nat) (d b : List UInt8) (h : IntT d) (hb : Stop r b) : number r (d ++ b) = .sym 3 d d.length := by
  unfold number
  have e1 : spread digit (d ++ b) = (d, d.length) := spread_all digit d b h.ne (digs d h.all) hb.digit
  dsimp only
  rw [e1]
  dsimp only
  rw [List.drop_left, radix_stop r b (fun c s e hh => by rw [(hb c s e).1] at hh; exact absurd hh.1 (by decide)), if_neg (by simp)]
  rw [fraction_stop b (fun c s e => (hb c s e).2.2)]
  dsimp only
  rw [Nat.add_zero, List.drop_left, exponent_stop r b (fun c s e hh => by rw [(hb c s e).1] at hh; exact absurd hh.1 (by decide))]
  dsimp only
  rw [List.append_nil, List.append_nil, if_neg (by have := h.few; omega), if_pos ⟨rfl, rfl⟩]
  rfl
theorem number_bits (r : Nat) (t b : List UInt8) (h : BitsT t) (hb : Stop r b) : number r (t ++ b) = .sym 5 t t.length := by
  obtain ⟨⟨d, y, rfl, hd, hda, hy, hya, hrb⟩, hfew⟩ := h
  unfold number
  have ecat : d ++ 114 :: y ++ b = d ++ (114 :: y ++ b) := by simp
  rw [ecat]
  have e1 : spread digit (d ++ (114 :: y ++ b)) = (d, d.length) := spread_all digit d _ hd (digs d hda) (fun c s e => by rw [tl_cons 114 _ (by decide) c s e]; decide)
  dsimp only
  rw [e1]
  dsimp only
  rw [List.drop_left, radix_put r y b hy hya hb]
  dsimp only
  rw [if_pos ⟨hd, by simp⟩, if_neg (by omega)]
  have e2 : (114 :: y).drop 1 = y := rfl
  rw [e2, if_pos hrb]
  congr 1
  simp only [List.length_append, List.length_cons]; omega
theorem number_real (r : Nat) (t b : List UInt8) (h : RealT t) (hb : Stop r b) : number r (t ++ b) = .sym 4 t t.length := by
  obtain ⟨⟨d, f, e, rfl, hda, hf, he, hdf, hfe⟩, hfew⟩ := h
  unfold number
  have ecat : d ++ f ++ e ++ b = d ++ (f ++ (e ++ b)) := by simp
  rw [ecat]
  -- what stands behind the digits
  have hrest : ∀ c s, tl (f ++ (e ++ b)) = c :: s → digit c = false ∧ ¬ (letter r c = true ∧ low c = 114) := by
    intro c s ec
    rcases hf with rfl | hf
    · rw [List.nil_append] at ec
      rcases he with rfl | he
      · rcases hfe with h0 | h0 <;> exact absurd rfl h0
      · obtain ⟨t, et⟩ := exp_head e b he
        rw [et] at ec
        rw [tl_cons 101 t (by decide) c s ec]
        exact ⟨by decide, fun hh => absurd hh.2 (by decide)⟩
    · obtain ⟨g, rfl, _, _⟩ := hf
      rw [tl_cons 46 _ (by decide) c s ec]
      exact ⟨by decide, fun hh => absurd hh.2 (by decide)⟩
  have e1 : spread digit (d ++ (f ++ (e ++ b))) = (d, d.length) := by
    cases d with
    | nil =>
      rw [List.nil_append]
      have hf0 : f ≠ [] := hdf.resolve_left (fun h0 => h0 rfl)
      obtain ⟨g, rfl, _, _⟩ := hf.resolve_left hf0
      exact spread_not digit 46 _ (by decide)
    | cons a u => exact spread_all digit (a :: u) _ (by simp) (digs _ hda) (fun c s ec => (hrest c s ec).1)
  dsimp only
  rw [e1]
  dsimp only
  rw [List.drop_left, radix_stop r _ (fun c s ec => (hrest c s ec).2), if_neg (by simp)]
  -- behind the fraction
  have hexp : exponent r (e ++ b) = (e, e.length) := by
    rcases he with rfl | he
    · rw [List.nil_append]
      exact exponent_stop r b (fun c s ec hh => by rw [(hb c s ec).1] at hh; exact absurd hh.1 (by decide))
    · exact exponent_put r e b he hb.digit
  have hnd : ∀ c s, tl (e ++ b) = c :: s → digit c = false ∧ ¬ (c = 46 ∧ digit (s.getD 0 0) = true) := by
    intro c s ec
    rcases he with rfl | he
    · rw [List.nil_append] at ec
      exact ⟨(hb c s ec).2.1, (hb c s ec).2.2⟩
    · obtain ⟨t, et⟩ := exp_head e b he
      rw [et] at ec
      rw [tl_cons 101 t (by decide) c s ec]
      exact ⟨by decide, fun hh => absurd hh.1 (by decide)⟩
  have hfr : fraction (f ++ (e ++ b)) = (f, f.length) := by
    rcases hf with rfl | ⟨g, rfl, hg, hga⟩
    · rw [List.nil_append]
      exact fraction_stop _ (fun c s ec => (hnd c s ec).2)
    · rw [fraction_put g (e ++ b) hg hga (fun c s ec => (hnd c s ec).1)]
      simp only [List.length_cons]
      congr 1; omega
  rw [hfr]
  dsimp only
  rw [← List.drop_drop, List.drop_left, List.drop_left, hexp]
  dsimp only
  rw [if_neg (by omega)]
  have hk : ¬ (f = [] ∧ e = []) := fun hh => hfe.elim (fun h0 => h0 hh.1) (fun h0 => h0 hh.2)
  rw [if_neg hk]
  congr 1
  simp only [List.length_append]
/-! a symbol, from its head -/
theorem bold_digit (r : Nat) (c : UInt8) (x : List UInt8) (h1 : capital c = false) (h2 : ¬ (c = mark r ∧ small (low (x.getD 0 0)) = true)) : bold r (c :: x) = none := by
  unfold bold
  dsimp only
  split
  · rw [if_neg (by rw [h1]; decide)]
  · rw [if_neg (by rw [Bool.and_eq_true, beq_iff_eq]; exact h2)]
theorem mark_cases (r : Nat) : mark r = 39 ∨ mark r = 46 := by unfold mark; split <;> simp
theorem symbol_number (r : Nat) (c : UInt8) (x : List UInt8) (h : (digit c || (c == 46 && digit (x.getD 0 0))) = true) : symbol r (c :: x) = number r (c :: x) := by
  have hc : permitted c = true ∧ capital c = false ∧ letter r c = false := by
    cases hd : digit c with
    | true => exact ⟨(digit_facts c hd).2.2.2.2.1, (digit_facts c hd).2.2.1, not_digit_letter r c hd⟩
    | false =>
      rw [hd, Bool.false_or, Bool.and_eq_true, beq_iff_eq] at h
      rw [h.1]
      refine ⟨by decide, by decide, ?_⟩
      unfold letter
      have e1 : small 46 = false := by decide
      have e2 : capital 46 = false := by decide
      rw [e1, e2]; simp
  have hb : bold r (c :: x) = none := by
    refine bold_digit r c x hc.2.1 ?_
    rintro ⟨hm, hs⟩
    cases hd : digit c with
    | true =>
      have := digit_facts c hd
      rcases mark_cases r with h1 | h1 <;> rw [h1] at hm
      · exact this.2.2.2.2.2.2.2 hm
      · exact this.2.2.2.2.2.2.1 hm
    | false =>
      rw [hd, Bool.false_or, Bool.and_eq_true] at h
      rw [(digit_facts _ h.2).2.2.2.2.2.1] at hs
      cases hs
  unfold symbol
  dsimp only
  have e0 : (c :: x).getD 0 0 = c := rfl
  have e1 : (c :: x).getD 1 0 = x.getD 0 0 := rfl
  rw [e0, e1, hb, hc.1]
  rw [if_neg (by decide)]
  dsimp only
  rw [hc.2.2, if_neg (by decide), if_pos h]
theorem num_head (t b : List UInt8) (h : (∃ c s, t = c :: s ∧ digit c = true) ∨ FracT t ∨ ∃ f e, t = f ++ e ∧ FracT f) : ∃ c x, t ++ b = c :: x ∧ (digit c || (c == 46 && digit (x.getD 0 0))) = true := by
  rcases h with ⟨c, s, rfl, hc⟩ | ⟨g, rfl, hg, hga⟩ | ⟨f, e, rfl, g, rfl, hg, hga⟩
  · exact ⟨c, s ++ b, rfl, by rw [hc]; rfl⟩
  · refine ⟨46, g ++ b, rfl, ?_⟩
    obtain ⟨c, s, e, hc⟩ := head_digs g b hg hga
    rw [e]
    show (digit 46 || (46 == 46 && digit c)) = true
    rw [hc]; decide
  · refine ⟨46, g ++ (e ++ b), by simp, ?_⟩
    obtain ⟨c, s, e, hc⟩ := head_digs g (e ++ b) hg hga
    rw [e]
    show (digit 46 || (46 == 46 && digit c)) = true
    rw [hc]; decide
theorem relex_int (r : Nat) (t b : List UInt8) (h : IntT t) (hb : Stop r b) : symbol r (t ++ b) = .sym 3 t t.length := by
  have hh : ∃ c s, t = c :: s ∧ digit c = true := by
    obtain ⟨c, s, e, hc⟩ := head_digs t [] h.ne h.all
    rw [List.append_nil] at e
    exact ⟨c, s, e, hc⟩
  obtain ⟨c, x, e, hc⟩ := num_head t b (.inl hh)
  have := number_int r t b h hb
  rw [e] at this ⊢
  rw [symbol_number r c x hc, this]
theorem relex_bits (r : Nat) (t b : List UInt8) (h : BitsT t) (hb : Stop r b) : symbol r (t ++ b) = .sym 5 t t.length := by
  have hh : ∃ c s, t = c :: s ∧ digit c = true := by
    obtain ⟨d, y, rfl, hd, hda, _⟩ := h.parts
    obtain ⟨c, s, e, hc⟩ := head_digs d (114 :: y) hd hda
    exact ⟨c, s, e, hc⟩
  obtain ⟨c, x, e, hc⟩ := num_head t b (.inl hh)
  have := number_bits r t b h hb
  rw [e] at this ⊢
  rw [symbol_number r c x hc, this]
theorem relex_real (r : Nat) (t b : List UInt8) (h : RealT t) (hb : Stop r b) : symbol r (t ++ b) = .sym 4 t t.length := by
  have hh : (∃ c s, t = c :: s ∧ digit c = true) ∨ FracT t ∨ ∃ f e, t = f ++ e ∧ FracT f := by
    obtain ⟨d, f, e, rfl, hda, hf, he, hdf, hfe⟩ := h.parts
    cases d with
    | cons c s => exact .inl ⟨c, s ++ f ++ e, rfl, hda c List.mem_cons_self⟩
    | nil =>
      have hf0 : f ≠ [] := hdf.resolve_left (fun h0 => h0 rfl)
      exact .inr (.inr ⟨f, e, rfl, hf.resolve_left hf0⟩)
  obtain ⟨c, x, e, hc⟩ := num_head t b hh
  have := number_real r t b h hb
  rw [e] at this ⊢
  rw [symbol_number r c x hc, this]
theorem smalldig_facts (c : UInt8) (h : smalldig c = true) : blank c = false ∧ low c = c ∧ (small c = true ∨ digit c = true) := by
  unfold smalldig at h
  rw [Bool.or_eq_true] at h
  rcases h with h | h
  · exact ⟨(small_facts c h).1, (small_facts c h).2.1, .inl h⟩
  · exact ⟨(digit_facts c h).1, (digit_facts c h).2.1, .inr h⟩
theorem relex_tag (r : Nat) (t b : List UInt8) (h : TagT t) (hb : Stop r b) : symbol r (t ++ b) = .sym 2 t t.length := by
  obtain ⟨⟨c, s, rfl, hc⟩, hall, hfew⟩ := h
  have hf := small_facts c hc
  have hbn : bold r (c :: (s ++ b)) = none := by
    refine bold_digit r c _ hf.2.2.1 ?_
    rintro ⟨hm, _⟩
    rcases mark_cases r with h1 | h1 <;> rw [h1] at hm
    · exact hf.2.2.2.2.2.2 hm
    · exact hf.2.2.2.2.2.1 hm
  have hsp : spread (fun c => letter r c || digit c) (c :: s ++ b) = (c :: s, (c :: s).length) := by
    refine spread_all _ (c :: s) b (by simp) (fun a ha => ?_) (fun d x e => ?_)
    · have h1 := smalldig_facts a (hall a ha)
      refine ⟨?_, h1.1, h1.2.1⟩
      rcases h1.2.2 with h2 | h2
      · rw [letter_small r a h2]; rfl
      · rw [h2]; simp
    · rw [(hb d x e).1, (hb d x e).2.1]; rfl
  unfold symbol
  dsimp only
  have e0 : (c :: s ++ b).getD 0 0 = c := rfl
  rw [e0, show bold r (c :: s ++ b) = none from hbn, hf.2.2.2.2.1, if_neg (by decide)]
  dsimp only
  rw [letter_small r c hc, if_pos rfl]
  unfold tag
  dsimp only
  rw [hsp, if_neg (by dsimp only; omega)]
theorem quotedGo_put (t b : List UInt8) (hb : b.getD 0 0 ≠ 34) (h : StrT t) : ∀ i, quotedGo (dq t ++ 34 :: b) i = .ok (t, i + (dq t).length + 1) := by
  induction t with
  | nil => intro i; exact quotedGo_end b i hb
  | cons c t ih =>
    intro i
    have hc := h c List.mem_cons_self
    have ih' := ih fun a ha => h a (List.mem_cons_of_mem _ ha)
    by_cases h34 : c = 34
    · subst h34
      have e : dq (34 :: t) = 34 :: 34 :: dq t := by simp [dq]
      rw [e]
      show quotedGo (34 :: 34 :: (dq t ++ 34 :: b)) i = _
      rw [quotedGo_two, ih']
      show Except.ok ([34] ++ t, _) = _
      simp only [List.length_cons, List.cons_append, List.nil_append]
      congr 2; omega
    · have e : dq (c :: t) = c :: dq t := by simp [dq, h34]
      rw [e]
      unfold plainC at hc
      rw [Bool.and_eq_true] at hc
      have h9 : ¬ (c = 9 ∨ c = 10) := by simpa using hc.2
      show quotedGo (c :: (dq t ++ 34 :: b)) i = _
      rw [quotedGo_any c _ i hc.1 h9 h34, ih']
      show Except.ok ([c] ++ t, _) = _
      simp only [List.length_cons, List.cons_append, List.nil_append]
      congr 2; omega
theorem formatGo_put (b : List UInt8) : ∀ (t : List UInt8) (i : Nat) (q : Bool), fmtOk t q = true → formatGo (t ++ 36 :: b) i q = .ok (t, i + t.length + 1) := by
  intro t
  induction t with
  | nil =>
    intro i q h
    have hq : q = false := by simpa [fmtOk] using h
    subst hq
    rfl
  | cons c t ih =>
    intro i q h
    unfold fmtOk at h
    rw [Bool.and_eq_true, Bool.and_eq_true] at h
    obtain ⟨⟨h1, h2⟩, h3⟩ := h
    unfold plainC at h1
    rw [Bool.and_eq_true] at h1
    rw [List.cons_append]
    unfold formatGo
    rw [if_neg (by rw [h1.1]; decide), if_neg (by simpa using h1.2), if_neg (by intro hx; rw [hx] at h2; cases h2)]
    have h3' : fmtOk t (if (c == 34) = true then !q else q) = true := by
      by_cases h34 : c = 34
      · rw [if_pos (by simpa using h34)]; rw [if_pos h34] at h3; exact h3
      · rw [if_neg (by simpa using h34)]; rw [if_neg h34] at h3; exact h3
    rw [ih (i + 1) _ h3']
    show Except.ok (c :: t, _) = _
    rw [List.length_cons]
    congr 2; omega
theorem symbol_other (r : Nat) (c : UInt8) (x : List UInt8) (hp : permitted c = true) (hl : small c = false ∧ capital c = false ∧ digit c = false) (hm : c ≠ 46 ∧ c ≠ 39) :
    symbol r (c :: x) = if (c == 34) = true then quoted (c :: x) else if (c == 36) = true then format (c :: x) else if (c == 35) = true then comment r (c :: x) else sign (c :: x) := by
  have hbn : bold r (c :: x) = none := by
    refine bold_digit r c _ hl.2.1 ?_
    rintro ⟨h0, _⟩
    rcases mark_cases r with h1 | h1 <;> rw [h1] at h0
    · exact hm.2 h0
    · exact hm.1 h0
  have hle : letter r c = false := by unfold letter; rw [hl.1, hl.2.1]; simp
  unfold symbol
  dsimp only
  have e0 : (c :: x).getD 0 0 = c := rfl
  rw [e0, hbn, hp, if_neg (by decide)]
  dsimp only
  rw [hle, if_neg (by decide), hl.2.2]
  rw [if_neg (by rw [Bool.false_or, Bool.and_eq_true, beq_iff_eq]; exact fun hh => hm.1 hh.1)]
theorem relex_str (r : Nat) (t b : List UInt8) (h : StrT t) (hb : b.getD 0 0 ≠ 34) : symbol r (34 :: dq t ++ [34] ++ b) = .sym 6 t (34 :: dq t ++ [34]).length := by
  have e : 34 :: dq t ++ [34] ++ b = 34 :: (dq t ++ 34 :: b) := by simp
  rw [e, symbol_other r 34 _ (by decide) (by decide) (by decide), if_pos (by decide)]
  unfold quoted
  have e1 : (34 :: (dq t ++ 34 :: b)).drop 1 = dq t ++ 34 :: b := rfl
  rw [e1, quotedGo_put t b hb h 1]
  dsimp only
  congr 1
  simp only [List.length_append, List.length_cons, List.length_nil]; omega
theorem relex_fmt (r : Nat) (t b : List UInt8) (h : fmtOk t false = true) : symbol r (36 :: t ++ [36] ++ b) = .sym 7 t (36 :: t ++ [36]).length := by
  have e : 36 :: t ++ [36] ++ b = 36 :: (t ++ 36 :: b) := by simp
  rw [e, symbol_other r 36 _ (by decide) (by decide) (by decide), if_neg (by decide), if_pos (by decide)]
  unfold format
  have e1 : (36 :: (t ++ 36 :: b)).drop 1 = t ++ 36 :: b := rfl
  rw [e1, formatGo_put b t 1 false h]
  dsimp only
  congr 1
  simp only [List.length_append, List.length_cons, List.length_nil]; omega
theorem signs_self : ∀ s ∈ signs, sign s = .sym 8 s s.length := by decide +kernel
theorem signs_head : ∀ s ∈ signs, ∀ c ∈ s.head?, permitted c = true ∧ (small c = false ∧ capital c = false ∧ digit c = false) ∧ (c ≠ 46 ∧ c ≠ 39) ∧ c ≠ 34 ∧ c ≠ 36 ∧ c ≠ 35 := by decide +kernel
theorem signs_ne : ∀ s ∈ signs, s ≠ [] := by decide +kernel
theorem relex_sign (r : Nat) (s b : List UInt8) (h : s ∈ signs) (hC : Cut b) : symbol r (s ++ b) = .sym 8 s s.length := by
  have hself := signs_self s h
  have hcut : sign (s ++ b) = sign (s ++ []) := sign_cut hC s (by rw [List.append_nil, hself]; exact Nat.le_refl _)
  rw [List.append_nil, hself] at hcut
  cases hs : s with
  | nil => exact absurd hs (signs_ne s h)
  | cons c t =>
    have hh := signs_head s h c (by rw [hs]; rfl)
    rw [hs] at hcut
    rw [List.cons_append] at hcut ⊢
    rw [symbol_other r c _ hh.1 hh.2.1 hh.2.2.1, if_neg (by simpa using hh.2.2.2.1), if_neg (by simpa using hh.2.2.2.2.1), if_neg (by simpa using hh.2.2.2.2.2), hcut]
theorem run_all (p : UInt8 → Bool) (u x : List UInt8) (h : ∀ a ∈ u, p a = true) : run p (u ++ x) = u.length + run p x := by
  induction u with
  | nil => simp
  | cons a u ih =>
    rw [List.cons_append]
    have e : run p (a :: (u ++ x)) = run p (u ++ x) + 1 := by simp [run, h a List.mem_cons_self]
    rw [e, ih fun c hc => h c (List.mem_cons_of_mem _ hc), List.length_cons]; omega
theorem word_sym (r : Nat) (t : List UInt8) (n : Nat) (l : List UInt8) (h : BoldT t) : word r t n l = .sym 1 t n := by
  unfold word
  rw [if_neg h.no1, if_neg h.no2, if_neg (by have := h.few; omega)]
theorem low_up_map (t : List UInt8) (h : ∀ a ∈ t, capdig a = true) : (t.map low).map up = t := by
  rw [List.map_map]
  conv => rhs; rw [← List.map_id t]
  exact List.map_congr_left fun a ha => (capdig_facts a (h a ha)).2.1
theorem relex_bold0 (t b : List UInt8) (h : BoldT t) (hC : Cut b) : symbol 0 (t ++ b) = .sym 1 t t.length := by
  obtain ⟨c, s, hts, hc⟩ := h.head
  have hb : bold 0 (t ++ b) = some (t, t.length) := by
    have hr : run (fun c => capital c || digit c) (t ++ b) = t.length := by
      rw [run_all (fun c => capital c || digit c) t b h.all, run_cut _ hC (fun c hh => capdig_cut c hh)]; rfl
    rw [hts] at hr ⊢
    unfold bold
    dsimp only [List.cons_append]
    rw [if_pos (by decide), if_pos hc]
    rw [List.cons_append] at hr
    rw [hr, ← List.cons_append, List.take_left]
  have hp : permitted c = true := (capdig_facts c (h.all c (by rw [hts]; exact List.mem_cons_self))).2.2.2
  unfold symbol
  dsimp only
  have e0 : (t ++ b).getD 0 0 = c := by rw [hts]; rfl
  rw [e0, hp, if_neg (by decide), hb]
  exact word_sym 0 t _ _ h
theorem relex_bold (r : Nat) (hr : r = 1 ∨ r = 2) (t b : List UInt8) (h : BoldT t) (hC : Cut b) :
    symbol r ((if r = 1 then 46 :: t.map low else 39 :: t.map low ++ [39]) ++ b) = .sym 1 t (if r = 1 then 46 :: t.map low else 39 :: t.map low ++ [39]).length := by
  obtain ⟨c, s, hts, hc⟩ := h.head
  have hall : ∀ a ∈ t.map low, alnum a = true := fun a ha => by
    obtain ⟨b', hb', rfl⟩ := List.mem_map.1 ha
    exact (capdig_facts b' (h.all b' hb')).2.2.1
  have hlc : small (low (low c)) = true :=
    ascii256 (P := fun c => capital c = true → small (low (low c)) = true) (by decide +kernel) c hc
  have hmap : t.map low = low c :: s.map low := by rw [hts]; rfl
  rcases hr with rfl | rfl
  · rw [if_pos rfl, List.cons_append]
    have hb : bold 1 (46 :: (t.map low ++ b)) = some (t, t.length + 1) := by
      have hrun : run alnum (t.map low ++ b) = (t.map low).length := by
        rw [run_all _ _ b hall, run_cut _ hC (fun c hh => alnum_cut c hh)]; rfl
      unfold bold
      dsimp only
      have e1 : (t.map low ++ b).getD 0 0 = low c := by rw [hmap]; rfl
      rw [if_neg (by decide), e1, hlc, if_pos (by decide), hrun, if_neg (by decide), List.take_left, low_up_map t h.all, List.length_map]
    unfold symbol
    dsimp only
    have e0 : (46 :: (t.map low ++ b)).getD 0 0 = 46 := rfl
    rw [e0, if_neg (by decide), hb]
    dsimp only
    rw [word_sym 1 t _ _ h]
    congr 1
    simp only [List.length_cons, List.length_map]
  · rw [if_neg (by decide)]
    have ecat : 39 :: t.map low ++ [39] ++ b = 39 :: (t.map low ++ 39 :: b) := by simp
    rw [ecat]
    have hb : bold 2 (39 :: (t.map low ++ 39 :: b)) = some (t, t.length + 2) := by
      have hrun : run alnum (t.map low ++ 39 :: b) = (t.map low).length := by
        rw [run_all _ _ _ hall]
        have : run alnum (39 :: b) = 0 := by simp [run, show alnum 39 = false from by decide]
        rw [this]; rfl
      unfold bold
      dsimp only
      have e1 : (t.map low ++ 39 :: b).getD 0 0 = low c := by rw [hmap]; rfl
      rw [if_neg (by decide), e1, hlc, if_pos (by decide), hrun, if_pos (by decide), getD_behind]
      have e2 : (39 :: b).getD 0 0 = 39 := rfl
      rw [e2, if_pos (by decide), List.take_left, low_up_map t h.all, List.length_map]
    unfold symbol
    dsimp only
    have e0 : (39 :: (t.map low ++ 39 :: b)).getD 0 0 = 39 := rfl
    rw [e0, if_neg (by decide), hb]
    dsimp only
    rw [word_sym 2 t _ _ h]
    congr 1
    simp only [List.length_append, List.length_cons, List.length_nil, List.length_map]
/-- A symbol of whatever kind, written in a regime, is read as itself. -/
theorem relex (r : Nat) (hr : r ≤ 2) (x : Sym) (h : WF x.kind x.text) (b : List UInt8) (hC : Cut b) (hS : joins x = true → Stop r b) : symbol r (written x r ++ b) = .sym x.kind x.text (written x r).length := by
  obtain ⟨k, t, p⟩ := x
  have hq : b.getD 0 0 ≠ 34 := by
    rcases cut_getD hC with h' | h' | h'
    · rw [h']; decide
    · exact (not_capital _ (.inl h')).2.2.2.2.2.2.1
    · rw [h']; decide
  unfold written
  dsimp only at h hS ⊢
  cases h with
  | bold h =>
    rw [if_pos rfl]
    by_cases h0 : r = 0
    · subst h0; rw [if_pos rfl]; exact relex_bold0 t b h hC
    · rw [if_neg h0]; exact relex_bold r (by omega) t b h hC
  | tag h => exact relex_tag r t b h (hS rfl)
  | int h => exact relex_int r t b h (hS rfl)
  | real h => exact relex_real r t b h (hS rfl)
  | bits h => exact relex_bits r t b h (hS rfl)
  | str h => exact relex_str r t b h hq
  | fmt h => exact relex_fmt r t b h
  | sign h => exact relex_sign r t b h hC
theorem wf_kind {k : Int} {t : List UInt8} (h : WF k t) : 1 ≤ k ∧ k ≤ 8 := by cases h <;> decide
theorem wf_blank {k : Int} {t : List UInt8} (h : WF k t) (h6 : k ≠ 6) (h7 : k ≠ 7) : t.any blank = false := by
  have hd : ∀ d : List UInt8, (∀ a ∈ d, digit a = true) → ∀ a ∈ d, blank a = false := fun d h a ha => (digit_facts a (h a ha)).1
  rw [List.any_eq_false]
  intro a ha
  rw [Bool.not_eq_true]
  cases h with
  | bold h => exact (capdig_facts a (h.all a ha)).1
  | tag h => exact (smalldig_facts a (h.all a ha)).1
  | int h => exact (digit_facts a (h.all a ha)).1
  | real h =>
    obtain ⟨d, f, e, rfl, hda, hf, he, _, _⟩ := h.parts
    rw [List.mem_append, List.mem_append] at ha
    rcases ha with (ha | ha) | ha
    · exact hd d hda a ha
    · rcases hf with rfl | ⟨g, rfl, _, hg⟩
      · simp at ha
      · rcases List.mem_cons.1 ha with rfl | ha
        · decide
        · exact hd g hg a ha
    · rcases he with rfl | ⟨s, g, rfl, hs, _, hg⟩
      · simp at ha
      · rw [List.mem_append] at ha
        rcases ha with ha | ha
        · rcases List.mem_cons.1 ha with rfl | ha
          · decide
          · rcases hs with rfl | rfl | rfl
            · simp at ha
            · rw [List.mem_singleton] at ha; subst ha; decide
            · rw [List.mem_singleton] at ha; subst ha; decide
        · exact hd g hg a ha
  | bits h =>
    obtain ⟨d, y, rfl, _, hda, _, hya, _⟩ := h.parts
    rw [List.mem_append] at ha
    rcases ha with ha | ha
    · exact hd d hda a ha
    · rcases List.mem_cons.1 ha with rfl | ha
      · decide
      · exact (hexc_facts a (hya a ha)).1
  | str h => exact absurd rfl h6
  | fmt h => exact absurd rfl h7
  | sign h => exact (signs_plain t h a ha).1
theorem written_zero (x : Sym) : written x 0 = asText x.kind x.text := by
  unfold written
  by_cases h : x.kind = 1
  · rw [if_pos h, if_pos rfl]
    unfold asText
    rw [if_neg (by rw [h]; decide), if_neg (by rw [h]; decide)]
  · rw [if_neg h]
theorem written_ne (x : Sym) (r : Nat) (h : WF x.kind x.text) : ∃ c t, written x r = c :: t ∧ blank c = false := by
  obtain ⟨k, t, p⟩ := x
  dsimp only at h
  have hany := fun h6 h7 => wf_blank h h6 h7
  unfold written
  dsimp only
  have key : ∀ t : List UInt8, t ≠ [] → t.any blank = false → ∃ c s, t = c :: s ∧ blank c = false := fun t hne ht => by
    cases t with
    | nil => exact absurd rfl hne
    | cons c s =>
      rw [List.any_cons, Bool.or_eq_false_iff] at ht
      exact ⟨c, s, rfl, ht.1⟩
  cases h with
  | bold h =>
    rw [if_pos rfl]
    obtain ⟨c, s, hts, hc⟩ := h.head
    split
    · exact key t (by rw [hts]; simp) (hany (by decide) (by decide))
    · split
      · exact ⟨46, _, rfl, by decide⟩
      · exact ⟨39, _, rfl, by decide⟩
  | tag h =>
    obtain ⟨c, s, hts, hc⟩ := h.head
    exact key t (by rw [hts]; simp) (hany (by decide) (by decide))
  | int h => exact key t h.ne (hany (by decide) (by decide))
  | real h =>
    refine key t ?_ (hany (by decide) (by decide))
    obtain ⟨d, f, e, rfl, _, _, _, hdf, _⟩ := h.parts
    rcases hdf with h0 | h0
    · intro hh; rw [List.append_eq_nil_iff, List.append_eq_nil_iff] at hh; exact h0 hh.1.1
    · intro hh; rw [List.append_eq_nil_iff, List.append_eq_nil_iff] at hh; exact h0 hh.1.2
  | bits h =>
    refine key t ?_ (hany (by decide) (by decide))
    obtain ⟨d, y, rfl, _⟩ := h.parts
    simp
  | str h => exact ⟨34, _, rfl, by decide⟩
  | fmt h => exact ⟨36, _, rfl, by decide⟩
  | sign h => exact key t (signs_ne t h) (hany (by decide) (by decide))
/-- Check accepts every symbol that has its form. -/
theorem check_wf (x : Sym) (h : WF x.kind x.text) (hl : x.text.length ≤ 30000) : check x = 0 := by
  have hk := wf_kind h
  unfold check
  rw [if_neg (by omega), if_neg (by omega)]
  have hf : formed x.kind x.text = true := by
    unfold formed
    have hcond : ¬ (x.text.any blank && x.kind != 6 && x.kind != 7) = true := by
      intro hh
      rw [Bool.and_eq_true, Bool.and_eq_true, bne_iff_ne, bne_iff_ne] at hh
      rw [wf_blank h hh.1.2 hh.2] at hh
      exact absurd hh.1.1 (by decide)
    rw [if_neg hcond]
    have hre := relex 0 (by decide) x h [] cut_nil (fun _ => stop_nil 0)
    obtain ⟨c, t, hw, hc⟩ := written_ne x 0 h
    have hwl := dq_len x.text
    have hlen : (written x 0).length ≤ 60002 := by
      rw [written_zero]
      unfold asText
      split
      · simp only [List.length_append, List.length_cons, List.length_nil]; omega
      · split
        · simp only [List.length_append, List.length_cons, List.length_nil]; omega
        · omega
    rw [List.append_nil] at hre
    rw [← written_zero]
    rw [symbols_of_scan (written x 0) 0 [⟨x.kind, x.text, 0⟩] (by decide) (by decide) (by omega) ?_]
    · unfold lone
      simp
    · have hb : bl (written x 0) = 0 := by rw [hw]; exact bl_not c t hc
      rw [show (0 : Int).toNat = 0 from rfl, scan_step _ 0 _ 0 hb (by rw [hw]; simp), hre]
      dsimp only
      rw [List.drop_length, hw, List.length_cons, scan_end]
      rfl
  rw [if_pos hf]
end Sp
end Go.Proofs.YtjghijeblddijaaGreatDoor
namespace Go.Proofs.YtjghijeblddijaaGreatDoor
namespace Sp
theorem permitted_of (P : UInt8 → Bool) (h : ∀ k, k < 256 → P (UInt8.ofNat k) = true → (UInt8.ofNat k).toNat < 128) (c : UInt8) (hc : P c = true) : c.toNat < 128 :=
  ascii256 (P := fun c => P c = true → c.toNat < 128) h c hc
theorem wf_ascii {k : Int} {t : List UInt8} (h : WF k t) : ∀ a ∈ t, a.toNat < 128 := by
  have hd : ∀ d : List UInt8, (∀ a ∈ d, digit a = true) → ∀ a ∈ d, a.toNat < 128 := fun d h a ha => permitted_of digit (by decide +kernel) a (h a ha)
  intro a ha
  cases h with
  | bold h => exact permitted_of capdig (by decide +kernel) a (h.all a ha)
  | tag h => exact permitted_of smalldig (by decide +kernel) a (h.all a ha)
  | int h => exact hd t h.all a ha
  | real h =>
    obtain ⟨d, f, e, rfl, hda, hf, he, _, _⟩ := h.parts
    rw [List.mem_append, List.mem_append] at ha
    rcases ha with (ha | ha) | ha
    · exact hd d hda a ha
    · rcases hf with rfl | ⟨g, rfl, _, hg⟩
      · simp at ha
      · rcases List.mem_cons.1 ha with rfl | ha
        · decide
        · exact hd g hg a ha
    · rcases he with rfl | ⟨s, g, rfl, hs, _, hg⟩
      · simp at ha
      · rw [List.mem_append] at ha
        rcases ha with ha | ha
        · rcases List.mem_cons.1 ha with rfl | ha
          · decide
          · rcases hs with rfl | rfl | rfl
            · simp at ha
            · rw [List.mem_singleton] at ha; subst ha; decide
            · rw [List.mem_singleton] at ha; subst ha; decide
        · exact hd g hg a ha
  | bits h =>
    obtain ⟨d, y, rfl, _, hda, _, hya, _⟩ := h.parts
    rw [List.mem_append] at ha
    rcases ha with ha | ha
    · exact hd d hda a ha
    · rcases List.mem_cons.1 ha with rfl | ha
      · decide
      · exact permitted_of hexc (by decide +kernel) a (hya a ha)
  | str h => exact permitted_of plainC (by decide +kernel) a (h a ha)
  | fmt h =>
    have key : ∀ (t : List UInt8) (q : Bool), fmtOk t q = true → ∀ a ∈ t, plainC a = true := by
      intro t
      induction t with
      | nil => intro q _ a ha; simp at ha
      | cons c t ih =>
        intro q h a ha
        unfold fmtOk at h
        rw [Bool.and_eq_true, Bool.and_eq_true] at h
        rcases List.mem_cons.1 ha with rfl | ha
        · exact h.1.1
        · exact ih _ h.2 a ha
    exact permitted_of plainC (by decide +kernel) a (key t false h a ha)
  | sign h =>
    have := signs_plain
    have hall : ∀ s ∈ signs, ∀ c ∈ s, c.toNat < 128 := by decide +kernel
    exact hall t h a ha
theorem check_end (n : Int) : check ⟨0, [], n⟩ = 0 := by
  unfold check
  rw [if_neg (by dsimp only; decide), if_pos rfl, if_pos rfl]
/-- What the law looks at, symbol by symbol. -/
structure Seen (s : List UInt8) (regime : Int) (l : List Sym) (k : Nat) (x : Sym) : Prop where
  ok : check x = 0
  len : x.text.length ≤ 100000
  ascii : ∀ a ∈ x.text, a.toNat < 128
  last : (x.kind = 0) ↔ k + 1 = l.length
  asc : ∀ y j, k = j + 1 → l[j]? = some y → x.kind = 0 ∨ y.pos < x.pos
  pos0 : 0 ≤ x.pos
  pos1 : x.pos ≤ (s.length : Int)
  before : symbols (s.take x.pos.toNat) regime = .ok (l.take k ++ [⟨0, [], x.pos⟩])
theorem seen (s : List UInt8) (regime : Int) (l : List Sym) (h : symbols s regime = .ok l) (hs : s.length ≤ 9000) (k : Nat) (x : Sym) (hx : l[k]? = some x) : Seen s regime l k x := by
  have htake := symbols_take s regime l h k x hx
  obtain ⟨h0, h2, _, L, hL, rfl⟩ := symbols_ok_scan s regime l h
  have hform := scan_form _ _ _ _ _ (by omega) hL
  obtain ⟨a1, a2⟩ := scan_asc _ _ _ _ _ (by omega) (by omega) hL
  have hlt := (List.getElem?_eq_some_iff.1 hx).1
  rw [List.length_append, List.length_singleton] at hlt
  rcases Nat.lt_or_ge k L.length with hk | hk
  · rw [List.getElem?_append_left hk] at hx
    have hm := List.mem_of_getElem? hx
    obtain ⟨hw, hlen⟩ := hform x hm
    have hkk := wf_kind hw
    refine ⟨check_wf x hw (by omega), by omega, wf_ascii hw, ?_, ?_, htake.1, by have := htake.2.1; omega, htake.2.2⟩
    · rw [List.length_append, List.length_singleton]
      constructor
      · intro h; omega
      · intro h; omega
    · intro y j hj hy
      right
      subst hj
      rw [List.getElem?_append_left (by omega)] at hy
      rw [List.pairwise_iff_getElem] at a2
      obtain ⟨hj1, ej⟩ := List.getElem?_eq_some_iff.1 hy
      obtain ⟨hk1, ek⟩ := List.getElem?_eq_some_iff.1 hx
      have := a2 j (j + 1) hj1 hk1 (by omega)
      rw [ej, ek] at this
      exact this
  · rw [List.getElem?_append_right hk, show k - L.length = 0 from by omega] at hx
    have hx' : x = ⟨0, [], (s.length : Int)⟩ := by simpa using hx.symm
    subst hx'
    refine ⟨check_end _, by simp, fun a ha => by simp at ha, ?_, fun _ _ _ _ => .inl rfl, by simp, by simp, htake.2.2⟩
    rw [List.length_append, List.length_singleton]
    constructor
    · intro _; omega
    · intro _; rfl
theorem last_at (s : List UInt8) (regime : Int) (l : List Sym) (h : symbols s regime = .ok l) : ∃ n x, l.length = n + 1 ∧ l[n]? = some x ∧ x.pos = (s.length : Int) := by
  obtain ⟨_, _, _, L, _, rfl⟩ := symbols_ok_scan s regime l h
  refine ⟨L.length, ⟨0, [], (s.length : Int)⟩, by simp, ?_, rfl⟩
  rw [List.getElem?_append_right (Nat.le_refl _)]; simp
end Sp
end Go.Proofs.YtjghijeblddijaaGreatDoor
