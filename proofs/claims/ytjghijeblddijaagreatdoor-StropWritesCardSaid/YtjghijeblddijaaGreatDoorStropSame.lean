/- StropBack: the facts, in plain Lean: what Text writes is read as the symbols. Check by forms, in plain Lean: what the reference's Check says of a symbol is what Check says; Text, symbol by symbol. -/
import Derived.Test.YtjghijeblddijaaGreatDoorStropLexis
import Derived.Test.YtjghijeblddijaaGreatDoorStropTextW
import Derived.Test.YtjghijeblddijaaGreatDoorStropBlk
namespace Go.Proofs.YtjghijeblddijaaGreatDoor
namespace Sp
/-- What Text writes, where Check accepts all. -/
def bodyText (r : Nat) : Option Sym → List Sym → List UInt8
  | _, [] => []
  | p, x :: t => sep p x ++ written x r ++ bodyText r (some x) t
theorem body_ok (r : Nat) : ∀ (L : List Sym) (p : Option Sym), (∀ x ∈ L, check x = 0) → body r p L = .ok (bodyText r p L) := by
  intro L
  induction L with
  | nil => intro p _; rfl
  | cons x t ih =>
    intro p h
    rw [body_cons r p x t (h x List.mem_cons_self), ih (some x) fun y hy => h y (List.mem_cons_of_mem _ hy)]
    rfl
theorem upto_end (L : List Sym) (n : Int) (h : ∀ x ∈ L, x.kind ≠ 0) : upto (L ++ [⟨0, [], n⟩]) = L := by
  unfold upto
  have hf : (L ++ [(⟨0, [], n⟩ : Sym)]).findIdx? (fun x => x.kind == 0) = some L.length := by
    rw [List.findIdx?_eq_some_iff_getElem]
    refine ⟨by simp, by simp, fun j hj => ?_⟩
    rw [List.getElem_append_left hj]
    simpa using h _ (List.getElem_mem hj)
  rw [hf]
  dsimp only
  rw [List.getElem?_append_right (Nat.le_refl _), Nat.sub_self]
  dsimp only [List.getElem?_cons_zero]
  rw [if_pos (check_end n), List.take_left]
theorem text_end (L : List Sym) (n : Int) (r : Nat) (hr : r ≤ 2) (h : ∀ x ∈ L, x.kind ≠ 0 ∧ check x = 0) (hl : (bodyText r none L).length ≤ 65536) : text (L ++ [⟨0, [], n⟩]) (r : Int) = (bodyText r none L, 0) := by
  unfold text
  rw [if_neg (by omega), upto_end L n fun x hx => (h x hx).1, Int.toNat_natCast, body_ok r L none fun x hx => (h x hx).2]
  unfold finish
  dsimp only
  rw [if_neg (by omega)]
/-! what follows a symbol -/
theorem head_stop (r : Nat) (hr : r ≤ 2) (y : Sym) (h : WF y.kind y.text) (hj : joins y = false) (rest : List UInt8) : ∀ c s, written y r ++ rest = c :: s → letter r c = false ∧ digit c = false ∧ ¬ (c = 46 ∧ digit (s.getD 0 0) = true) := by
  obtain ⟨k, t, p⟩ := y
  dsimp only at h
  intro c s e
  unfold written at e
  dsimp only at e
  cases h with
  | tag h => rw [show joins ⟨2, t, p⟩ = true from rfl] at hj; cases hj
  | int h => rw [show joins ⟨3, t, p⟩ = true from rfl] at hj; cases hj
  | real h => rw [show joins ⟨4, t, p⟩ = true from rfl] at hj; cases hj
  | bits h => rw [show joins ⟨5, t, p⟩ = true from rfl] at hj; cases hj
  | bold h =>
    obtain ⟨d, u, hts, hd⟩ := h.head
    rw [if_pos rfl] at e
    split at e
    · rename_i h0
      rw [hts] at e
      injection e with e1 e2
      subst e1
      have := ascii256 (P := fun c => capital c = true → small c = false ∧ digit c = false ∧ c ≠ 46) (by decide +kernel) d hd
      refine ⟨?_, this.2.1, fun hh => this.2.2 hh.1⟩
      unfold letter
      rw [this.1, h0]; rfl
    · split at e
      · rw [hts] at e
        injection e with e1 e2
        subst e1
        refine ⟨?_, by decide, fun hh => ?_⟩
        · unfold letter; rw [show small 46 = false from by decide, show capital 46 = false from by decide]; simp
        · have h2 : s.getD 0 0 = low d := by rw [← e2]; rfl
          rw [h2] at hh
          have := ascii256 (P := fun c => capital c = true → digit (low c) = false) (by decide +kernel) d hd
          rw [this] at hh
          exact absurd hh.2 (by decide)
      · injection e with e1 e2
        subst e1
        refine ⟨?_, by decide, fun hh => absurd hh.1 (by decide)⟩
        unfold letter; rw [show small 39 = false from by decide, show capital 39 = false from by decide]; simp
  | str h =>
    injection e with e1 e2
    subst e1
    refine ⟨?_, by decide, fun hh => absurd hh.1 (by decide)⟩
    unfold letter; rw [show small 34 = false from by decide, show capital 34 = false from by decide]; simp
  | fmt h =>
    injection e with e1 e2
    subst e1
    refine ⟨?_, by decide, fun hh => absurd hh.1 (by decide)⟩
    unfold letter; rw [show small 36 = false from by decide, show capital 36 = false from by decide]; simp
  | sign h =>
    have e' : t ++ rest = c :: s := e
    cases t with
    | nil => exact absurd rfl (signs_ne _ h)
    | cons d u =>
      injection e' with e1 e2
      subst e1
      have := signs_head _ h d rfl
      refine ⟨?_, this.2.1.2.2, fun hh => this.2.2.1.1 hh.1⟩
      unfold letter; rw [this.2.1.1, this.2.1.2.1]; simp
theorem sep_cases (x y : Sym) : (sep (some x) y = [32, 35, 35, 32] ∧ joins x = true ∧ joins y = true) ∨ (sep (some x) y = [32] ∧ ¬ (joins x = true ∧ joins y = true)) := by
  unfold sep
  dsimp only
  by_cases h : (joins x && joins y) = true
  · rw [if_pos h]
    rw [Bool.and_eq_true] at h
    exact .inl ⟨rfl, h⟩
  · rw [if_neg h]
    rw [Bool.and_eq_true] at h
    exact .inr ⟨rfl, h⟩
theorem follow (r : Nat) (hr : r ≤ 2) (x : Sym) (t : List Sym) (h : ∀ y ∈ t, WF y.kind y.text) : Cut (bodyText r (some x) t) ∧ (joins x = true → Stop r (bodyText r (some x) t)) := by
  cases t with
  | nil => exact ⟨cut_nil, fun _ => stop_nil r⟩
  | cons y t =>
    have hy := h y List.mem_cons_self
    show Cut (sep (some x) y ++ written y r ++ bodyText r (some y) t) ∧ (joins x = true → Stop r (sep (some x) y ++ written y r ++ bodyText r (some y) t))
    rcases sep_cases x y with ⟨e, hx, hyj⟩ | ⟨e, hn⟩
    · rw [e]
      refine ⟨cut_blank 32 _ (by decide), fun _ => stop_hash r _ ((35 :: 32 :: written y r) ++ bodyText r (some y) t) ?_⟩
      show tl (32 :: 35 :: _) = _
      rw [tl_blank 32 _ (by decide)]
      exact tl_not 35 _ (by decide)
    · rw [e]
      refine ⟨cut_blank 32 _ (by decide), fun hx => ?_⟩
      have hyj : joins y = false := by
        cases hj : joins y with
        | false => rfl
        | true => exact absurd ⟨hx, hj⟩ hn
      obtain ⟨d, u, hw, hd⟩ := written_ne y r hy
      intro c s ec
      have e2 : tl ([32] ++ written y r ++ bodyText r (some y) t) = written y r ++ bodyText r (some y) t := by
        show tl (32 :: (written y r ++ bodyText r (some y) t)) = _
        rw [tl_blank 32 _ (by decide), hw]
        exact tl_not d _ hd
      rw [e2] at ec
      exact head_stop r hr y hy hyj _ c s ec
theorem scan_hash (r : Nat) (hr : r ≤ 2) (f pos : Nat) (rest : List UInt8) : scan (f + 1) r (32 :: 35 :: 35 :: 32 :: rest) pos = scan f r rest (pos + 4) := by
  rw [skip_blank 32 _ (by decide)]
  have hs : symbol r (35 :: 35 :: 32 :: rest) = .skip 2 r := by
    have : r = 0 ∨ r = 1 ∨ r = 2 := by omega
    rcases this with rfl | rfl | rfl <;> rfl
  rw [scan_step f r _ _ (bl_not 35 _ (by decide)) (by simp), hs]
  show scan f r (32 :: rest) (pos + 1 + 2) = _
  rw [skip_blank 32 _ (by decide)]
/-- What Text writes is read as the symbols. -/
theorem scan_body (r : Nat) (hr : r ≤ 2) : ∀ (t : List Sym) (x : Sym) (pos f : Nat), (∀ y ∈ x :: t, WF y.kind y.text) → (written x r ++ bodyText r (some x) t).length < f →
    ∃ L', Same (x :: t) L' ∧ scan f r (written x r ++ bodyText r (some x) t) pos = .ok L' := by
  intro t
  induction t with
  | nil =>
    intro x pos f h hf
    have hx := h x List.mem_cons_self
    obtain ⟨d, u, hw, hd⟩ := written_ne x r hx
    obtain ⟨f', rfl⟩ : ∃ f', f = f' + 1 := ⟨f - 1, by omega⟩
    have hre := relex r hr x hx [] cut_nil (fun _ => stop_nil r)
    have hb : bl (written x r ++ []) = 0 := by rw [hw]; exact bl_not d _ hd
    refine ⟨[⟨x.kind, x.text, (pos : Int)⟩], .cons ⟨rfl, rfl⟩ .nil, ?_⟩
    show scan (f' + 1) r (written x r ++ []) pos = _
    rw [scan_step f' r _ _ hb (by rw [hw]; simp), hre]
    dsimp only
    have hl : 1 ≤ (written x r).length := by rw [hw]; simp
    rw [List.length_append] at hf
    obtain ⟨f'', rfl⟩ : ∃ f'', f' = f'' + 1 := ⟨f' - 1, by omega⟩
    rw [List.drop_left, scan_end]; rfl
  | cons y t ih =>
    intro x pos f h hf
    have hx := h x List.mem_cons_self
    have ht : ∀ z ∈ y :: t, WF z.kind z.text := fun z hz => h z (List.mem_cons_of_mem _ hz)
    obtain ⟨d, u, hw, hd⟩ := written_ne x r hx
    obtain ⟨f', rfl⟩ : ∃ f', f = f' + 1 := ⟨f - 1, by omega⟩
    obtain ⟨hC, hS⟩ := follow r hr x (y :: t) ht
    have hre := relex r hr x hx _ hC hS
    have hb : bl (written x r ++ bodyText r (some x) (y :: t)) = 0 := by rw [hw]; exact bl_not d _ hd
    have hl : 1 ≤ (written x r).length := by rw [hw]; simp
    rw [scan_step f' r _ _ hb (by rw [hw]; simp), hre]
    dsimp only
    rw [List.drop_left]
    rw [List.length_append] at hf
    have hbt : bodyText r (some x) (y :: t) = sep (some x) y ++ (written y r ++ bodyText r (some y) t) := by
      show sep (some x) y ++ written y r ++ bodyText r (some y) t = _
      rw [List.append_assoc]
    rw [hbt] at hf ⊢
    rw [List.length_append] at hf
    rcases sep_cases x y with ⟨e, _⟩ | ⟨e, _⟩
    · rw [e] at hf ⊢
      have h4 : ([32, 35, 35, 32] : List UInt8).length = 4 := rfl
      rw [h4] at hf
      obtain ⟨f'', rfl⟩ : ∃ f'', f' = f'' + 1 := ⟨f' - 1, by omega⟩
      obtain ⟨L', hL1, hL2⟩ := ih y (pos + (written x r).length + 4) f'' ht (by omega)
      refine ⟨⟨x.kind, x.text, (pos : Int)⟩ :: L', .cons ⟨rfl, rfl⟩ hL1, ?_⟩
      show more _ (scan (f'' + 1) r (32 :: 35 :: 35 :: 32 :: (written y r ++ bodyText r (some y) t)) (pos + (written x r).length)) = _
      rw [scan_hash r hr, hL2]; rfl
    · rw [e] at hf ⊢
      have h1 : ([32] : List UInt8).length = 1 := rfl
      rw [h1] at hf
      obtain ⟨L', hL1, hL2⟩ := ih y (pos + (written x r).length + 1) f' ht (by omega)
      refine ⟨⟨x.kind, x.text, (pos : Int)⟩ :: L', .cons ⟨rfl, rfl⟩ hL1, ?_⟩
      show more _ (scan f' r (32 :: (written y r ++ bodyText r (some y) t)) (pos + (written x r).length)) = _
      rw [skip_blank 32 _ (by decide), hL2]; rfl
theorem symbols_body (r : Nat) (hr : r ≤ 2) (L : List Sym) (h : ∀ y ∈ L, WF y.kind y.text) (hl : (bodyText r none L).length ≤ 65536) :
    ∃ L' n, Same L L' ∧ symbols (bodyText r none L) (r : Int) = .ok (L' ++ [⟨0, [], n⟩]) := by
  cases L with
  | nil =>
    refine ⟨[], 0, .nil, ?_⟩
    have := symbols_of_scan [] (r : Int) [] (by omega) (by omega) (by simp) (scan_end _ _ _)
    exact this
  | cons x t =>
    have e : bodyText r none (x :: t) = written x r ++ bodyText r (some x) t := rfl
    rw [e] at hl ⊢
    obtain ⟨L', h1, h2⟩ := scan_body r hr t x 0 ((written x r ++ bodyText r (some x) t).length + 1) h (by omega)
    exact ⟨L', _, h1, symbols_of_scan _ (r : Int) L' (by omega) (by omega) hl (by rw [Int.toNat_natCast]; exact h2)⟩
theorem same_joins {x y : Sym} (h : x.kind = y.kind) : joins x = joins y := by unfold joins; rw [h]
theorem same_written {x y : Sym} (h : x.kind = y.kind ∧ x.text = y.text) (r : Nat) : written x r = written y r := by unfold written; rw [h.1, h.2]
theorem same_body (r : Nat) {L L' : List Sym} (h : Same L L') : ∀ p q : Option Sym, (∀ y, sep p y = sep q y) → bodyText r p L = bodyText r q L' := by
  induction h with
  | nil => intro p q _; rfl
  | @cons x y a b hxy hab ih =>
    intro p q hpq
    show sep p x ++ written x r ++ bodyText r (some x) a = sep q y ++ written y r ++ bodyText r (some y) b
    rw [same_written hxy, ih (some x) (some y) fun z => by unfold sep; dsimp only; rw [same_joins hxy.1]]
    have : sep p x = sep q y := by
      rw [hpq x]
      unfold sep
      cases q with
      | none => rfl
      | some w => dsimp only; rw [same_joins hxy.1]
    rw [this]
theorem same_wf {L L' : List Sym} (h : Same L L') : (∀ y ∈ L, WF y.kind y.text) → ∀ y ∈ L', WF y.kind y.text := by
  induction h with
  | nil => intro _ y hy; simp at hy
  | cons hxy _ ih =>
    intro hw y hy
    rcases List.mem_cons.1 hy with rfl | hy
    · rw [← hxy.1, ← hxy.2]; exact hw _ List.mem_cons_self
    · exact ih (fun z hz => hw z (List.mem_cons_of_mem _ hz)) y hy
theorem same_lens {L L' : List Sym} (h : Same L L') (n : Nat) : (∀ y ∈ L, y.text.length ≤ n) → ∀ y ∈ L', y.text.length ≤ n := by
  induction h with
  | nil => intro _ y hy; simp at hy
  | cons hxy _ ih =>
    intro hw y hy
    rcases List.mem_cons.1 hy with rfl | hy
    · rw [← hxy.2]; exact hw _ List.mem_cons_self
    · exact ih (fun z hz => hw z (List.mem_cons_of_mem _ hz)) y hy
/-! how long what Text writes is -/
theorem spreadGo_len2 (p : UInt8 → Bool) (l : List UInt8) : ∀ k, (spreadGo p l k).1.length ≤ (spreadGo p l k).2 := by
  induction l with
  | nil => intro k; simp [spreadGo]
  | cons c t ih =>
    intro k
    cases hb : blank c with
    | true => rw [spreadGo_blank p c t k hb]; exact ih _
    | false =>
      cases hp : p c with
      | true => rw [spreadGo_yes p c t k hb hp]; have := ih 0; simp only [List.length_cons]; omega
      | false => rw [spreadGo_not p c t k hb hp]; simp
theorem spread_len2 (p : UInt8 → Bool) (l : List UInt8) : (spread p l).1.length ≤ (spread p l).2 := by
  cases l with
  | nil => simp [spread]
  | cons c t =>
    cases hp : p c with
    | true => rw [spread_yes p c t hp]; have := spreadGo_len2 p t 0; simp only [List.length_cons]; omega
    | false => rw [spread_not p c t hp]; simp
theorem radix_len2 (r : Nat) (l : List UInt8) : (radix r l).1.length ≤ (radix r l).2 := by
  rw [radix_eq]
  split
  · split
    · simp
    · have := spread_len2 (hexish r) (tl ((tl l).drop 1)); simp only [List.length_cons]; omega
  · simp
theorem fraction_len2 (l : List UInt8) : (fraction l).1.length ≤ (fraction l).2 := by
  rw [fraction_eq]
  split
  · have := spread_len2 digit ((tl l).drop 1); simp only [List.length_cons]; omega
  · simp
theorem expo_len2 (m : List UInt8) : (expo m).1.length ≤ (expo m).2 + 1 := by
  unfold expo
  split
  · split
    · simp
    · have := spread_len2 digit (tl ((tl m).drop 1)); simp only [List.length_cons]; omega
  · split
    · simp
    · have := spread_len2 digit (tl m); simp only [List.length_cons]; omega
theorem exponent_len2 (r : Nat) (l : List UInt8) : (exponent r l).1.length ≤ (exponent r l).2 := by
  rw [exponent_eq]
  split
  · split
    · simp
    · have := expo_len2 ((tl l).drop 1); dsimp only; omega
  · simp
theorem bold_len2 (r : Nat) (l w : List UInt8) (n : Nat) (h : bold r l = some (w, n)) : w.length ≤ n := by
  cases l with
  | nil => simp [bold] at h
  | cons c t =>
    unfold bold at h
    dsimp only at h
    split at h
    · split at h
      · injection h with h
        injection h with h1 h2
        subst h1; subst h2
        rw [List.length_take]; omega
      · cases h
    · split at h
      · split at h
        · split at h
          · injection h with h
            injection h with h1 h2
            subst h1; subst h2
            rw [List.length_map, List.length_take]; omega
          · cases h
        · injection h with h
          injection h with h1 h2
          subst h1; subst h2
          rw [List.length_map, List.length_take]; omega
      · cases h
theorem number_len2 (r : Nat) (l : List UInt8) (k : Int) (x : List UInt8) (n : Nat) (h : number r l = .sym k x n) : (k = 3 ∨ k = 4 ∨ k = 5) ∧ x.length ≤ n := by
  have e0 := spread_len2 digit l
  have e1 := radix_len2 r (l.drop (spread digit l).2)
  have e2 := fraction_len2 (l.drop (spread digit l).2)
  have e3 := exponent_len2 r (l.drop ((spread digit l).2 + (fraction (l.drop (spread digit l).2)).2))
  unfold number at h
  dsimp only at h
  generalize exponent r (l.drop ((spread digit l).2 + (fraction (l.drop (spread digit l).2)).2)) = e at *
  generalize fraction (l.drop (spread digit l).2) = f at *
  generalize radix r (l.drop (spread digit l).2) = y at *
  generalize spread digit l = d at *
  split at h
  · split at h
    · cases h
    · split at h
      · injection h with h1 h2 h3
        rw [← h2, ← h3, List.length_append]
        exact ⟨.inr (.inr h1.symm), by omega⟩
      · cases h
  · split at h
    · cases h
    · injection h with h1 h2 h3
      rw [← h2, ← h3, List.length_append, List.length_append]
      refine ⟨?_, by omega⟩
      rw [← h1]
      split
      · exact .inl rfl
      · exact .inr (.inl rfl)
theorem written_le (r0 r : Nat) (l : List UInt8) (hl : l ≠ []) (k : Int) (t : List UInt8) (n : Nat) (p : Int) (h : symbol r0 l = .sym k t n) : (written ⟨k, t, p⟩ r).length ≤ n + 2 := by
  cases l with
  | nil => exact absurd rfl hl
  | cons c s =>
  unfold symbol at h
  dsimp only at h
  split at h
  · cases h
  · split at h
    · rename_i w m hb
      have hwl := bold_len2 _ _ _ _ hb
      unfold word at h
      split at h
      · split at h <;> cases h
      · split at h
        · split at h <;> cases h
        · split at h
          · cases h
          · injection h with h1 h2 h3
            subst h1; subst h2; subst h3
            unfold written
            dsimp only
            rw [if_pos rfl]
            split
            · omega
            · split
              · simp only [List.length_cons, List.length_map]; omega
              · simp only [List.length_append, List.length_cons, List.length_map, List.length_nil]; omega
    · split at h
      · unfold tag at h
        dsimp only at h
        split at h
        · cases h
        · injection h with h1 h2 h3
          have := spread_len2 (fun c => letter r0 c || digit c) (c :: s)
          subst h1; subst h2; subst h3
          show (spread (fun c => letter r0 c || digit c) (c :: s)).1.length ≤ _
          omega
      · split at h
        · obtain ⟨hk, hn⟩ := number_len2 r0 (c :: s) k t n h
          have hw : written ⟨k, t, p⟩ r = t := by
            rcases hk with hk | hk | hk <;> (rw [hk]; rfl)
          rw [hw]; omega
        · split at h
          · unfold quoted at h
            split at h
            · rename_i b m he
              injection h with h1 h2 h3
              have := (quotedGo_form _ _ _ _ he).2
              subst h1; subst h2; subst h3
              show (34 :: dq b ++ [34]).length ≤ _
              simp only [List.length_append, List.length_cons, List.length_nil]; omega
            · cases h
          · split at h
            · unfold format at h
              split at h
              · rename_i b m he
                injection h with h1 h2 h3
                have := (formatGo_form _ _ _ _ _ he).2
                subst h1; subst h2; subst h3
                show (36 :: b ++ [36]).length ≤ _
                simp only [List.length_append, List.length_cons, List.length_nil]; omega
              · cases h
            · split at h
              · unfold comment at h
                split at h <;> cases h
              · unfold sign at h
                split at h
                · rename_i s' hs
                  injection h with h1 h2 h3
                  subst h1; subst h2; subst h3
                  show s'.length ≤ _
                  omega
                · cases h
theorem sep_len (p : Option Sym) (x : Sym) : (sep p x).length ≤ 4 := by
  unfold sep
  split
  · simp
  · split <;> decide
theorem body_len (r : Nat) : ∀ (f r0 : Nat) (l : List UInt8) (pos : Nat) (L : List Sym) (p : Option Sym), r0 ≤ 2 → scan f r0 l pos = .ok L → (bodyText r p L).length ≤ 7 * l.length := by
  intro f
  induction f with
  | zero => intro r0 l pos L p _ h; cases h
  | succ f ih =>
    intro r0 l pos L p hr h
    have hl := bl_tl l
    rcases scan_ok f r0 l pos L hr h with ⟨_, rfl⟩ | ⟨h0, ⟨k, t, n, L', hs, h1, h2, h3, rfl⟩ | ⟨n, r', hs, h1, h2, h4, h3⟩⟩
    · simp [bodyText]
    · have hi := ih r0 _ _ _ (some ⟨k, t, ((pos + bl l : Nat) : Int)⟩) hr h3
      have hw := written_le r0 r _ h0 k t n ((pos + bl l : Nat) : Int) hs
      have hse := sep_len p ⟨k, t, ((pos + bl l : Nat) : Int)⟩
      rw [List.length_drop] at hi
      show (sep p _ ++ written _ r ++ bodyText r (some _) L').length ≤ _
      rw [List.length_append, List.length_append]
      omega
    · have hi := ih r' _ _ _ p h4 h3
      rw [List.length_drop] at hi
      omega
/-- The law, for a text of at most 9000 bytes. -/
theorem back (s : List UInt8) (fr : Int) (l : List Sym) (h : symbols s fr = .ok l) (hs : s.length ≤ 9000) (to : Nat) (ht : to ≤ 2) :
    ∃ o m, text l (to : Int) = (o, 0) ∧ symbols o (to : Int) = .ok m ∧ alike l m = true ∧ text m (to : Int) = (o, 0) ∧ o.length ≤ 65536 ∧ (∀ x ∈ l, x.text.length ≤ 100000 ∧ ∀ c ∈ x.text, c.toNat < 128) ∧ (∀ x ∈ m, x.text.length ≤ 100000 ∧ ∀ c ∈ x.text, c.toNat < 128) := by
  obtain ⟨h0, h2, _, L, hL, rfl⟩ := symbols_ok_scan s fr l h
  have hform := scan_form _ _ _ _ _ (by omega) hL
  have hwf : ∀ y ∈ L, WF y.kind y.text := fun y hy => (hform y hy).1
  have hlen : ∀ y ∈ L, y.text.length ≤ 30000 := fun y hy => by have := (hform y hy).2; omega
  have hb := body_len to _ _ _ _ L none (by omega) hL
  have hok : ∀ L : List Sym, (∀ y ∈ L, WF y.kind y.text) → (∀ y ∈ L, y.text.length ≤ 30000) → ∀ x ∈ L, x.kind ≠ 0 ∧ check x = 0 := fun L hw hl x hx =>
    ⟨by have := wf_kind (hw x hx); omega, check_wf x (hw x hx) (hl x hx)⟩
  obtain ⟨L', n, hsame, hsym⟩ := symbols_body to ht L hwf (by omega)
  have hbody := same_body to hsame none none fun _ => rfl
  have hwf' := same_wf hsame hwf
  have hlen' := same_lens hsame 30000 hlen
  have small : ∀ (L : List Sym) (n : Int), (∀ y ∈ L, WF y.kind y.text) → (∀ y ∈ L, y.text.length ≤ 30000) → ∀ x ∈ L ++ [(⟨0, [], n⟩ : Sym)], x.text.length ≤ 100000 ∧ ∀ c ∈ x.text, c.toNat < 128 := fun L n hw hl x hx => by
    rcases List.mem_append.1 hx with hx | hx
    · exact ⟨by have := hl x hx; omega, wf_ascii (hw x hx)⟩
    · rw [List.mem_singleton] at hx
      subst hx
      exact ⟨by simp, fun c hc => by simp at hc⟩
  refine ⟨bodyText to none L, L' ++ [⟨0, [], n⟩], text_end L _ to ht (hok L hwf hlen) (by omega), hsym, alike_of _ _ (same_app hsame (.cons ⟨rfl, rfl⟩ .nil)), ?_, by omega, small L _ hwf hlen, small L' n hwf' hlen'⟩
  rw [text_end L' n to ht (hok L' hwf' hlen') (by rw [← hbody]; omega), hbody]
end Sp
end Go.Proofs.YtjghijeblddijaaGreatDoor
namespace Go.Proofs.YtjghijeblddijaaGreatDoor
namespace Sp
theorem wf_of_lone (k : Int) (s T : List UInt8) (h : lone k s (symbols T 0) = true) : WF k s := by
  cases hx : symbols T 0 with
  | error f => rw [hx] at h; cases h
  | ok l =>
    rw [hx] at h
    obtain ⟨_, _, _, L, hL, rfl⟩ := symbols_ok_scan T 0 l hx
    have hform := scan_form _ _ _ _ _ (by decide) hL
    cases L with
    | nil => cases h
    | cons x t =>
      cases t with
      | nil =>
        have h' : (x.kind == k && x.text == s) = true := h
        rw [Bool.and_eq_true, beq_iff_eq, beq_iff_eq] at h'
        rw [← h'.1, ← h'.2]
        exact (hform x (List.mem_singleton.2 rfl)).1
      | cons y u => cases u <;> cases h
theorem formed_wf (k : Int) (s : List UInt8) (h : formed k s = true) : WF k s := by
  unfold formed at h
  split at h
  · cases h
  · exact wf_of_lone _ _ _ h
theorem wf_formed {k : Int} {s : List UInt8} (h : WF k s) (hl : s.length ≤ 30000) : formed k s = true := by
  have hk := wf_kind h
  have hc := check_wf ⟨k, s, 0⟩ h hl
  unfold check at hc
  dsimp only at hc
  rw [if_neg (by omega), if_neg (by omega)] at hc
  by_cases hf : formed k s = true
  · exact hf
  · rw [if_neg hf] at hc; exact absurd hc (by decide)
theorem wf_lone {k : Int} {s : List UInt8} (h : WF k s) (hl : s.length ≤ 30000) : lone k s (symbols (asText k s) 0) = true := by
  have := wf_formed h hl
  unfold formed at this
  split at this
  · cases this
  · exact this
theorem wf_str {k : Int} {t : List UInt8} (h : WF k t) (hk : k = 6) : StrT t := by
  cases h <;> first | assumption | exact absurd hk (by decide)
/-- What the reference's Check computes. -/
def rcheck (x : Sym) : Int :=
  if x.kind < 0 ∨ 8 < x.kind then 13
  else if x.kind = 0 then (if x.text = [] then 0 else 2)
  else if x.kind = 6 then (if x.text.all plainC = true then 0 else 2)
  else if lone x.kind x.text (symbols (asText x.kind x.text) 0) = true then 0 else 2
theorem rcheck_eq (x : Sym) (hl : x.text.length ≤ 30000) : rcheck x = check x := by
  unfold rcheck check
  by_cases h1 : x.kind < 0 ∨ 8 < x.kind
  · rw [if_pos h1, if_pos h1]
  rw [if_neg h1, if_neg h1]
  by_cases h0 : x.kind = 0
  · rw [if_pos h0, if_pos h0]
  rw [if_neg h0, if_neg h0]
  by_cases h6 : x.kind = 6
  · rw [if_pos h6]
    by_cases hp : x.text.all plainC = true
    · have hw : WF x.kind x.text := by rw [h6]; exact .str (List.all_eq_true.1 hp)
      rw [if_pos hp, if_pos (wf_formed hw hl)]
    · rw [if_neg hp, if_neg (fun h => hp (List.all_eq_true.2 (wf_str (formed_wf _ _ h) h6)))]
  · rw [if_neg h6]
    by_cases hf : formed x.kind x.text = true
    · rw [if_pos hf, if_pos (wf_lone (formed_wf _ _ hf) hl)]
    · rw [if_neg hf, if_neg (fun h => hf (wf_formed (wf_of_lone _ _ _ h) hl))]
theorem check_form (x : Sym) (h : check x = 0) (hk : x.kind ≠ 0) : WF x.kind x.text := by
  unfold check at h
  by_cases h1 : x.kind < 0 ∨ 8 < x.kind
  · rw [if_pos h1] at h; exact absurd h (by decide)
  rw [if_neg h1, if_neg hk] at h
  by_cases hf : formed x.kind x.text = true
  · exact formed_wf _ _ hf
  · rw [if_neg hf] at h; exact absurd h (by decide)
/-- How many symbols stand before the end. -/
def ends (l : List Sym) : Nat :=
  match l.findIdx? (fun x => x.kind == 0) with
  | none => l.length
  | some i => i
theorem ends_at (l : List Sym) (n : Nat) (h0 : ∀ j x, j < n → l[j]? = some x → x.kind ≠ 0) (h1 : n = l.length ∨ ∃ x, l[n]? = some x ∧ x.kind = 0) : ends l = n := by
  unfold ends
  cases hf : l.findIdx? (fun x => x.kind == 0) with
  | none =>
    rcases h1 with h1 | ⟨x, hx, hk⟩
    · exact h1.symm
    · rw [List.findIdx?_eq_none_iff] at hf
      have := hf x (List.mem_of_getElem? hx)
      rw [hk] at this; cases this
  | some i =>
    rw [List.findIdx?_eq_some_iff_getElem] at hf
    obtain ⟨hi, hk, hb⟩ := hf
    dsimp only
    rcases Nat.lt_trichotomy i n with h | h | h
    · exact absurd (beq_iff_eq.1 hk) (h0 i _ h (List.getElem?_eq_getElem hi))
    · exact h
    · rcases h1 with h1 | ⟨x, hx, hk2⟩
      · omega
      · have := hb n h
        rw [List.getElem?_eq_getElem (by omega)] at hx
        injection hx with hx
        rw [hx, hk2] at this
        exact absurd rfl this
theorem body_err (r : Nat) : ∀ (l : List Sym) (p : Option Sym) (i : Nat) (x : Sym), l[i]? = some x → (∀ j y, j < i → l[j]? = some y → check y = 0) → check x ≠ 0 → body r p l = .error (check x) := by
  intro l
  induction l with
  | nil => intro p i x h; simp at h
  | cons a t ih =>
    intro p i x h hb hx
    cases i with
    | zero =>
      have : a = x := by simpa using h
      subst this
      exact body_bad r p a t hx
    | succ i =>
      rw [body_cons r p a t (hb 0 a (by omega) rfl), ih (some a) i x (by simpa using h) (fun j y hj hy => hb (j + 1) y (by omega) (by simpa using hy)) hx]
      rfl
theorem upto_ends (l : List Sym) : upto l = l.take (ends l) ∨ (∃ x, l[ends l]? = some x ∧ x.kind = 0 ∧ check x ≠ 0 ∧ upto l = l.take (ends l + 1)) := by
  unfold upto ends
  cases hf : l.findIdx? (fun x => x.kind == 0) with
  | none => left; dsimp only; rw [List.take_length]
  | some i =>
    rw [List.findIdx?_eq_some_iff_getElem] at hf
    obtain ⟨hi, hk, _⟩ := hf
    dsimp only
    rw [List.getElem?_eq_getElem hi]
    dsimp only
    split
    · left; rfl
    · rename_i hc
      right
      exact ⟨_, rfl, beq_iff_eq.1 hk, hc, rfl⟩
/-- Text where a symbol is wrong. -/
theorem text_bad (l : List Sym) (r : Int) (h0 : 0 ≤ r) (h2 : r ≤ 2) (i : Nat) (x : Sym) (hi : i ≤ ends l) (hx : l[i]? = some x) (hb : ∀ j y, j < i → l[j]? = some y → check y = 0) (hc : check x ≠ 0) : text l r = ([], check x) := by
  unfold text
  rw [if_neg (by omega)]
  have hu : (upto l)[i]? = some x ∧ ∀ j y, j < i → (upto l)[j]? = some y → check y = 0 := by
    have hn : i < l.length := (List.getElem?_eq_some_iff.1 hx).1
    rcases upto_ends l with he | ⟨y, hy, hyk, hyc, he⟩
    · have hne : i < ends l := by
        rcases Nat.lt_or_ge i (ends l) with h | h
        · exact h
        · exfalso
          have hie : i = ends l := by omega
          unfold upto ends at he
          unfold ends at hie
          cases hf : l.findIdx? (fun x => x.kind == 0) with
          | none => rw [hf] at hie; dsimp only at hie; omega
          | some k =>
            rw [hf] at he hie
            dsimp only at he hie
            subst hie
            rw [hx] at he
            dsimp only at he
            rw [if_neg hc] at he
            have := congrArg List.length he
            rw [List.length_take, List.length_take] at this
            omega
      rw [he]
      exact ⟨by rw [List.getElem?_take_of_lt hne]; exact hx, fun j y hj hy => hb j y hj (by rw [List.getElem?_take_of_lt (by omega)] at hy; exact hy)⟩
    · rw [he]
      exact ⟨by rw [List.getElem?_take_of_lt (by omega)]; exact hx, fun j y hj hy => hb j y hj (by rw [List.getElem?_take_of_lt (by omega)] at hy; exact hy)⟩
  rw [body_err r.toNat _ none i x hu.1 hu.2 hc]
  rfl
/-- Text where all symbols are right. -/
theorem text_good (l : List Sym) (r : Int) (h0 : 0 ≤ r) (h2 : r ≤ 2) (hb : ∀ j y, j ≤ ends l → l[j]? = some y → check y = 0) : text l r = finish (.ok (bodyText r.toNat none (l.take (ends l)))) := by
  unfold text
  rw [if_neg (by omega)]
  have hu : upto l = l.take (ends l) := by
    rcases upto_ends l with he | ⟨y, hy, hyk, hyc, he⟩
    · exact he
    · exact absurd (hb _ y (Nat.le_refl _) hy) hyc
  rw [hu, body_ok]
  intro x hx
  obtain ⟨j, hj⟩ := List.getElem?_of_mem hx
  have hlt := (List.getElem?_eq_some_iff.1 hj).1
  rw [List.length_take] at hlt
  rw [List.getElem?_take_of_lt (by omega)] at hj
  exact hb j x (by omega) hj
theorem written_len (x : Sym) (r : Nat) : (written x r).length ≤ 2 * x.text.length + 2 := by
  have := dq_len x.text
  unfold written asText
  repeat' split
  all_goals first | (simp only [List.length_append, List.length_cons, List.length_nil, List.length_map]; omega) | omega
/-- How long the texts are together. -/
def total : List Sym → Nat
  | [] => 0
  | x :: t => x.text.length + total t
theorem bodyText_len (r : Nat) : ∀ (L : List Sym) (p : Option Sym), (bodyText r p L).length ≤ 6 * L.length + 2 * total L := by
  intro L
  induction L with
  | nil => intro p; simp [bodyText]
  | cons x t ih =>
    intro p
    have h1 := written_len x r
    have h2 := sep_len p x
    have h3 := ih (some x)
    rw [bodyText, total, List.length_append, List.length_append, List.length_cons]
    omega
theorem total_take : ∀ (L : List Sym) (n : Nat), total (L.take n) ≤ total L := by
  intro L
  induction L with
  | nil => intro n; simp [total]
  | cons x t ih =>
    intro n
    cases n with
    | zero => simp [total]
    | succ n => rw [List.take_succ_cons, total, total]; have := ih n; omega
theorem bodyText_snoc (r : Nat) (x : Sym) : ∀ (L : List Sym) (p : Option Sym), bodyText r p (L ++ [x]) = bodyText r p L ++ (sep (L.getLast?.or p) x ++ written x r) := by
  intro L
  induction L with
  | nil => intro p; simp [bodyText]
  | cons a t ih =>
    intro p
    rw [List.cons_append, bodyText, bodyText, ih (some a)]
    have : ((a :: t).getLast?.or p) = (t.getLast?.or (some a)) := by
      cases t with
      | nil => rfl
      | cons b u => rw [List.getLast?_cons_cons]; simp [List.getLast?_cons]
    rw [this]
    simp [List.append_assoc]
end Sp
end Go.Proofs.YtjghijeblddijaaGreatDoor
