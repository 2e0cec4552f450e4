/- A scan that is cut at the begin of a symbol: the symbols before it; further blanks and comments before it. -/
import Derived.Test.YtjghijeblddijaaGreatDoorStropCutC
namespace Go.Proofs.YtjghijeblddijaaGreatDoor
namespace Sp
theorem bl_tl (l : List UInt8) : (tl l).length + bl l = l.length := by
  unfold tl
  have := bl_le l
  rw [List.length_drop]; omega
theorem scan_tl (f r : Nat) (l : List UInt8) (pos : Nat) : scan f r l pos = scan f r (tl l) (pos + bl l) := scan_skip f r l pos
theorem bl_of_tl (l : List UInt8) : bl (tl l) = 0 := bl_drop l
theorem shR_zero (x : Except (Int × Int) (List Sym)) : shR 0 x = x := by
  cases x with
  | error f => simp [shR]
  | ok l =>
    show Except.ok (l.map (sh 0)) = _
    rw [show sh 0 = id from by funext y; simp [sh]]
    simp
theorem scan_fuel (f f' r : Nat) (l : List UInt8) (pos : Nat) (hr : r ≤ 2) (h : l.length < f) (h' : l.length < f') : scan f' r l pos = scan f r l pos := by
  have := scan_far 0 f f' r l pos hr h h'
  rw [Nat.add_zero, shR_zero] at this
  exact this
theorem more_ok {out L : List Sym} {x : Except (Int × Int) (List Sym)} (h : more out x = .ok L) : ∃ L', x = .ok L' ∧ L = out ++ L' := by
  cases x with
  | error f => cases h
  | ok l => exact ⟨l, rfl, by injection h with h; exact h.symm⟩
theorem scan_ok (f r : Nat) (l : List UInt8) (pos : Nat) (L : List Sym) (hr : r ≤ 2) (h : scan (f + 1) r l pos = .ok L) :
    (tl l = [] ∧ L = []) ∨ (tl l ≠ [] ∧ ((∃ k t n L', symbol r (tl l) = .sym k t n ∧ 1 ≤ n ∧ n ≤ (tl l).length ∧ scan f r ((tl l).drop n) (pos + bl l + n) = .ok L' ∧ L = ⟨k, t, ((pos + bl l : Nat) : Int)⟩ :: L') ∨
      (∃ n r', symbol r (tl l) = .skip n r' ∧ 1 ≤ n ∧ n ≤ (tl l).length ∧ r' ≤ 2 ∧ scan f r' ((tl l).drop n) (pos + bl l + n) = .ok L))) := by
  rw [scan_tl] at h
  by_cases h0 : tl l = []
  · rw [h0, scan_end] at h
    injection h with h
    exact .inl ⟨h0, h.symm⟩
  · refine .inr ⟨h0, ?_⟩
    rw [scan_step f r (tl l) _ (bl_of_tl l) h0] at h
    have ha := symbol_adv r (tl l) hr h0
    cases hs : symbol r (tl l) with
    | sym k t n =>
      rw [hs] at h ha
      obtain ⟨L', h1, h2⟩ := more_ok h
      exact .inl ⟨k, t, n, L', rfl, ha.1, ha.2, h1, h2⟩
    | skip n r' =>
      rw [hs] at h ha
      exact .inr ⟨n, r', rfl, ha.1, ha.2.1, ha.2.2, h⟩
    | fault o c => rw [hs] at h; cases h
theorem scan_asc : ∀ (f r : Nat) (l : List UInt8) (pos : Nat) (L : List Sym), r ≤ 2 → l.length < f → scan f r l pos = .ok L →
    (∀ y ∈ L, (pos : Int) ≤ y.pos ∧ y.pos < ((pos + l.length : Nat) : Int)) ∧ L.Pairwise (fun a b => a.pos < b.pos) := by
  intro f
  induction f with
  | zero => intro _ _ _ _ _ h; exact absurd h (Nat.not_lt_zero _)
  | succ f ih =>
    intro r l pos L hr hf h
    have hl := bl_tl l
    rcases scan_ok f r l pos L hr h with ⟨_, rfl⟩ | ⟨h0, ⟨k, t, n, L', hs, h1, h2, h3, rfl⟩ | ⟨n, r', hs, h1, h2, h4, h3⟩⟩
    · exact ⟨fun y hy => by simp at hy, List.Pairwise.nil⟩
    · have hd : ((tl l).drop n).length = (tl l).length - n := List.length_drop
      obtain ⟨i1, i2⟩ := ih r _ _ _ hr (by omega) h3
      refine ⟨fun y hy => ?_, List.Pairwise.cons (fun y hy => ?_) i2⟩
      · rcases List.mem_cons.1 hy with rfl | hy
        · dsimp only; omega
        · have := i1 y hy; omega
      · have := i1 y hy; dsimp only; omega
    · have hd : ((tl l).drop n).length = (tl l).length - n := List.length_drop
      obtain ⟨i1, i2⟩ := ih r' _ _ _ h4 (by omega) h3
      exact ⟨fun y hy => by have := i1 y hy; omega, i2⟩
/-- What a scan makes of a text up to the begin of a symbol, whatever follows. -/
theorem scan_cut {b b' : List UInt8} (hN : Nx b b') (hC : Cut b') : ∀ (fuel r : Nat) (u : List UInt8) (pos : Nat) (L : List Sym), r ≤ 2 → (u ++ b).length < fuel → scan fuel r (u ++ b) pos = .ok L →
    ((∃ x ∈ L, x.pos = ((pos + u.length : Nat) : Int)) ∨ b = []) →
    ∃ L1 L2 r', r' ≤ 2 ∧ L = L1 ++ L2 ∧ (∀ y ∈ L1, y.pos < ((pos + u.length : Nat) : Int)) ∧ (∀ y ∈ L2, ((pos + u.length : Nat) : Int) ≤ y.pos) ∧
      (∀ fuel', (u ++ b').length < fuel' → scan fuel' r (u ++ b') pos = more L1 (scan (b'.length + 1) r' b' (pos + u.length))) ∧ scan (b.length + 1) r' b (pos + u.length) = .ok L2 := by
  intro fuel
  induction fuel with
  | zero => intro _ _ _ _ _ h; exact absurd h (Nat.not_lt_zero _)
  | succ f ih =>
    intro r u pos L hr hf h hx
    rw [List.length_append] at hf
    rcases parts u with ⟨v, c, t, hu, hc, h1, h2⟩ | ⟨h1, h2⟩
    · have f1 : ∀ x, bl (u ++ x) = v.length := fun x => by rw [hu]; exact h1 x
      have f2 : ∀ x, tl (u ++ x) = c :: t ++ x := fun x => by rw [hu]; exact h2 x
      have hul : u.length = v.length + 1 + t.length := by rw [hu]; simp only [List.length_append, List.length_cons]; omega
      rcases scan_ok f r _ pos L hr h with ⟨h0, _⟩ | ⟨h0, ⟨k, tx, n, L', hs, n1, n2, h3, rfl⟩ | ⟨n, r1, hs, n1, n2, hr1, h3⟩⟩
      · rw [f2] at h0; simp at h0
      · rw [f2] at hs n2 h3
        rw [f1] at h3 hx
        have hlen : (c :: t ++ b).length = t.length + 1 + b.length := by simp only [List.length_append, List.length_cons]
        have hasc := (scan_asc f r _ _ L' hr (by rw [List.length_drop]; omega) h3).1
        have hn : n ≤ t.length + 1 := by
          rcases hx with ⟨x, hxm, hxp⟩ | rfl
          · rcases List.mem_cons.1 hxm with rfl | hxm
            · dsimp only at hxp; omega
            · have := (hasc x hxm).1; omega
          · rw [List.length_nil] at hlen; omega
        have hsc := symbol_cut r hN hC c t (by rw [hs]; exact hn)
        rw [hs] at hsc
        have hdl : ((c :: t).drop n).length = t.length + 1 - n := by rw [List.length_drop, List.length_cons]
        rw [drop_app (c :: t) b n hn] at h3
        obtain ⟨L1, L2, r', g0, g1, g2, g3, g4, g5⟩ := ih r ((c :: t).drop n) (pos + v.length + n) L' hr (by rw [List.length_append]; omega) h3 (by
          rcases hx with ⟨x, hxm, hxp⟩ | hb
          · left
            rcases List.mem_cons.1 hxm with rfl | hxm
            · dsimp only at hxp; omega
            · exact ⟨x, hxm, by omega⟩
          · exact .inr hb)
        have hpe : pos + v.length + n + ((c :: t).drop n).length = pos + u.length := by omega
        rw [hpe] at g2 g3 g4 g5
        refine ⟨⟨k, tx, ((pos + v.length : Nat) : Int)⟩ :: L1, L2, r', g0, by rw [f1, g1]; rfl, fun y hy => ?_, g3, fun fuel' hf' => ?_, g5⟩
        · rcases List.mem_cons.1 hy with rfl | hy
          · dsimp only; omega
          · exact g2 y hy
        · rw [List.length_append] at hf'
          obtain ⟨f', rfl⟩ : ∃ f', fuel' = f' + 1 := ⟨fuel' - 1, by omega⟩
          rw [scan_tl, f2, f1, scan_step f' r (c :: t ++ b') _ (bl_not c _ hc) (by simp), hsc]
          dsimp only
          rw [drop_app (c :: t) b' n hn, g4 f' (by rw [List.length_append]; omega), more_more]
          rfl
      · rw [f2] at hs n2 h3
        rw [f1] at h3
        have hlen : (c :: t ++ b).length = t.length + 1 + b.length := by simp only [List.length_append, List.length_cons]
        have hasc := (scan_asc f r1 _ _ L hr1 (by rw [List.length_drop]; omega) h3).1
        have hn : n ≤ t.length + 1 := by
          rcases hx with ⟨x, hxm, hxp⟩ | rfl
          · have := (hasc x hxm).1; omega
          · rw [List.length_nil] at hlen; omega
        have hsc := symbol_cut r hN hC c t (by rw [hs]; exact hn)
        rw [hs] at hsc
        have hdl : ((c :: t).drop n).length = t.length + 1 - n := by rw [List.length_drop, List.length_cons]
        rw [drop_app (c :: t) b n hn] at h3
        have hpe : pos + v.length + n + ((c :: t).drop n).length = pos + u.length := by omega
        obtain ⟨L1, L2, r', g0, g1, g2, g3, g4, g5⟩ := ih r1 ((c :: t).drop n) (pos + v.length + n) L hr1 (by rw [List.length_append]; omega) h3 (by rw [hpe]; exact hx)
        rw [hpe] at g2 g3 g4 g5
        refine ⟨L1, L2, r', g0, g1, g2, g3, fun fuel' hf' => ?_, g5⟩
        rw [List.length_append] at hf'
        obtain ⟨f', rfl⟩ : ∃ f', fuel' = f' + 1 := ⟨fuel' - 1, by omega⟩
        rw [scan_tl, f2, f1, scan_step f' r (c :: t ++ b') _ (bl_not c _ hc) (by simp), hsc]
        dsimp only
        rw [drop_app (c :: t) b' n hn, g4 f' (by rw [List.length_append]; omega)]
    · have hb := bl_tl b
      have hb' := bl_tl b'
      have e1 : scan (b.length + 1) r b (pos + u.length) = .ok L := by
        rw [scan_tl, h1, h2] at h
        rw [scan_tl, ← h, show pos + u.length + bl b = pos + (u.length + bl b) from by omega]
        exact scan_fuel _ _ r _ _ hr (by omega) (by omega)
      refine ⟨[], L, r, hr, rfl, fun y hy => by simp at hy, (fun y hy => ((scan_asc _ r b _ L hr (by omega) e1).1 y hy).1), fun fuel' hf' => ?_, e1⟩
      rw [List.length_append] at hf'
      rw [more_nil, scan_tl, h1, h2, scan_tl (b'.length + 1), show pos + u.length + bl b' = pos + (u.length + bl b') from by omega]
      exact scan_fuel _ _ r _ _ hr (by omega) (by omega)
/-- A list that ascends falls apart at a place in one way. -/
theorem split_at (L L1 L2 : List Sym) (p : Int) (h : L = L1 ++ L2) (h1 : ∀ y ∈ L1, y.pos < p) (h2 : ∀ y ∈ L2, p ≤ y.pos) (i : Nat) (x : Sym) (hi : L[i]? = some x) (hx : x.pos = p) (hP : L.Pairwise (fun a b => a.pos < b.pos)) : L1 = L.take i := by
  subst h
  have hlen : L1.length = i := by
    rcases Nat.lt_trichotomy i L1.length with hlt | heq | hgt
    · rw [List.getElem?_append_left hlt] at hi
      have := h1 x (List.mem_of_getElem? hi)
      omega
    · exact heq.symm
    · rw [List.getElem?_append_right (by omega)] at hi
      exfalso
      cases L2 with
      | nil => simp at hi
      | cons y t =>
        have hy := h2 y List.mem_cons_self
        obtain ⟨k, hk⟩ : ∃ k, i - L1.length = k + 1 := ⟨i - L1.length - 1, by omega⟩
        rw [hk, List.getElem?_cons_succ] at hi
        have hp2 := (List.pairwise_append.1 hP).2.1
        have := (List.pairwise_cons.1 hp2).1 x (List.mem_of_getElem? hi)
        omega
  rw [← hlen, List.take_left]
/-- Symbols, whole: by the scan. -/
theorem symbols_ok_scan (s : List UInt8) (regime : Int) (l : List Sym) (h : symbols s regime = .ok l) : 0 ≤ regime ∧ regime ≤ 2 ∧ s.length ≤ 65536 ∧ ∃ L, scan (s.length + 1) regime.toNat s 0 = .ok L ∧ l = L ++ [⟨0, [], (s.length : Int)⟩] := by
  unfold symbols at h
  split at h
  · cases h
  · split at h
    · cases h
    · split at h
      · rename_i L he
        injection h with h
        exact ⟨by omega, by omega, by omega, L, he, h.symm⟩
      · cases h
theorem symbols_of_scan (s : List UInt8) (regime : Int) (L : List Sym) (h0 : 0 ≤ regime) (h2 : regime ≤ 2) (hs : s.length ≤ 65536) (h : scan (s.length + 1) regime.toNat s 0 = .ok L) : symbols s regime = .ok (L ++ [⟨0, [], (s.length : Int)⟩]) := by
  rw [symbols_eq s regime (by omega) hs, h]; rfl
theorem nx_nil (b : List UInt8) : Nx b [] := .inl rfl
theorem cut_nil : Cut [] := fun c t e => by cases e
/-- A place of a symbol: in the list of a text. -/
theorem at_symbol (s : List UInt8) (regime : Int) (l : List Sym) (h : symbols s regime = .ok l) (i : Nat) (x : Sym) (hi : l[i]? = some x) (b' : List UInt8) (hN : Nx (s.drop x.pos.toNat) b') (hC : Cut b') :
    0 ≤ x.pos ∧ x.pos.toNat ≤ s.length ∧ ∃ r' L2, r' ≤ 2 ∧ l = l.take i ++ (L2 ++ [⟨0, [], (s.length : Int)⟩]) ∧ (∀ fuel', (s.take x.pos.toNat ++ b').length < fuel' → scan fuel' regime.toNat (s.take x.pos.toNat ++ b') 0 = more (l.take i) (scan (b'.length + 1) r' b' x.pos.toNat)) ∧
      scan ((s.drop x.pos.toNat).length + 1) r' (s.drop x.pos.toNat) x.pos.toNat = .ok L2 := by
  obtain ⟨h0, h2, hs, L, hL, rfl⟩ := symbols_ok_scan s regime l h
  obtain ⟨a1, a2⟩ := scan_asc _ _ _ _ _ (by omega) (by omega) hL
  rw [Nat.zero_add] at a1
  have hcat : s.take x.pos.toNat ++ s.drop x.pos.toNat = s := List.take_append_drop _ _
  have hlast : i < L.length ∨ (i = L.length ∧ x = ⟨0, [], (s.length : Int)⟩) := by
    rcases Nat.lt_or_ge i L.length with hlt | hge
    · exact .inl hlt
    · right
      rw [List.getElem?_append_right hge] at hi
      have : i - L.length = 0 := by
        have := (List.getElem?_eq_some_iff.1 hi).1
        simp at this; omega
      rw [this] at hi
      exact ⟨by omega, by simpa using hi.symm⟩
  have hxp : 0 ≤ x.pos ∧ x.pos.toNat ≤ s.length := by
    rcases hlast with hlt | ⟨_, rfl⟩
    · rw [List.getElem?_append_left hlt] at hi
      have := a1 x (List.mem_of_getElem? hi)
      omega
    · dsimp only; omega
  refine ⟨hxp.1, hxp.2, ?_⟩
  have htl : (s.take x.pos.toNat).length = x.pos.toNat := by rw [List.length_take]; omega
  obtain ⟨L1, L2, r', g0, g1, g2, g3, g4, g5⟩ := scan_cut hN hC (s.length + 1) regime.toNat (s.take x.pos.toNat) 0 L (by omega) (by rw [hcat]; omega) (by rw [hcat]; exact hL) (by
    rw [htl, Nat.zero_add]
    rcases hlast with hlt | ⟨_, rfl⟩
    · left
      rw [List.getElem?_append_left hlt] at hi
      exact ⟨x, List.mem_of_getElem? hi, by omega⟩
    · right; simp)
  rw [htl, Nat.zero_add] at g2 g3 g4 g5
  have hL1 : L1 = (L ++ [⟨0, [], (s.length : Int)⟩] : List Sym).take i := by
    rcases hlast with hlt | ⟨he, rfl⟩
    · rw [List.take_append_of_le_length (by omega)]
      rw [List.getElem?_append_left hlt] at hi
      exact split_at L L1 L2 x.pos.toNat g1 g2 g3 i x hi (by omega) a2
    · have hL2 : L2 = [] := by
        cases L2 with
        | nil => rfl
        | cons y t =>
          exfalso
          have := g3 y List.mem_cons_self
          have := (a1 y (by rw [g1]; simp)).2
          simp only [Int.toNat_natCast] at *
          omega
      rw [he, List.take_left, g1, hL2, List.append_nil]
  refine ⟨r', L2, g0, ?_, ?_, g5⟩
  · rw [← hL1, g1, List.append_assoc]
  · rw [← hL1]; exact g4
/-- A beginning of a text up to a symbol has the symbols before it. -/
theorem symbols_take (s : List UInt8) (regime : Int) (l : List Sym) (h : symbols s regime = .ok l) (i : Nat) (x : Sym) (hi : l[i]? = some x) :
    0 ≤ x.pos ∧ x.pos.toNat ≤ s.length ∧ symbols (s.take x.pos.toNat) regime = .ok (l.take i ++ [⟨0, [], x.pos⟩]) := by
  obtain ⟨h0, h2, hs, _⟩ := symbols_ok_scan s regime l h
  obtain ⟨x0, x1, r', L2, hr', e, k1, k2⟩ := at_symbol s regime l h i x hi [] (nx_nil _) cut_nil
  refine ⟨x0, x1, ?_⟩
  have htl : (s.take x.pos.toNat).length = x.pos.toNat := by rw [List.length_take]; omega
  have := k1 ((s.take x.pos.toNat).length + 1) (by simp)
  rw [List.append_nil] at this
  rw [symbols_of_scan _ regime (l.take i) h0 h2 (by omega) (by rw [this, scan_end]; simp [more])]
  rw [htl, Int.toNat_of_nonneg x0]
def alike (a b : List Sym) : Bool := a.length == b.length && (a.zip b).all fun p => p.1.kind == p.2.kind && p.1.text == p.2.text
/-- Symbols that are alike but for their places. -/
inductive Same : List Sym → List Sym → Prop
  | nil : Same [] []
  | cons {x y : Sym} {a b : List Sym} : x.kind = y.kind ∧ x.text = y.text → Same a b → Same (x :: a) (y :: b)
theorem alike_of (a b : List Sym) (h : Same a b) : alike a b = true := by
  induction h with
  | nil => rfl
  | cons h _ ih =>
    unfold alike at ih ⊢
    simp only [Bool.and_eq_true, beq_iff_eq] at ih
    simp only [List.length_cons, List.zip_cons_cons, List.all_cons, Bool.and_eq_true, beq_iff_eq]
    exact ⟨by omega, ⟨h.1, h.2⟩, ih.2⟩
theorem same_refl (a : List Sym) : Same a a := by
  induction a with
  | nil => exact .nil
  | cons x a ih => exact .cons ⟨rfl, rfl⟩ ih
theorem same_map (d : Nat) (a : List Sym) : Same a (a.map (sh d)) := by
  induction a with
  | nil => exact .nil
  | cons x a ih => exact .cons ⟨rfl, rfl⟩ ih
theorem same_app {a b c d : List Sym} (h : Same a b) (h' : Same c d) : Same (a ++ c) (b ++ d) := by
  induction h with
  | nil => exact h'
  | cons h _ ih => exact .cons h ih
/-- Blanks or a comment, put in before a symbol. -/
theorem symbols_put (s remark : List UInt8) (regime : Int) (l : List Sym) (h : symbols s regime = .ok l) (i : Nat) (x : Sym) (hi : l[i]? = some x) (hlen : s.length + remark.length ≤ 65536)
    (hC : ∀ b, Cut (remark ++ b)) (hN : ∀ b, Nx b (remark ++ b))
    (hR : ∀ (r' : Nat) (b : List UInt8) (pos : Nat), r' ≤ 2 → ∃ f1 f2 : Nat, ∀ f, scan (f + f1) r' (remark ++ b) pos = scan (f + f2) r' b (pos + remark.length)) :
    ∃ m, symbols (s.take x.pos.toNat ++ remark ++ s.drop x.pos.toNat) regime = .ok m ∧ alike l m = true := by
  obtain ⟨h0, h2, hs, _⟩ := symbols_ok_scan s regime l h
  obtain ⟨x0, x1, r', L2, hr', e, k1, k2⟩ := at_symbol s regime l h i x hi (remark ++ s.drop x.pos.toNat) (hN _) (hC _)
  have htl : (s.take x.pos.toNat).length = x.pos.toNat := by rw [List.length_take]; omega
  have hdl : (s.drop x.pos.toNat).length = s.length - x.pos.toNat := List.length_drop
  generalize hb : s.drop x.pos.toNat = b at *
  have hwl : (s.take x.pos.toNat ++ remark ++ b).length = s.length + remark.length := by simp only [List.length_append]; omega
  have hscan : scan ((remark ++ b).length + 1) r' (remark ++ b) x.pos.toNat = .ok (L2.map (sh remark.length)) := by
    obtain ⟨f1, f2, hf⟩ := hR r' b x.pos.toNat hr'
    have hrl : (remark ++ b).length = remark.length + b.length := List.length_append
    rw [scan_fuel ((remark ++ b).length + b.length + 1 + f1) _ r' _ _ hr' (by omega) (by omega), hf]
    rw [scan_far remark.length (b.length + 1) _ r' b x.pos.toNat hr' (by omega) (by omega), k2]
    rfl
  have hall := k1 ((s.take x.pos.toNat ++ remark ++ b).length + 1) (by rw [← List.append_assoc]; omega)
  rw [← List.append_assoc, hscan] at hall
  refine ⟨_, symbols_of_scan _ regime (l.take i ++ L2.map (sh remark.length)) h0 h2 (by omega) (by rw [hall]; rfl), ?_⟩
  apply alike_of
  clear hall k1
  generalize l.take i = P at *
  rw [e, ← List.append_assoc]
  exact same_app (same_app (same_refl _) (same_map _ _)) (.cons ⟨rfl, rfl⟩ .nil)
end Sp
end Go.Proofs.YtjghijeblddijaaGreatDoor
