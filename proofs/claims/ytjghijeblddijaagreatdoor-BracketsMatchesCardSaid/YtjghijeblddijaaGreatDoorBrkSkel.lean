/- Walks of chapter 05: Skeleton: what holds from round to round. Walks of chapter 05: Skeleton. -/
import Derived.Test.YtjghijeblddijaaGreatDoorBrkCloseB
import Derived.Deep.Cut
set_option linter.unusedVariables false
namespace Go.Proofs.YtjghijeblddijaaGreatDoor
open Go.RowKit
/-- What Skeleton answers. -/
def SkelPost (w : World) (x : Except (Int × Int) Bk.Fo) (e : Ending) (w' : World) : Prop :=
  Below w.heap.size w w' ∧ match x with
  | .error f => e = .returned (.tuple #[.agg #[.int .i64 0, .int .i64 0, .slice none 0 0, .slice none 0 0], .agg #[.int .i64 f.1, .int .i64 f.2]])
  | .ok t => ∃ a b s k sv kv F0 F1, t = .node a b s k .nil ∧ e = .returned (.tuple #[.agg #[.int .i64 a, .int .i64 b, sv, kv], .agg #[.int .i64 0, .int .i64 0]]) ∧ IntsAt w' sv s F0 ∧ RowAt w' kv k F1
theorem skel_result {tmps : Array Value} {W : World} (b0 b1 : Nat) (x0 x1 x2 x3 y0 y1 : Value) (fr0 fr1 : Nat × Nat) (h2 : tmps.getD 2 undef = .pointer (some ⟨b0, 0, none⟩)) (h3 : tmps.getD 3 undef = .pointer (some ⟨b1, 0, none⟩))
    (k0 : W.heap[b0]? = some (.cells #[x0, x1, x2, x3] 32 fr0)) (k1 : W.heap[b1]? = some (.cells #[y0, y1] 35 fr1)) : (results Tryz.f17 tmps).run Tryz.prog W = .ok (.tuple #[.agg #[x0, x1, x2, x3], .agg #[y0, y1]]) W := by
  have h2' : tmps[2]?.getD undef = .pointer (some ⟨b0, 0, none⟩) := by simpa using h2
  have h3' : tmps[3]?.getD undef = .pointer (some ⟨b1, 0, none⟩) := by simpa using h3
  have c0 : W.cell? ⟨b0, 0, none⟩ = some x0 := (cell_of_blk k0 0).trans rfl
  have c1 : W.cell? ⟨b0, 1, none⟩ = some x1 := (cell_of_blk k0 1).trans rfl
  have c2 : W.cell? ⟨b0, 2, none⟩ = some x2 := (cell_of_blk k0 2).trans rfl
  have c3 : W.cell? ⟨b0, 3, none⟩ = some x3 := (cell_of_blk k0 3).trans rfl
  have d0 : W.cell? ⟨b1, 0, none⟩ = some y0 := (cell_of_blk k1 0).trans rfl
  have d1 : W.cell? ⟨b1, 1, none⟩ = some y1 := (cell_of_blk k1 1).trans rfl
  have ha := Tryz.isAgg32
  have hb := Tryz.isAgg35
  simp [results, h2', h3', asAddr, loadVar, Sem.run_bind, ha, hb, go_sem, c0, c1, c2, c3, d0, d1]
theorem skel_end {R : Ending → World → Prop} {a : Act} {W : World} {b0 b1 : Nat} {x0 x1 x2 x3 y0 y1 : Value} {fr0 fr1 : Nat × Nat}
    (k0 : W.heap[b0]? = some (.cells #[x0, x1, x2, x3] 32 fr0)) (k1 : W.heap[b1]? = some (.cells #[y0, y1] 35 fr1)) (h : R (.returned (.tuple #[.agg #[x0, x1, x2, x3], .agg #[y0, y1]])) W)
    (h2 : a.tmps.getD 2 undef = .pointer (some ⟨b0, 0, none⟩) := by rfl) (h3 : a.tmps.getD 3 undef = .pointer (some ⟨b1, 0, none⟩) := by rfl) (hd : a.defers = [] := by rfl) : bodyPost Tryz.prog Tryz.f17 R .ret a W :=
  bodyPost_ret (skel_result b0 b1 _ _ _ _ _ _ _ _ h2 h3 k0 k1) hd h
/-- The two results, stored. -/
def six (W : World) (b : Nat) (x0 x1 x2 x3 y0 y1 : Value) : World :=
  (((((W.setCell ⟨b, 0, none⟩ x0).setCell ⟨b, 1, none⟩ x1).setCell ⟨b, 2, none⟩ x2).setCell ⟨b, 3, none⟩ x3).setCell ⟨b + 1, 0, none⟩ y0).setCell ⟨b + 1, 1, none⟩ y1
theorem six_ok {W : World} {b : Nat} {u0 u1 u2 u3 v0 v1 : Value} (K0 : W.heap[b]? = some (.cells #[u0, u1, u2, u3] 32 (0, 0))) (K1 : W.heap[b + 1]? = some (.cells #[v0, v1] 35 (0, 0))) (x0 x1 x2 x3 y0 y1 : Value) :
    (six W b x0 x1 x2 x3 y0 y1).heap[b]? = some (.cells #[x0, x1, x2, x3] 32 (0, 0)) ∧ (six W b x0 x1 x2 x3 y0 y1).heap[b + 1]? = some (.cells #[y0, y1] 35 (0, 0)) ∧
    (∀ j, j ≠ b → j ≠ b + 1 → (six W b x0 x1 x2 x3 y0 y1).heap[j]? = W.heap[j]?) ∧ Below b W (six W b x0 x1 x2 x3 y0 y1) := by
  unfold six
  have n1 : b ≠ b + 1 := by omega
  have n2 : b + 1 ≠ b := by omega
  refine ⟨?_, ?_, fun j h0 h1 => ?_, ((((((Below.refl b W).setCell (Nat.le_refl _) _).setCell (Nat.le_refl _) _).setCell (Nat.le_refl _) _).setCell (Nat.le_refl _) _).setCell (Nat.le_succ _) _).setCell (Nat.le_succ _) _⟩
  · rw [Below.heap_setCell _ _ _ _ n1, Below.heap_setCell _ _ _ _ n1, blk_setCell (blk_setCell (blk_setCell (blk_setCell K0 0 x0) 1 x1) 2 x2) 3 x3]; rfl
  · have k1 : ((((W.setCell ⟨b, 0, none⟩ x0).setCell ⟨b, 1, none⟩ x1).setCell ⟨b, 2, none⟩ x2).setCell ⟨b, 3, none⟩ x3).heap[b + 1]? = some (.cells #[v0, v1] 35 (0, 0)) := by
      rw [Below.heap_setCell _ _ _ _ n2, Below.heap_setCell _ _ _ _ n2, Below.heap_setCell _ _ _ _ n2, Below.heap_setCell _ _ _ _ n2]; exact K1
    rw [blk_setCell (blk_setCell k1 0 y0) 1 y1]; rfl
  · rw [Below.heap_setCell _ _ _ _ h1, Below.heap_setCell _ _ _ _ h1, Below.heap_setCell _ _ _ _ h0, Below.heap_setCell _ _ _ _ h0, Below.heap_setCell _ _ _ _ h0, Below.heap_setCell _ _ _ _ h0]
/-- The round's relation. -/
structure SkR (WA : World) (L : List Sp.Sym) (N : Int) (k : Nat) (st : List Bk.Fr) (R cap : Nat) (wr : World) : Prop where
  le : k ≤ L.length
  ne : st ≠ []
  bel : Below WA.heap.size WA wr
  stk : ∃ own ps, Stk wr WA.heap.size own N st ps (.slice (some ⟨R, 0, none⟩) st.length cap)
  len : st.length ≤ 65
  few : ∀ f ∈ st, f.seps.length ≤ k ∧ f.kids.len ≤ k
  run : Bk.run 0 L Bk.start = Bk.run k (L.drop k) st
theorem Stk.first {W1 : World} {base : Nat} (hb : base ≤ W1.heap.size) (N : Int) : ∃ own ps, Stk ((W1.alloc (.cells #[.int .i64 (-1), .int .i64 N, .slice none 0 0, .slice none 0 0, .string ⟨#[]⟩, .map none, .slice none 0 0, .string ⟨#[]⟩] 88)).alloc (.cells #[.pointer (some ⟨W1.heap.size, 0, none⟩)] 83)) base own N Bk.start ps (.slice (some ⟨W1.heap.size + 1, 0, none⟩) 1 1) := by
  have k0 := alloc_keep (o := .cells #[.pointer (some ⟨W1.heap.size, 0, none⟩)] 83) (heap_alloc_new W1 (.cells #[.int .i64 (-1), .int .i64 N, .slice none 0 0, .slice none 0 0, .string ⟨#[]⟩, .map none, .slice none 0 0, .string ⟨#[]⟩] 88))
  have k1 := heap_alloc_new (W1.alloc (.cells #[.int .i64 (-1), .int .i64 N, .slice none 0 0, .slice none 0 0, .string ⟨#[]⟩, .map none, .slice none 0 0, .string ⟨#[]⟩] 88)) (.cells #[.pointer (some ⟨W1.heap.size, 0, none⟩)] 83)
  rw [show (W1.alloc (.cells #[.int .i64 (-1), .int .i64 N, .slice none 0 0, .slice none 0 0, .string ⟨#[]⟩, .map none, .slice none 0 0, .string ⟨#[]⟩] 88)).heap.size = W1.heap.size + 1 from by simp] at k1
  refine ⟨fun b => if b = W1.heap.size then 4 else if b = W1.heap.size + 1 then 1 else 0, [W1.heap.size], ⟨fun b h0 => ?_, ?_, fun b hb' => ?_, W1.heap.size, [], rfl, ⟨N, none, 0, none, 0, .map none, .slice none 0 0, [], [], [], fun _ => rfl, ?_⟩, rfl⟩⟩
  · simp only [World.size_alloc]
    by_cases e : b = W1.heap.size
    · omega
    · rw [if_neg e] at h0
      by_cases e1 : b = W1.heap.size + 1
      · omega
      · rw [if_neg e1] at h0; exact absurd rfl h0
  · exact ⟨rfl, .inr ⟨W1.heap.size + 1, 1, #[.pointer (some ⟨W1.heap.size, 0, none⟩)], rfl, by omega, k1, by decide, by decide, rfl, rfl⟩⟩
  · have : W1.heap.size + 1 = b := Option.some.inj hb'
    rw [if_neg (by omega), if_pos this.symm]
  · exact ⟨k0, if_pos rfl, ⟨rfl, .inl ⟨rfl, rfl⟩⟩, fun b hb => (by cases hb), World.ownsRow_nil _ _ _ _, fun b hb => (by cases hb), World.ownsRow_nil _ _ _ _, fun b hb => (by cases hb), ⟨rfl, rfl⟩, fun b hb => (by cases hb)⟩
theorem FormAt.isMap {w : World} {op : Bk.Op} {mp cs : Value} {F : List Nat} (h : FormAt w op mp cs F) : ∃ m, mp = .map m := by
  have := h.map
  cases hc : Bk.chain op with
  | none => rw [hc] at this; exact ⟨_, this⟩
  | some p =>
    obtain ⟨t, a, l⟩ := p
    rw [hc] at this
    obtain ⟨m, r1, r2, r3, base, h1, _⟩ := this
    exact ⟨_, h1⟩
theorem FormAt.isSlice {w : World} {op : Bk.Op} {mp cs : Value} {F : List Nat} (h : FormAt w op mp cs F) : ∃ A n c, cs = .slice A n c := by
  rcases h.closes with ⟨_, h1⟩ | ⟨g, c, h1, _⟩
  · exact ⟨_, _, _, h1⟩
  · exact ⟨_, _, _, h1⟩
theorem SkR.step {WA : World} {l : List Sp.Sym} {n k : Nat} {top : Bk.Fr} {rest : List Bk.Fr} {R cap : Nat} {wr : World} {x : Sp.Sym} (h : SkR WA (l.take n) n k (top :: rest) R cap wr) (hx : l[k]? = some x) (hk : k < n) (hb : Bk.isBracket x = true) :
    k + 1 ≤ (l.take n).length ∧ Bk.run 0 (l.take n) Bk.start = match Bk.bracket k x top rest with | .ok st' => Bk.run (k + 1) ((l.take n).drop (k + 1)) st' | .error f => .error f := by
  have hx' : (l.take n)[k]? = some x := by rw [List.getElem?_take, if_pos hk]; exact hx
  have hlt := (List.getElem?_eq_some_iff.1 hx').1
  refine ⟨hlt, ?_⟩
  rw [h.run, List.drop_eq_getElem_cons hlt, Bk.run.eq_def k]
  dsimp only
  have : (l.take n)[k] = x := (List.getElem?_eq_some_iff.1 hx').2
  rw [this, if_pos hb]
  rfl
theorem SkR.skip {WA : World} {l : List Sp.Sym} {n k : Nat} {st : List Bk.Fr} {R cap : Nat} {wr w2 : World} {x : Sp.Sym} (h : SkR WA (l.take n) n k st R cap wr) (hx : l[k]? = some x) (hk : k < n) (hb : Bk.isBracket x = false) (h2 : Below wr.heap.size wr w2) : SkR WA (l.take n) n (k + 1) st R cap w2 := by
  have hx' : (l.take n)[k]? = some x := by rw [List.getElem?_take, if_pos hk]; exact hx
  have hlt := (List.getElem?_eq_some_iff.1 hx').1
  refine ⟨hlt, h.ne, h.bel.trans (h2.mono h.bel.size), ?_, h.len, fun f hf => ?_, ?_⟩
  · obtain ⟨own, ps, hs⟩ := h.stk
    exact ⟨own, ps, hs.later h2⟩
  · have := h.few f hf; omega
  · rw [h.run, List.drop_eq_getElem_cons hlt, Bk.run.eq_def k]
    dsimp only
    have : (l.take n)[k] = x := by
      have := (List.getElem?_eq_some_iff.1 hx').2; exact this
    rw [this, if_neg (by rw [hb]; decide)]
theorem SkR.next {WA : World} {l : List Sp.Sym} {n k : Nat} {top : Bk.Fr} {rest st' : List Bk.Fr} {R cap R' cap' : Nat} {wr w' : World} {x : Sp.Sym} (h : SkR WA (l.take n) n k (top :: rest) R cap wr) (hx : l[k]? = some x) (hk : k < n) (hb : Bk.isBracket x = true)
    (hbr : Bk.bracket k x top rest = .ok st') (hbel : Below WA.heap.size WA w') (hstk : ∃ own ps, Stk w' WA.heap.size own n st' ps (.slice (some ⟨R', 0, none⟩) st'.length cap')) (hlen : st'.length ≤ 65) (hfew : ∀ f ∈ st', f.seps.length ≤ k + 1 ∧ f.kids.len ≤ k + 1) :
    SkR WA (l.take n) n (k + 1) st' R' cap' w' := by
  obtain ⟨h1, h2⟩ := h.step hx hk hb
  refine ⟨h1, Bk.bracket_ne _ _ _ _ _ hbr, hbel, hstk, hlen, hfew, ?_⟩
  rw [h2, hbr]
theorem slice_some {w : World} {B : Nat} {e : TypeId} {size n c : Nat} {A : Option Addr} {xs : List Value} (h : w.ownsRow B e size (.slice A (n + 1) c) (n + 1) xs) : ∃ R, A = some ⟨R, 0, none⟩ := by
  rcases h.2 with ⟨h0, _⟩ | ⟨g, cap, cur, h1, _⟩
  · cases h0
  · injection h1 with h1; exact ⟨g, h1⟩
theorem SkR.opened {WA : World} {l : List Sp.Sym} {n k : Nat} {top : Bk.Fr} {rest : List Bk.Fr} {R cap : Nat} {wr : World} {x : Sp.Sym} {oo : Bk.Op} (h : SkR WA (l.take n) n k (top :: rest) R cap wr) (hx : l[k]? = some x) (hk : k < n) (hb : Bk.isBracket x = true)
    (ho : Bk.opening x.text = some oo) (h64 : ¬ 64 < rest.length + 1) {own : Nat → Nat} {ps : List Nat} (hs : Stk wr WA.heap.size own n (top :: rest) ps (.slice (some ⟨R, 0, none⟩) (top :: rest).length cap)) {w2 w3 W5 w6 : World} {mp cs : Value} {F2 : List Nat}
    (hb02 : Below wr.heap.size wr w2) (hF2 : FormAt w3 oo mp cs F2) (oF2 : ∀ b ∈ F2, w2.heap.size ≤ b ∧ b < w3.heap.size) (hb3 : Below w2.heap.size w2 w3) {o1 : Obj}
    (hW5 : W5 = (w3.alloc o1).alloc (.cells #[.int .i64 k, .int .i64 0, .slice none 0 0, .slice none 0 0, .string (bst (Bk.close oo)), mp, cs, .string ⟨#[]⟩] 88)) {A' : Option Addr} {c' : Nat}
    (hown : w6.ownsRow WA.heap.size 83 1 (.slice A' (rest.length + 1 + 1) c') (rest.length + 1 + 1) (ps.reverse.map ptr ++ [ptr (w3.heap.size + 1)])) (hgr : W5.grownBy w6 (Value.slice (some ⟨R, 0, none⟩) (rest.length + 1) cap).ownBlock) (hbel : Below WA.heap.size W5 w6)
    (hat : (Value.slice A' (rest.length + 1 + 1) c').ownBlock = (Value.slice (some ⟨R, 0, none⟩) (rest.length + 1) cap).ownBlock ∨ ∃ b, (Value.slice A' (rest.length + 1 + 1) c').ownBlock = some b ∧ W5.heap.size ≤ b) :
    ∃ R', A' = some ⟨R', 0, none⟩ ∧ SkR WA (l.take n) n (k + 1) (⟨oo, k, [], .nil, []⟩ :: top :: rest) R' c' w6 := by
  obtain ⟨R', rfl⟩ := slice_some hown
  refine ⟨R', rfl, ?_⟩
  have hAr := h.bel.size
  have s2 := hb02.size
  have s3 := hb3.size
  have s5 : W5.heap.size = w3.heap.size + 2 := by rw [hW5]; simp
  have hRl : R < wr.heap.size := (hs.dom R (by rw [hs.oR R rfl]; decide)).2
  have g6 : ∀ b, b < W5.heap.size → b ≠ R → w6.heap[b]? = W5.heap[b]? := fun b hb hne => hgr.block b hb fun e => hne (Option.some.inj e)
  have g5 : ∀ b, b < w3.heap.size → W5.heap[b]? = w3.heap[b]? := fun b hb => by
    rw [hW5]
    exact ((below_alloc0 (below_alloc0 (Below.refl _ w3) _) _).block b hb)
  have hWA5 : Below WA.heap.size WA W5 := by
    rw [hW5]
    exact (((h.bel.trans (hb02.mono hAr)).trans (hb3.mono (by omega))).alloc (by omega) _).alloc (by simp; omega) _
  have hstk := Stk.opened (o := oo) (a := (k : Int)) (p := w3.heap.size + 1) (mp := mp) (cs := cs) (F := F2) (w' := w6) (v' := .slice (some ⟨R', 0, none⟩) (rest.length + 1 + 1) c') (hs.later hb02) (by simp) (by omega) (by have := hbel.size; omega)
    (hF2.keep fun b hb => (g6 b (by have := (oF2 b hb).2; omega) (by have := (oF2 b hb).1; omega)).trans (g5 b (oF2 b hb).2)) (fun b hb => ⟨(oF2 b hb).1, by have := (oF2 b hb).2; have := hbel.size; omega⟩) (by omega) (fun hf => by have := (oF2 _ hf).2; omega)
    ((g6 _ (by omega) (by omega)).trans (by rw [hW5]; have := heap_alloc_new (w3.alloc o1) (.cells #[.int .i64 k, .int .i64 0, .slice none 0 0, .slice none 0 0, .string (bst (Bk.close oo)), mp, cs, .string ⟨#[]⟩] 88); simpa using this)) hown
    (by
      rcases hat with hat | ⟨b, hb1, hb2⟩
      · exact .inl hat
      · exact .inr ⟨b, hb1, by omega, by omega, fun hf => by have := (oF2 b hf).2; omega⟩)
    (fun b hb hne => (g6 b (by omega) (fun e => hne (by rw [e]; rfl))).trans ((g5 b (by omega)).trans (hb3.block b hb)))
  obtain ⟨own', hstk⟩ := hstk
  refine h.next hx hk hb ?_ (hWA5.trans hbel) ⟨own', _, hstk⟩ ?_ ?_
  · unfold Bk.bracket
    rw [ho]
    dsimp only
    rw [if_neg h64]
  · simp only [List.length_cons]; omega
  · intro f hf
    rcases List.mem_cons.1 hf with rfl | hf
    · exact ⟨Nat.zero_le _, Nat.zero_le _⟩
    · have := h.few f hf; omega
theorem Bk.bracket_take (i : Int) (x : Sp.Sym) (top : Bk.Fr) (rest : List Bk.Fr) (ho : Bk.opening x.text = none) (hc : rest = [] ∨ (x.text == Bk.close top.op && Bk.complete top) = false) :
    Bk.bracket i x top rest = match Bk.take top x.text with | some l => .ok ({ top with last := l, seps := top.seps ++ [i] } :: rest) | none => .error (x.pos, 9) := by
  unfold Bk.bracket
  rw [ho]
  dsimp only
  rcases hc with rfl | hc
  · rfl
  · rw [hc]
    cases rest <;> rfl
theorem Bk.bracket_close (i : Int) (x : Sp.Sym) (top f2 : Bk.Fr) (rest : List Bk.Fr) (ho : Bk.opening x.text = none) (hc : (x.text == Bk.close top.op && Bk.complete top) = true) :
    Bk.bracket i x top (f2 :: rest) = .ok ({ f2 with kids := f2.kids.snoc top.a i top.seps top.kids } :: rest) := by
  unfold Bk.bracket
  rw [ho]
  dsimp only
  rw [hc]
theorem SkR.taken {WA : World} {l : List Sp.Sym} {n k : Nat} {top : Bk.Fr} {rest : List Bk.Fr} {R cap : Nat} {wr : World} {x : Sp.Sym} (h : SkR WA (l.take n) n k (top :: rest) R cap wr) (hx : l[k]? = some x) (hk : k < n) (hb : Bk.isBracket x = true)
    (ho : Bk.opening x.text = none) (hc : rest = [] ∨ (x.text == Bk.close top.op && Bk.complete top) = false) {l' : List UInt8} (ht : Bk.take top x.text = some l') {own : Nat → Nat} {g : Nat} {ps : List Nat} {w2 w' : World} (hb02 : Below wr.heap.size wr w2)
    (hs : Stk w2 WA.heap.size own n (top :: rest) (g :: ps) (.slice (some ⟨R, 0, none⟩) (top :: rest).length cap)) {to_ : Int} {A : Option Addr} {c : Nat} {kA : Option Addr} {kc : Nat} {mp cs : Value} {F : List Nat} {vals : List Value} {FK : List Nat} {e : Ending}
    (hto : rest = [] → to_ = n) (hst : StAt w2 WA.heap.size own rest.length g to_ top A c kA kc mp cs F vals FK) (hr : States w2 WA.heap.size own n rest ps)
    (hy : TakeYes WA.heap.size g top k l' (.int .i64 top.a) (.int .i64 to_) (.slice kA top.kids.len kc) (.string (bst (Bk.close top.op))) mp cs A c w2 e w') :
    SkR WA (l.take n) n (k + 1) ({ top with last := l', seps := top.seps ++ [(k : Int)] } :: rest) R cap w' := by
  obtain ⟨own', hstk⟩ := Stk.taken hs hto hst hr hy
  obtain ⟨_, A', c', _, _, hbel, _⟩ := hy
  refine h.next hx hk hb ?_ ((h.bel.trans (hb02.mono h.bel.size)).trans hbel) ⟨own', _, hstk⟩ h.len ?_
  · rw [Bk.bracket_take _ _ _ _ ho hc, ht]
  · intro f hf
    rcases List.mem_cons.1 hf with rfl | hf
    · have := h.few top (List.mem_cons_self ..)
      refine ⟨?_, ?_⟩
      · show (top.seps ++ [(k : Int)]).length ≤ k + 1
        rw [List.length_append]; exact Nat.succ_le_succ this.1
      · exact Nat.le_succ_of_le this.2
    · have := h.few f (List.mem_cons_of_mem _ hf); omega
theorem SkR.closed {WA : World} {l : List Sp.Sym} {n k : Nat} {top f2 : Bk.Fr} {rest : List Bk.Fr} {R cap : Nat} {wr : World} {x : Sp.Sym} (h : SkR WA (l.take n) n k (top :: f2 :: rest) R cap wr) (hx : l[k]? = some x) (hk : k < n) (hb : Bk.isBracket x = true)
    (ho : Bk.opening x.text = none) (hc : (x.text == Bk.close top.op && Bk.complete top) = true) {own : Nat → Nat} {g ga : Nat} {ps : List Nat} {w2 W4 w' : World} (hb02 : Below wr.heap.size wr w2)
    (hs : Stk w2 WA.heap.size own n (top :: f2 :: rest) (g :: ga :: ps) (.slice (some ⟨R, 0, none⟩) (rest.length + 1 + 1) cap)) {to_ to2 : Int} {A A2 : Option Addr} {c c2 : Nat} {kA kA2 : Option Addr} {kc kc2 : Nat} {mp cs mp2 cs2 : Value} {F F2 : List Nat} {vals vals2 : List Value} {FK FK2 : List Nat}
    (hst : StAt w2 WA.heap.size own (rest.length + 1) g to_ top A c kA kc mp cs F vals FK) (hto : rest = [] → to2 = n) (hsa : StAt w2 WA.heap.size own rest.length ga to2 f2 A2 c2 kA2 kc2 mp2 cs2 F2 vals2 FK2) (hr : States w2 WA.heap.size own n rest ps)
    (h4 : ∀ b, b ≠ g → W4.heap[b]? = w2.heap[b]?) (h4s : W4.heap.size = w2.heap.size) (h4b : Below WA.heap.size w2 W4) {kg c' : Nat}
    (blk : w'.heap[ga]? = some (.cells #[.int .i64 f2.a, .int .i64 to2, .slice A2 f2.seps.length c2, .slice (some ⟨kg, 0, none⟩) (f2.kids.len + 1) c', .string (bst (Bk.close f2.op)), mp2, cs2, .string ⟨f2.last.toArray⟩] 88 (0, 0)))
    (kids : w'.ownsRow WA.heap.size 32 4 (.slice (some ⟨kg, 0, none⟩) (f2.kids.len + 1) c') (f2.kids.len + 1) (vals2 ++ [.int .i64 top.a, .int .i64 k, .slice A top.seps.length c, .slice kA top.kids.len kc])) (hbel : Below WA.heap.size W4 w')
    (same : ∀ b, b < W4.heap.size → b ≠ ga → (Value.slice kA2 f2.kids.len kc2).ownBlock ≠ some b → w'.heap[b]? = W4.heap[b]?) (hat : (Value.slice kA2 f2.kids.len kc2).ownBlock = some kg ∨ W4.heap.size ≤ kg) :
    SkR WA (l.take n) n (k + 1) ({ f2 with kids := f2.kids.snoc top.a k top.seps top.kids } :: rest) R cap w' := by
  have same' : ∀ b, b < w2.heap.size → b ≠ g → b ≠ ga → (Value.slice kA2 f2.kids.len kc2).ownBlock ≠ some b → w'.heap[b]? = w2.heap[b]? := fun b hb h1 h2 h3 => (same b (by omega) h2 h3).trans (h4 b h1)
  have hRo := hs.oR R rfl
  have hrow := hs.row
  have hpop : w'.ownsRow WA.heap.size 83 1 (.slice (some ⟨R, 0, none⟩) (rest.length + 1) cap) (rest.length + 1) ((ga :: ps).reverse.map ptr) := by
    have hk' : w'.ownsRow WA.heap.size 83 1 (.slice (some ⟨R, 0, none⟩) (rest.length + 1 + 1) cap) (rest.length + 1 + 1) ((g :: ga :: ps).reverse.map ptr) := own_keep hrow fun b hb => by
      obtain rfl : R = b := Option.some.inj hb
      exact same' R (hs.dom R (by omega)).2 (fun e => by rw [e, hst.og] at hRo; omega) (fun e => by rw [e, hsa.og] at hRo; omega) (fun e => by rw [hsa.oK R e] at hRo; omega)
    rw [List.reverse_cons, List.map_append] at hk'
    exact ownsRow_pop (by rw [List.length_map, List.length_reverse, List.length_cons, hr.len, Nat.mul_one]) hk'
  have hstk := Stk.closed (i := (k : Int)) (w' := w') (v' := .slice (some ⟨R, 0, none⟩) (rest.length + 1) cap) (kA' := some ⟨kg, 0, none⟩) (kc' := c') hs hst hto hsa hr (by have := hbel.size; omega) rfl hpop blk kids (by
    rcases hat with hat | hat
    · exact .inl hat.symm
    · exact .inr ⟨kg, rfl, by omega⟩) same'
  obtain ⟨own', hstk⟩ := hstk
  refine h.next hx hk hb (Bk.bracket_close _ _ _ _ _ ho hc) (((h.bel.trans (hb02.mono h.bel.size)).trans h4b).trans hbel) ⟨own', _, hstk⟩ ?_ ?_
  · have := h.len
    simp only [List.length_cons] at this ⊢; omega
  · intro f hf
    rcases List.mem_cons.1 hf with rfl | hf
    · have := h.few f2 (by simp)
      refine ⟨Nat.le_succ_of_le this.1, ?_⟩
      show (f2.kids.snoc top.a k top.seps top.kids).len ≤ k + 1
      rw [Bk.Fo.len_snoc]; exact Nat.succ_le_succ this.2
    · have := h.few f (by simp [hf]); omega
theorem info_pstate : (Tryz.prog.info? 83).map (fun i => (i.zero, i.size, i.bytes)) = some (some (.pointer none), 1, 8) := by kernel_rfl
end Go.Proofs.YtjghijeblddijaaGreatDoor
set_option linter.unusedVariables false
namespace Go.Proofs.YtjghijeblddijaaGreatDoor
open Go.RowKit
theorem blk_drew {W : World} {b : Nat} {x : Option Obj} (h : W.heap[b]? = x) : W.drew.heap[b]? = x := h
set_option maxRecDepth 100000 in
set_option maxHeartbeats 8000000 in
theorem bSkel_main (g o c : Nat) (l : List Sp.Sym) (hl : l.length ≤ 1000) (hlc : l.length ≤ c) (w : World) (H : Row w g o l) :
    Calls Tryz.prog 17 #[.slice (some ⟨g, o, none⟩) l.length c] w (SkelPost w (Bk.skeleton l)) := by
  have hle : (Bk.ends l).1 ≤ l.length := by
    unfold Bk.ends
    split
    · rename_i i hi
      rw [List.findIdx?_eq_some_iff_getElem] at hi
      exact Nat.le_of_lt hi.1
    · exact Nat.le_refl _
  have hsk : Bk.skeleton l = Bk.finish (Bk.ends l).1 (Bk.ends l).2 (Bk.run 0 (l.take (Bk.ends l).1) Bk.start) := rfl
  have hE := fun w' (h : Row w' g o l) => bEnd_c g o c l (by omega) hlc w' h
  generalize Bk.ends l = E at *
  obtain ⟨n, place⟩ := E
  dsimp only at hle hsk hE
  rw [hsk]
  have HE := Lib.hid hE
  clear hsk hE
  generalize hWA : ((w.alloc (.cells #[.int .i64 0, .int .i64 0, .slice none 0 0, .slice none 0 0] 32)).alloc (.cells #[.int .i64 0, .int .i64 0] 35)) = WA
  have hBA : Below w.heap.size w WA := by
    rw [← hWA]; exact below_alloc0 (below_alloc0 (Below.refl _ _) _) _
  have hsA : WA.heap.size = w.heap.size + 2 := by rw [← hWA]; simp
  have KA0 : WA.heap[w.heap.size]? = some (.cells #[.int .i64 0, .int .i64 0, .slice none 0 0, .slice none 0 0] 32 (0, 0)) := by
    rw [← hWA]; exact alloc_keep (heap_alloc_new w _)
  have KA1 : WA.heap[w.heap.size + 1]? = some (.cells #[.int .i64 0, .int .i64 0] 35 (0, 0)) := by
    rw [← hWA]
    have := heap_alloc_new (w.alloc (.cells #[.int .i64 0, .int .i64 0, .slice none 0 0, .slice none 0 0] 32)) (.cells #[.int .i64 0, .int .i64 0] 35)
    simpa using this
  have HA := H.later hBA
  have hend := HE.out WA HA
  have Hend := Lib.hid hend
  have HWA := Lib.hid hWA
  clear hend hWA HE H
  go_enter Tryz.func17, Tryz.ntmps17
  go_wp2_with (first | (go_at_call 56; rw [HWA.out]; refine Hend.out.mono ?_; rintro e w1 ⟨rfl, hb1⟩))
  have hst := Stk.first (W1 := w1) (base := WA.heap.size) hb1.size (n : Int)
  generalize hWL : (w1.alloc (.cells #[.int .i64 (-1), .int .i64 n, .slice none 0 0, .slice none 0 0, .string ⟨#[]⟩, .map none, .slice none 0 0, .string ⟨#[]⟩] 88)).alloc (.cells #[.pointer (some ⟨w1.heap.size, 0, none⟩)] 83) = WL at *
  have hBL : Below WA.heap.size WA WL := by
    rw [← hWL]; exact below_alloc0 (below_alloc0 hb1 _) _
  clear hWL
  go_loopw [6, 27] (fun t6 t27 wr => ∃ (k : Nat) (st : List Bk.Fr) (R cap : Nat), t6 = .slice (some ⟨R, 0, none⟩) st.length cap ∧ t27 = .int .i64 k ∧ SkR WA (l.take n) n k st R cap wr) (fun _ t27 _ => n - (intOf t27).toNat)
  case atStart =>
    obtain ⟨own, ps, hs⟩ := hst
    refine ⟨0, Bk.start, w1.heap.size + 1, 1, rfl, rfl, Nat.zero_le _, by simp [Bk.start], hBL, ⟨own, ps, hs⟩, by decide, fun f hf => ?_, rfl⟩
    obtain rfl : f = ⟨.root, -1, [], .nil, []⟩ := by simpa [Bk.start] using hf
    exact ⟨Nat.le_refl _, Nat.le_refl _⟩
  case round =>
    obtain ⟨k, st, R, cap, rfl, rfl, hS⟩ := hrel
    clear hBL hst
    have hLl : (l.take n).length = n := by rw [List.length_take]; omega
    have hkn : k ≤ n := by have := hS.le; omega
    by_cases hlt : k < n
    · obtain ⟨x, hx⟩ : ∃ x, l[k]? = some x := ⟨l[k]'(by omega), List.getElem?_eq_getElem _⟩
      obtain ⟨q0, q1, q2⟩ := HA.later hS.bel k x hx
      obtain ⟨kd, tx, pos⟩ := x
      dsimp only at q0 q1 q2
      have HS := Lib.hid hS
      have Hx := Lib.hid hx
      clear hS hx
      have B1 : Below wr.heap.size wr (wr.alloc (.cells #[.int .i64 kd, .string ⟨tx.toArray⟩, .int .i64 pos] 28)) := below_alloc0 (Below.refl _ _) _
      have K8 := heap_alloc_new wr (.cells #[.int .i64 kd, .string ⟨tx.toArray⟩, .int .i64 pos] 28)
      have hs8 : (wr.alloc (.cells #[.int .i64 kd, .string ⟨tx.toArray⟩, .int .i64 pos] 28)).heap.size = wr.heap.size + 1 := by simp
      by_cases hbk : Bk.isBracket ⟨kd, tx, pos⟩ = true
      · have Hbk := Lib.hid hbk
        clear hbk
        have hne := HS.out.ne
        obtain ⟨top, rest, rfl⟩ : ∃ top rest, st = top :: rest := by
          cases st with
          | nil => exact absurd rfl hne
          | cons a t => exact ⟨a, t, rfl⟩
        clear hne
        have hrl : (top :: rest).length = rest.length + 1 := rfl
        have hl65 : rest.length + 1 ≤ 65 := HS.out.len
        obtain ⟨own, ps, hs⟩ := HS.out.stk
        obtain ⟨g0, ps', rfl, ⟨to_, A, sc, kA, kc, mp, cs, F, vals, FK, hto, hst⟩, hps'⟩ := hs.sts
        have hpl := hps'.len
        have cR : wr.cell? ⟨R, rest.length, none⟩ = some (.pointer (some ⟨g0, 0, none⟩)) := by
          refine (World.ownsRow.cellAt hs.row rest.length (by simp)).trans ?_
          rw [List.reverse_cons, List.map_append, List.getElem?_append_right (by simp; omega)]
          simp [hpl, ptr]
        have Hs := Lib.hid hs
        have Hst := Lib.hid hst
        have Hps := Lib.hid hps'
        have HcR := Lib.hid cR
        clear hs hst hps' cR
        cases hop : Bk.opening tx with
        | some oo =>
          have Hop := Lib.hid hop
          clear hop
          by_cases h64 : 64 < rest.length + 1
          · have h64' : ¬ ((rest.length : Int) + 1 ≤ 64) := by omega
            have hrun := (HS.out.step Hx.out hlt Hbk.out).2
            rw [show Bk.bracket k ⟨kd, tx, pos⟩ top rest = .error (pos, 3) from by unfold Bk.bracket; rw [Hop.out]; dsimp only; rw [if_pos h64]] at hrun
            have Hrun := Lib.hid hrun
            clear hrun
            go_wp2_with (first
              | (go_at_call 57; refine (bIs_c kd tx pos _).mono ?_; rw [Hbk.out]; rintro e w2 ⟨rfl, hb2⟩; have hb02 : Below wr.heap.size wr w2 := B1.trans (hb2.mono (by simp)); have cR := cell_later hb02 HcR.out; have K82 := (hb2.block wr.heap.size (by simp)).trans K8; have t0 := cell_of_blk K82 0; have t1 := cell_of_blk K82 1; have hs2 := hb2.size)
              | (go_at_call 58; refine (bForms_c tx oo Hop.out _).mono ?_; rintro e w3 ⟨mp2, cs2, F2, rfl, hF2, oF2, hb3⟩; obtain ⟨mm, rfl⟩ := hF2.isMap; obtain ⟨cA, cn, cc, rfl⟩ := hF2.isSlice; have hb03 : Below wr.heap.size wr w3 := hb02.trans (hb3.mono hb02.size)
                 have hbA4 : Below WA.heap.size WA (w3.alloc (.cells #[.string (bst (Bk.close oo)), .map mm, .slice cA cn cc] 86)) := (HS.out.bel.trans (hb03.mono HS.out.bel.size)).alloc (by have := HS.out.bel.size; have := hb03.size; omega) _
                 have L8 := ((below_alloc0 hb3 (.cells #[.string (bst (Bk.close oo)), .map mm, .slice cA cn cc] 86)).block wr.heap.size (by simp only [World.size_alloc] at hs2; omega)).trans K82
                 have u2 := cell_of_blk L8 2
                 have KB0 := (hbA4.block w.heap.size (by omega)).trans KA0
                 have KB1 := (hbA4.block (w.heap.size + 1) (by omega)).trans KA1
                 have d0 := cell_of_blk KB0 0
                 have d1 := cell_of_blk KB0 1
                 have d2 := cell_of_blk KB0 2
                 have d3 := cell_of_blk KB0 3
                 have e0 := cell_of_blk KB1 0
                 have e1 := cell_of_blk KB1 1
                 have df0 := free_of_blk KB0 0
                 have df1 := free_of_blk KB0 1
                 have df2 := free_of_blk KB0 2
                 have df3 := free_of_blk KB0 3
                 have ef0 := free_of_blk KB1 0
                 have ef1 := free_of_blk KB1 1
                 have HK0 := Lib.hid KB0
                 have HK1 := Lib.hid KB1
                 clear KB0 KB1 L8))
            generalize w3.alloc (.cells #[.string (bst (Bk.close oo)), .map mm, .slice cA cn cc] 86) = W4 at *
            have hAr := HS.out.bel.size
            have nw0 : w.heap.size ≠ wr.heap.size := by omega
            have nw1 : w.heap.size + 1 ≠ wr.heap.size := by omega
            have nw2 : wr.heap.size ≠ w.heap.size := by omega
            have nw3 : wr.heap.size ≠ w.heap.size + 1 := by omega
            go_region
            all_goals go_wp2
            have X := six_ok HK0.out HK1.out (.int .i64 0) (.int .i64 0) (.slice none 0 0) (.slice none 0 0) (.int .i64 pos) (.int .i64 3)
            unfold six at X
            refine skel_end (blk_drew X.1) (blk_drew X.2.1) ⟨((hBA.trans (hbA4.mono hBA.size)).trans X.2.2.2).drew, ?_⟩
            rw [Hrun.out]
            rfl
          · have h64' : ((rest.length : Int) + 1) ≤ 64 := by omega
            have HO := Hs.out.row
            go_wp2_with (first
              | (go_at_call 57; refine (bIs_c kd tx pos _).mono ?_; rw [Hbk.out]; rintro e w2 ⟨rfl, hb2⟩; have hb02 : Below wr.heap.size wr w2 := B1.trans (hb2.mono (by simp)); have cR := cell_later hb02 HcR.out; have K82 := (hb2.block wr.heap.size (by simp)).trans K8; have t0 := cell_of_blk K82 0; have t1 := cell_of_blk K82 1; have t2 := cell_of_blk K82 2)
              | (go_at_call 58; refine (bForms_c tx oo Hop.out _).mono ?_; rintro e w3 ⟨mp2, cs2, F2, rfl, hF2, oF2, hb3⟩; obtain ⟨mm, rfl⟩ := hF2.isMap; obtain ⟨cA, cn, cc, rfl⟩ := hF2.isSlice; have hb03 : Below wr.heap.size wr w3 := hb02.trans (hb3.mono hb02.size))
              | (at_builtin; refine append_lit WA.heap.size rfl _ _ 89 83 (.pointer none) 1 8 rfl Tryz.underlying89 info_pstate rfl (by decide) (by decide) (some ⟨R, 0, none⟩) (rest.length + 1) cap ((g0 :: ps').reverse.map ptr) [ptr (w3.heap.size + 1)] rfl (by simp only [World.size_alloc]; rfl) rfl (by intro u hu; rw [List.mem_singleton] at hu; rw [hu]; rfl) (own_keep HO fun b hb => (below_alloc0 (below_alloc0 hb03 _) _).block b (Hs.out.dom b (by rw [Hs.out.oR b hb]; decide)).2) (by have := HS.out.bel.size; have := hb03.size; simp; omega) (by omega) ?_; intro A' c' w6 hown hgr hbel hat))
            obtain ⟨R', rfl, hnext⟩ := HS.out.opened Hx.out hlt Hbk.out Hop.out h64 Hs.out hb02 hF2 oF2 hb3 rfl hown hgr hbel hat
            go_roundw
            case rel => exact ⟨k + 1, _, R', c', rfl, by go_num, hnext⟩
            case measure => simp [intOf]; omega
        | none =>
          have Hop := Lib.hid hop
          clear hop
          have hg3 : (rest.length = 0) ∨ (0 < rest.length ∧ (tx == Bk.close top.op) = false) ∨ (0 < rest.length ∧ (tx == Bk.close top.op) = true ∧ Bk.complete top = false) ∨ (0 < rest.length ∧ (tx == Bk.close top.op) = true ∧ Bk.complete top = true) := by
            rcases Nat.eq_zero_or_pos rest.length with h0 | h0
            · exact .inl h0
            · right
              cases hv : (tx == Bk.close top.op) with
              | false => exact .inl ⟨h0, rfl⟩
              | true =>
                right
                cases hv : Bk.complete top with
                | false => exact .inl ⟨h0, rfl, rfl⟩
                | true => exact .inr ⟨h0, rfl, rfl⟩
          have Hg3 := Lib.hid hg3
          clear hg3
          go_upto_region 13 with (first
            | (go_at_call 57; refine (bIs_c kd tx pos _).mono ?_; rw [Hbk.out]; rintro e w2 ⟨rfl, hb2⟩; have hb02 : Below wr.heap.size wr w2 := B1.trans (hb2.mono (by simp)); have cR := cell_later hb02 HcR.out; have K82 := (hb2.block wr.heap.size (by simp)).trans K8; have t0 := cell_of_blk K82 0; have t1 := cell_of_blk K82 1; have hs2 := hb2.size)
            | (go_at_call 58; refine (bForms_no tx Hop.out _).mono ?_; rintro e w3 ⟨rfl, hb3⟩; have hb03 : Below wr.heap.size wr w3 := hb02.trans (hb3.mono hb02.size)))
          have hb04 : Below wr.heap.size wr (w3.alloc (.cells #[.string ⟨#[]⟩, .map none, .slice none 0 0] 86)) := below_alloc0 hb03 _
          have K8 := ((below_alloc0 hb3 (.cells #[.string ⟨#[]⟩, .map none, .slice none 0 0] 86)).block wr.heap.size (by simp only [World.size_alloc] at hs2; omega)).trans K82
          generalize w3.alloc (.cells #[.string ⟨#[]⟩, .map none, .slice none 0 0] 86) = W4 at *
          have u1 := cell_of_blk K8 1
          have u2 := cell_of_blk K8 2
          have hst4 : StAt W4 WA.heap.size own rest.length g0 to_ top A sc kA kc mp cs F vals FK := Hst.out.keep fun b h _ => ⟨hb04.block b (Hs.out.dom b (by omega)).2, rfl⟩
          have b4 : W4.cell? ⟨g0, 4, none⟩ = some (.string ⟨(Bk.close top.op).toArray⟩) := (cell_of_blk hst4.blk 4).trans rfl
          have hcomp : ∀ m, Calls Tryz.prog 59 #[.pointer (some ⟨g0, 0, none⟩)] (W4.drewN m) fun e w' => e = .returned (.bool (Bk.complete top)) ∧ ∃ n, w' = (W4.drewN m).drewN n := fun m => bComplete_c g0 top _ _ _ _ _ mp cs F (W4.drewN m) hst4.blk (hst4.form.keep fun _ _ => rfl)
          have Hcomp := Lib.hid hcomp
          have Hst4 := Lib.hid hst4
          clear hcomp hst4
          have hg3 := Hg3.out
          clear Hg3
          clear hb2 hb3 hb03 hb02 K82 t0 t1 hs2 cR B1 q0 q1 q2
          rcases hg3 with h0 | ⟨h0, h1⟩ | ⟨h0, h1, h2⟩ | ⟨h0, h1, h2⟩
          case' inl =>
            have i0 : decide (1 < (rest.length : Int) + 1) = false := decide_eq_false (by omega)
            have Hcl := Lib.hid (show rest = [] ∨ (tx == Bk.close top.op && Bk.complete top) = false from .inl (List.eq_nil_of_length_eq_zero h0))
            clear h0
            go_quiet (fail)
          case' inr.inl =>
            have i0 : decide (1 < (rest.length : Int) + 1) = true := decide_eq_true (by omega)
            have Hcl := Lib.hid (show rest = [] ∨ (tx == Bk.close top.op && Bk.complete top) = false from .inr (by rw [h1]; rfl))
            clear h0
            go_quiet (fail)
          case' inr.inr.inl =>
            have i0 : decide (1 < (rest.length : Int) + 1) = true := decide_eq_true (by omega)
            have Hcl := Lib.hid (show rest = [] ∨ (tx == Bk.close top.op && Bk.complete top) = false from .inr (by rw [h1, h2]; rfl))
            rw [h2] at Hcomp
            clear h0 h2
            go_quiet (first | (go_at_call 59; exact Calls.quiet_of (Hcomp.out _)))
          case inr.inr.inr =>
            have i0 : decide (1 < (rest.length : Int) + 1) = true := decide_eq_true (by omega)
            have Hcl := Lib.hid (show (tx == Bk.close top.op && Bk.complete top) = true from by rw [h1, h2]; rfl)
            rw [h2] at Hcomp
            have hre : ∃ f2 rest', rest = f2 :: rest' := by
              cases rest with
              | nil => exact absurd h0 (by simp)
              | cons f2 r => exact ⟨f2, r, rfl⟩
            have Hre := Lib.hid hre
            clear h0 h2 hre
            go_quiet (first | (go_at_call 59; exact Calls.quiet_of (Hcomp.out _)))
            have hb05 := bdrewN hb04 nq
            clear u1 u2 b4 Hst4 Hcomp hb04 K8 h1 i0
            generalize W4.drewN nq = W5 at *
            obtain ⟨f2, rest', hre⟩ := Hre.out
            have hm : rest.length = rest'.length + 1 := by rw [hre]; rfl
            have hst5 : StAt W5 WA.heap.size own (rest'.length + 1) g0 to_ top A sc kA kc mp cs F vals FK := by rw [← hm]; exact Hst.out.keep fun b h _ => ⟨hb05.block b (Hs.out.dom b (by omega)).2, rfl⟩
            have hps5 : States W5 WA.heap.size own (n : Int) (f2 :: rest') ps' := by rw [← hre]; exact Hps.out.keep fun b h _ => ⟨hb05.block b (Hs.out.dom b (by omega)).2, rfl⟩
            have hs5 : Stk W5 WA.heap.size own n (top :: f2 :: rest') (g0 :: ps') (.slice (some ⟨R, 0, none⟩) (rest'.length + 1 + 1) cap) := by
              have := Hs.out.later hb05
              rw [hre] at this; exact this
            have HS2 : Hid (SkR WA (l.take n) n k (top :: f2 :: rest') R cap wr) := Lib.hid (by rw [← hre]; exact HS.out)
            obtain ⟨ga, ps'', rfl, ⟨to2, A2, c2, kA2, kc2, mp2, cs2, F2, vals2, FK2, hto2, hsa⟩, hps''⟩ := hps5
            have hl65' : rest'.length + 1 + 1 ≤ 65 := by omega
            rw [hm]
            clear hre hrl hl65 hpl hm
            have hRo := hs5.oR R rfl
            have og := hst5.og
            have oga := hsa.og
            have nR : R ≠ g0 := fun e => by rw [e] at hRo; omega
            have nR' : g0 ≠ R := fun e => nR e.symm
            have ng : ga ≠ g0 := fun e => by rw [e] at oga; omega
            have ng' : g0 ≠ ga := fun e => ng e.symm
            have hcap : rest'.length + 1 + 1 ≤ cap := by
              rcases hs5.row.2 with ⟨h0, _⟩ | ⟨_, _, _, h1, _, _, h2, _⟩
              · cases h0
              · injection h1 with _ _ h3; rw [h3]; exact h2
            have hcap1 : rest'.length + 1 ≤ cap := by omega
            have cR2 : W5.cell? ⟨R, rest'.length, none⟩ = some (.pointer (some ⟨ga, 0, none⟩)) := by
              refine (World.ownsRow.cellAt hs5.row rest'.length (by simp; omega)).trans ?_
              have hl2 := hps''.len
              rw [List.reverse_cons, List.reverse_cons, List.map_append, List.map_append, List.append_assoc, List.getElem?_append_right (by simp; omega)]
              simp [hl2, ptr]
            have c1 := cell_of_blk hst5.blk 1
            have cf1 := free_of_blk hst5.blk 1
            have Hst5 := Lib.hid hst5
            have Hsa := Lib.hid hsa
            have Hs5 := Lib.hid hs5
            have Hps5 := Lib.hid hps''
            have Hcap := Lib.hid hcap
            clear hst5 hsa hs5 hps'' hRo og oga Hre
            go_upto_region 17 with fail
            have K4 := blk_setCell Hst5.out.blk 1 (.int .i64 k)
            have h4 : ∀ b, b ≠ g0 → (W5.setCell ⟨g0, 1, none⟩ (.int .i64 k)).heap[b]? = W5.heap[b]? := fun b hb => Below.heap_setCell _ _ _ _ hb
            have h4s : (W5.setCell ⟨g0, 1, none⟩ (.int .i64 k)).heap.size = W5.heap.size := by simp
            have hdg := Hs5.out.dom g0 (by rw [Hst5.out.og]; omega)
            have hdga := Hs5.out.dom ga (by rw [Hsa.out.og]; omega)
            have h4b : Below WA.heap.size W5 (W5.setCell ⟨g0, 1, none⟩ (.int .i64 k)) := (Below.refl _ _).setCell hdg.1 _
            have Kga := (h4 ga ng).trans Hsa.out.blk
            have hk4 : (W5.setCell ⟨g0, 1, none⟩ (.int .i64 k)).ownsRow WA.heap.size 32 4 (.slice kA2 f2.kids.len kc2) f2.kids.len vals2 := own_keep Hsa.out.kids fun b hb => h4 b fun e => by
              have h1 := Hsa.out.oK b hb
              rw [e, Hst5.out.og] at h1; omega
            have hfew := (HS2.out.few f2 (by simp)).2
            generalize W5.setCell ⟨g0, 1, none⟩ (.int .i64 k) = W6 at *
            refine wp_region_any (by kernel_rfl) ?_
            refine close_region (W := W6.drew) ⟨rfl, by kernel_rfl, ⟨⟨_, rfl, rfl, rfl, rfl, by kernel_rfl⟩⟩, ⟨⟨_, rfl, rfl, rfl, rfl, by kernel_rfl⟩⟩, ⟨⟨_, rfl, rfl, rfl, rfl, by kernel_rfl⟩⟩, ⟨⟨_, rfl, rfl, rfl, rfl, by kernel_rfl⟩⟩, ⟨⟨_, rfl, rfl, rfl, rfl, by kernel_rfl⟩⟩, ⟨⟨_, rfl, rfl, rfl, rfl, by kernel_rfl⟩⟩, ⟨⟨_, rfl, rfl, rfl, rfl, by kernel_rfl⟩⟩, ⟨⟨_, rfl, rfl, rfl, rfl, by kernel_rfl⟩⟩, ⟨⟨_, rfl, rfl, rfl, rfl, by kernel_rfl⟩⟩, ⟨⟨_, rfl, rfl, rfl, rfl, by kernel_rfl⟩⟩, ⟨⟨_, rfl, rfl, rfl, rfl, by kernel_rfl⟩⟩, ⟨⟨_, rfl, rfl, rfl, rfl, by kernel_rfl⟩⟩, ⟨⟨_, rfl, rfl, rfl, rfl, by kernel_rfl⟩⟩, ⟨⟨_, rfl, rfl, rfl, rfl, by kernel_rfl⟩⟩, ⟨⟨_, rfl, rfl, rfl, rfl, by kernel_rfl⟩⟩, ⟨⟨_, rfl, rfl, rfl, rfl, by kernel_rfl⟩⟩, ⟨⟨_, rfl, rfl, rfl, rfl, by kernel_rfl⟩⟩, ⟨⟨_, rfl, rfl, rfl, rfl, by kernel_rfl⟩⟩⟩ ⟨ga, g0, f2.kids.len, kA2, kc2, top.a, k, A, top.seps.length, sc, kA, top.kids.len, kc, W6.heap.size⟩ WA.heap.size
              (fun j => (#[.int .i64 f2.a, .int .i64 to2, .slice A2 f2.seps.length c2, .slice none 0 0, .string (bst (Bk.close f2.op)), mp2, cs2, .string ⟨f2.last.toArray⟩] : Array Value).getD j undef) vals2 _ rfl rfl rfl Kga _ _ _ _ K4 hk4 rfl (by dsimp only; omega) hdga.1 ?_
            intro kg c' w7 blk7 own7 bel7 same7 hat7
            simp only [finT, List.foldl_cons, List.foldl_nil, CP.val, List.setIfInBounds_toArray, List.set_cons_succ, List.set_cons_zero]
            have bel7' : Below WA.heap.size W6 w7 := (Below.refl _ W6).drew.trans bel7
            have hnext := SkR.closed HS2.out Hx.out hlt Hbk.out Hop.out Hcl.out hb05 Hs5.out Hst5.out hto2 Hsa.out Hps5.out h4 h4s h4b blk7 own7 bel7' same7 hat7
            go_wp2
            go_roundw
            case rel => exact ⟨k + 1, { f2 with kids := f2.kids.snoc top.a k top.seps top.kids } :: rest', R, cap, rfl, by go_num, hnext⟩
            case measure => simp [intOf]; omega
          all_goals
            have hb05 := bdrewN hb04 nq
            have K85 : (W4.drewN nq).heap[wr.heap.size]? = some (.cells #[.int .i64 kd, .string ⟨tx.toArray⟩, .int .i64 pos] 28 (0, 0)) := K8
            clear u1 u2 b4 Hst4 Hcomp hb04 K8
            generalize W4.drewN nq = W5 at *
            have hst5 : StAt W5 WA.heap.size own rest.length g0 to_ top A sc kA kc mp cs F vals FK := Hst.out.keep fun b h _ => ⟨hb05.block b (Hs.out.dom b (by omega)).2, rfl⟩
            have hps5 : States W5 WA.heap.size own (n : Int) rest ps' := Hps.out.keep fun b h _ => ⟨hb05.block b (Hs.out.dom b (by omega)).2, rfl⟩
            have t1 := cell_of_blk K85 1
            have hdg := Hs.out.dom g0 (by rw [Hst.out.og]; omega)
            have hAr := HS.out.bel.size
            cases ht : Bk.take top tx with
            | some l' =>
              have hy := bTake_yes WA.heap.size g0 top tx k l' ht _ _ _ _ mp cs A sc F W5 hst5.blk hst5.form hdg.1 hst5.seps (fun e => by have h1 := hst5.oS g0 e; rw [hst5.og] at h1; omega) (by have := (HS.out.few top (List.mem_cons_self ..)).1; omega)
              have Hy := Lib.hid hy
              have Hst5 := Lib.hid hst5
              have Hps5 := Lib.hid hps5
              have Ht := Lib.hid ht
              clear hy hst5 hps5 ht
              go_wp2_with (first | (go_at_call 60; refine Hy.out.mono ?_; rintro e w6 ⟨rfl, hy2⟩))
              go_roundw
              case rel => exact ⟨k + 1, { top with last := l', seps := top.seps ++ [(k : Int)] } :: rest, R, cap, rfl, by go_num, HS.out.taken Hx.out hlt Hbk.out Hop.out Hcl.out Ht.out hb05 (Hs.out.later hb05) hto Hst5.out Hps5.out ⟨rfl, hy2⟩⟩
              case measure => simp [intOf]; omega
            | none =>
              have hy := bTake_no g0 top tx k ht _ _ _ _ _ mp cs F W5 hst5.blk hst5.form
              have Hy := Lib.hid hy
              have hrun := (HS.out.step Hx.out hlt Hbk.out).2
              rw [Bk.bracket_take _ _ _ _ Hop.out Hcl.out, ht] at hrun
              have Hrun := Lib.hid hrun
              clear hy hst5 hps5 ht hrun
              have hbA5 : Below WA.heap.size WA W5 := HS.out.bel.trans (hb05.mono hAr)
              have nw0 : w.heap.size ≠ wr.heap.size := by omega
              have nw1 : w.heap.size + 1 ≠ wr.heap.size := by omega
              have nw2 : wr.heap.size ≠ w.heap.size := by omega
              have nw3 : wr.heap.size ≠ w.heap.size + 1 := by omega
              go_wp2_with (first
                | (go_at_call 60; refine Hy.out.mono ?_; rintro e w6 ⟨rfl, n6, rfl⟩
                   have hbA4 := bdrewN hbA5 n6
                   have u2 : (W5.drewN n6).cell? ⟨wr.heap.size, 2, none⟩ = some (.int .i64 pos) := (cell_of_blk K85 2).trans rfl
                   clear t1
                   generalize W5.drewN n6 = W6 at *
                   have KB0 := (hbA4.block w.heap.size (by omega)).trans KA0
                   have KB1 := (hbA4.block (w.heap.size + 1) (by omega)).trans KA1
                   have d0 := cell_of_blk KB0 0
                   have d1 := cell_of_blk KB0 1
                   have d2 := cell_of_blk KB0 2
                   have d3 := cell_of_blk KB0 3
                   have e0 := cell_of_blk KB1 0
                   have e1 := cell_of_blk KB1 1
                   have df0 := free_of_blk KB0 0
                   have df1 := free_of_blk KB0 1
                   have df2 := free_of_blk KB0 2
                   have df3 := free_of_blk KB0 3
                   have ef0 := free_of_blk KB1 0
                   have ef1 := free_of_blk KB1 1
                   have HK0 := Lib.hid KB0
                   have HK1 := Lib.hid KB1
                   clear KB0 KB1))
              all_goals go_region
              all_goals go_wp2
              have X := six_ok HK0.out HK1.out (.int .i64 0) (.int .i64 0) (.slice none 0 0) (.slice none 0 0) (.int .i64 pos) (.int .i64 9)
              unfold six at X
              refine skel_end (blk_drew X.1) (blk_drew X.2.1) ⟨((hBA.trans (hbA4.mono hBA.size)).trans X.2.2.2).drew, ?_⟩
              rw [Hrun.out]
              rfl
      · have hbk' : Bk.isBracket ⟨kd, tx, pos⟩ = false := by simpa using hbk
        have Hbk := Lib.hid hbk'
        clear hbk hbk'
        go_wp2_with (first | (go_at_call 57; refine (bIs_c kd tx pos _).mono ?_; rw [Hbk.out]; rintro e w2 ⟨rfl, hb2⟩))
        have hb02 : Below wr.heap.size wr w2 := B1.trans (hb2.mono (by simp))
        have hbA2 : Below WA.heap.size WA w2 := HS.out.bel.trans (hb02.mono HS.out.bel.size)
        go_roundw
        case rel => exact ⟨k + 1, st, R, cap, rfl, by go_num, HS.out.skip Hx.out hlt Hbk.out hb02⟩
        case measure => simp [intOf]; omega
    · have hkn' : k = n := by omega
      subst hkn'
      have hrun := hS.run
      rw [List.drop_of_length_le (by omega), Bk.run] at hrun
      have Hrun := Lib.hid hrun
      have d0 := cell_of_blk ((hS.bel.block w.heap.size (by omega)).trans KA0) 0
      have d1 := cell_of_blk ((hS.bel.block w.heap.size (by omega)).trans KA0) 1
      have d2 := cell_of_blk ((hS.bel.block w.heap.size (by omega)).trans KA0) 2
      have d3 := cell_of_blk ((hS.bel.block w.heap.size (by omega)).trans KA0) 3
      have e0 := cell_of_blk ((hS.bel.block (w.heap.size + 1) (by omega)).trans KA1) 0
      have e1 := cell_of_blk ((hS.bel.block (w.heap.size + 1) (by omega)).trans KA1) 1
      have df := free_of_blk ((hS.bel.block w.heap.size (by omega)).trans KA0)
      have ef := free_of_blk ((hS.bel.block (w.heap.size + 1) (by omega)).trans KA1)
      have df0 := df 0
      have df1 := df 1
      have df2 := df 2
      have df3 := df 3
      have ef0 := ef 0
      have ef1 := ef 1
      have HK0 := Lib.hid ((hS.bel.block w.heap.size (by omega)).trans KA0)
      have HK1 := Lib.hid ((hS.bel.block (w.heap.size + 1) (by omega)).trans KA1)
      have HS := Lib.hid hS
      have hne := hS.ne
      clear df ef hS KA0 KA1
      match st, hne with
      | f :: f2 :: rest, _ =>
        have hlen2 : (f :: f2 :: rest).length = rest.length + 2 := rfl
        have hgt : ¬ ((f :: f2 :: rest).length : Int) ≤ 1 := by rw [hlen2]; omega
        clear hrun
        go_wp2
        have X := six_ok HK0.out HK1.out (.int .i64 0) (.int .i64 0) (.slice none 0 0) (.slice none 0 0) (.int .i64 place) (.int .i64 16)
        refine skel_end X.1 X.2.1 ⟨(hBA.trans (HS.out.bel.mono hBA.size)).trans X.2.2.2, ?_⟩
        rw [Hrun.out]
        rfl
      | [f], _ =>
        clear hrun
        obtain ⟨own, ps, hs⟩ := HS.out.stk
        obtain ⟨g0, ps', rfl, ⟨to_, A, sc, kA, kc, mp, cs, F, vals, FK, hto, hst⟩, hps'⟩ := hs.sts
        obtain rfl : ps' = [] := hps'
        obtain rfl : to_ = (k : Int) := hto rfl
        have cR : wr.cell? ⟨R, 0, none⟩ = some (.pointer (some ⟨g0, 0, none⟩)) := (World.ownsRow.cellAt hs.row 0 (by simp)).trans rfl
        have b0 := cell_of_blk hst.blk 0
        have b1 := cell_of_blk hst.blk 1
        have b2 := cell_of_blk hst.blk 2
        have b3 := cell_of_blk hst.blk 3
        have Hst := Lib.hid hst
        have Hs := Lib.hid hs
        clear hst hs
        go_wp2
        have X := six_ok HK0.out HK1.out (.int .i64 f.a) (.int .i64 k) (.slice A f.seps.length sc) (.slice kA f.kids.len kc) (.int .i64 0) (.int .i64 0)
        obtain ⟨SI, hI, hSI⟩ := IntsAt.of_own rfl Hst.out.seps
        obtain ⟨SR, hR, hSR⟩ := RowAt.of_own rfl Hst.out.kids Hst.out.deep
        have hdom : ∀ b, own b ≠ 0 → (six wr w.heap.size (.int .i64 f.a) (.int .i64 k) (.slice A f.seps.length sc) (.slice kA f.kids.len kc) (.int .i64 0) (.int .i64 0)).heap[b]? = wr.heap[b]? := fun b hb => by
          have := (Hs.out.dom b hb).1
          exact X.2.2.1 b (by omega) (by omega)
        refine skel_end X.1 X.2.1 ⟨(hBA.trans (HS.out.bel.mono hBA.size)).trans X.2.2.2, ?_⟩
        rw [Hrun.out]
        refine ⟨f.a, k, f.seps, f.kids, _, _, SI, SR, rfl, rfl, hI.keep fun b hb => hdom b (by rw [Hst.out.oS b (hSI b hb)]; omega), hR.keep fun b hb => hdom b ?_⟩
        rcases hSR b hb with h | h
        · rw [Hst.out.oK b h]; omega
        · rw [Hst.out.oD b h]; omega
end Go.Proofs.YtjghijeblddijaaGreatDoor
