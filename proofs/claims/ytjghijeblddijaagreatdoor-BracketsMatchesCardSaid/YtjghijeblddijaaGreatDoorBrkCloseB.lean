/- Walks of chapter 05: the stack of open groups in memory. Whose a block is: 0 nobody's, 1 the row of pointers; of the group at depth d: 4d+4 its box, 4d+5 its row of separators, 4d+6 its row of groups, 4d+7 what lies deeper. Walks of chapter 05: the stack of open groups: a group opens, a group closes. Walks of chapter 05: region 17 of Skeleton (a group is laid into the row of the one around it): its operations come up in any order. Walks of chapter 05: region 17 of Skeleton, operation by operation. Printed by wip/tools/closeB.py. -/
import Derived.Test.YtjghijeblddijaaGreatDoorBrkTakeC
import Derived.Test.YtjghijeblddijaaGreatDoorBrkFind
import Derived.WalkSmall
set_option linter.unusedVariables false
namespace Go.Proofs.YtjghijeblddijaaGreatDoor
open Go.RowKit
theorem own_keep {w w' : World} {B : Nat} {e : TypeId} {size n : Nat} {v : Value} {xs : List Value} (h : w.ownsRow B e size v n xs) (k : ∀ b, v.ownBlock = some b → w'.heap[b]? = w.heap[b]?) : w'.ownsRow B e size v n xs := by
  refine ⟨h.1, ?_⟩
  rcases h.2 with hn | ⟨g, cap, cur, rfl, hb, hg, rest⟩
  · exact .inl hn
  · exact .inr ⟨g, cap, cur, rfl, hb, (k g rfl).trans hg, rest⟩
theorem cell_keep {w w' : World} {g j : Nat} {x : Value} (k : w'.heap[g]? = w.heap[g]?) (h : w.cell? ⟨g, j, none⟩ = some x) : w'.cell? ⟨g, j, none⟩ = some x := by
  rw [← h]; unfold World.cell?; rw [k]
theorem IntsAt.keep {w w' : World} {v : Value} {l : List Int} {F : List Nat} (h : IntsAt w v l F) (k : ∀ b ∈ F, w'.heap[b]? = w.heap[b]?) : IntsAt w' v l F := by
  rcases h with h | ⟨g, c, h1, h2, h3, h4⟩
  · exact .inl h
  · exact .inr ⟨g, c, h1, fun j x hx => cell_keep (k g (by rw [h3]; simp)) (h2 j x hx), h3, h4⟩
theorem lt_keep {w w' : World} {g : Nat} (k : w'.heap[g]? = w.heap[g]?) (h : g < w.heap.size) : g < w'.heap.size := by
  rcases Nat.lt_or_ge g w'.heap.size with h' | h'
  · exact h'
  · rw [Array.getElem?_eq_none h', Array.getElem?_eq_getElem h] at k; cases k
theorem KidsAt.keep {w w' : World} : ∀ {k : Bk.Fo} {vs : List Value} {F : List Nat}, KidsAt w k vs F → (∀ b ∈ F, w'.heap[b]? = w.heap[b]?) → KidsAt w' k vs F := by
  intro k
  induction k with
  | nil => intro vs F h _; exact h
  | node a b s k r ihk ihr =>
    intro vs F ⟨sv, kv, vs', F0, F1, F2, h1, h2, h3, h4, h5⟩ hk
    subst h5
    refine ⟨sv, kv, vs', F0, F1, F2, h1, h2.keep fun b hb => hk b (by simp [hb]), ?_, ihr h4 fun b hb => hk b (by simp [hb]), rfl⟩
    rcases h3 with h3 | ⟨g, c, vals, F', g1, g2, g3, g4, g5, g6⟩
    · exact .inl h3
    · subst g6
      have kg := hk g (by simp)
      exact .inr ⟨g, c, vals, F', g1, g2, lt_keep kg g3, fun j x hx => cell_keep kg (g4 j x hx), ihk g5 fun b hb => hk b (by simp [hb]), rfl⟩
theorem RowAt.keep {w w' : World} {k : Bk.Fo} {kv : Value} {F : List Nat} (h : RowAt w kv k F) (hk : ∀ b ∈ F, w'.heap[b]? = w.heap[b]?) : RowAt w' kv k F := by
  rcases h with h3 | ⟨g, c, vals, F', g1, g2, g3, g4, g5, g6⟩
  · exact .inl h3
  · subst g6
    have kg := hk g (by simp)
    exact .inr ⟨g, c, vals, F', g1, g2, lt_keep kg g3, fun j x hx => cell_keep kg (g4 j x hx), g5.keep fun b hb => hk b (by simp [hb]), rfl⟩
theorem KidsAt.snoc {w : World} {a b : Int} {s : List Int} {k : Bk.Fo} {sv kv : Value} {S K : List Nat} (hI : IntsAt w sv s S) (hR : RowAt w kv k K) : ∀ {fo : Bk.Fo} {vs : List Value} {F : List Nat}, KidsAt w fo vs F →
    KidsAt w (fo.snoc a b s k) (vs ++ [.int .i64 a, .int .i64 b, sv, kv]) (F ++ (S ++ K)) := by
  intro fo
  induction fo with
  | nil =>
    intro vs F ⟨h1, h2⟩
    subst h1
    subst h2
    exact ⟨sv, kv, [], S, K, [], rfl, hI, hR, ⟨rfl, rfl⟩, by simp⟩
  | node a' b' s' k' r _ ihr =>
    intro vs F ⟨sv', kv', vs', F0, F1, F2, h1, h2, h3, h4, h5⟩
    subst h1
    subst h5
    exact ⟨sv', kv', _, F0, F1, _, rfl, h2, h3, ihr h4, by simp⟩
theorem Bk.Fo.len_snoc (a b : Int) (s : List Int) (k : Bk.Fo) : ∀ fo : Bk.Fo, (fo.snoc a b s k).len = fo.len + 1 := by
  intro fo
  induction fo with
  | nil => rfl
  | node a' b' s' k' r _ ihr => rw [Bk.Fo.snoc, Bk.Fo.len, Bk.Fo.len, ihr]
theorem add0 (g j : Nat) : (⟨g, 0, none⟩ : Addr).add j = ⟨g, j, none⟩ := by unfold Addr.add; split <;> simp_all
theorem IntsAt.of_own {w : World} {base : Nat} {e : TypeId} {A : Option Addr} {n c : Nat} {l : List Int} (hn : n = l.length) (h : w.ownsRow base e 1 (.slice A n c) n (l.map (Value.int .i64))) : ∃ F, IntsAt w (.slice A n c) l F ∧ ∀ b ∈ F, (Value.slice A n c).ownBlock = some b := by
  subst hn
  rcases h.2 with ⟨h1, h2⟩ | ⟨g, cap, cur, h1, hb, hg, h3, h4, h5, h6⟩
  · exact ⟨[], .inl ⟨List.eq_nil_of_length_eq_zero h2, h1, rfl⟩, fun b hb => by cases hb⟩
  · refine ⟨[g], .inr ⟨g, cap, h1, fun j x hx => ?_, rfl, h3⟩, fun b hb => ?_⟩
    · injection h1 with q1 q2 q3
      subst q1
      have := World.ownsRow.cells h (g := g) rfl j (.int .i64 x) (by simp [hx])
      rw [add0] at this; exact this
    · obtain rfl : b = g := by simpa using hb
      rw [h1]; rfl
theorem Bk.Fo.nil_of_len {k : Bk.Fo} (h : k.len = 0) : k = .nil := by
  cases k with
  | nil => rfl
  | node => rw [Bk.Fo.len] at h; omega
theorem RowAt.of_own {w : World} {base : Nat} {e : TypeId} {A : Option Addr} {n c : Nat} {k : Bk.Fo} {vals : List Value} {FK : List Nat} (hn : n = k.len) (h : w.ownsRow base e 4 (.slice A n c) n vals) (hk : KidsAt w k vals FK) :
    ∃ F, RowAt w (.slice A n c) k F ∧ ∀ b ∈ F, (Value.slice A n c).ownBlock = some b ∨ b ∈ FK := by
  subst hn
  rcases h.2 with ⟨h1, h2⟩ | ⟨g, cap, cur, h1, hb, hg, h3, h4, h5, h6⟩
  · exact ⟨[], .inl ⟨Bk.Fo.nil_of_len h2, h1, rfl⟩, fun b hb => by cases hb⟩
  · refine ⟨g :: FK, .inr ⟨g, cap, vals, FK, h1, h3, lt_of_blk hg, fun j x hx => ?_, hk, rfl⟩, fun b hb => ?_⟩
    · injection h1 with q1 q2 q3
      subst q1
      have := World.ownsRow.cells h (g := g) rfl j x hx
      rw [add0] at this; exact this
    · rcases List.mem_cons.1 hb with rfl | hb
      · left; rw [h1]; rfl
      · exact .inr hb
/-- An open group in memory. -/
structure StAt (w : World) (base : Nat) (own : Nat → Nat) (d g : Nat) (to_ : Int) (f : Bk.Fr) (A : Option Addr) (c : Nat) (kA : Option Addr) (kc : Nat) (mp cs : Value) (F : List Nat) (vals : List Value) (FK : List Nat) : Prop where
  blk : w.heap[g]? = some (.cells #[.int .i64 f.a, .int .i64 to_, .slice A f.seps.length c, .slice kA f.kids.len kc, .string (bst (Bk.close f.op)), mp, cs, .string ⟨f.last.toArray⟩] 88 (0, 0))
  og : own g = 4 * d + 4
  form : FormAt w f.op mp cs F
  oF : ∀ b ∈ F, own b = 4 * d + 7
  seps : w.ownsRow base 3 1 (.slice A f.seps.length c) f.seps.length (f.seps.map (Value.int .i64))
  oS : ∀ b, (Value.slice A f.seps.length c).ownBlock = some b → own b = 4 * d + 5
  kids : w.ownsRow base 32 4 (.slice kA f.kids.len kc) f.kids.len vals
  oK : ∀ b, (Value.slice kA f.kids.len kc).ownBlock = some b → own b = 4 * d + 6
  deep : KidsAt w f.kids vals FK
  oD : ∀ b ∈ FK, own b = 4 * d + 7
theorem StAt.keep {w w' : World} {base : Nat} {own own' : Nat → Nat} {d g : Nat} {to_ : Int} {f : Bk.Fr} {A : Option Addr} {c : Nat} {kA : Option Addr} {kc : Nat} {mp cs : Value} {F : List Nat} {vals : List Value} {FK : List Nat}
    (h : StAt w base own d g to_ f A c kA kc mp cs F vals FK) (k : ∀ b, 4 * d + 4 ≤ own b → own b ≤ 4 * d + 7 → w'.heap[b]? = w.heap[b]? ∧ own' b = own b) : StAt w' base own' d g to_ f A c kA kc mp cs F vals FK := by
  have kg := k g (by rw [h.og]; omega) (by rw [h.og]; omega)
  have kF := fun b hb => k b (by rw [h.oF b hb]; omega) (by rw [h.oF b hb]; omega)
  have kS := fun b hb => k b (by rw [h.oS b hb]; omega) (by rw [h.oS b hb]; omega)
  have kK := fun b hb => k b (by rw [h.oK b hb]; omega) (by rw [h.oK b hb]; omega)
  have kD := fun b hb => k b (by rw [h.oD b hb]; omega) (by rw [h.oD b hb]; omega)
  exact ⟨kg.1.trans h.blk, kg.2.trans h.og, h.form.keep fun b hb => (kF b hb).1, fun b hb => (kF b hb).2.trans (h.oF b hb), own_keep h.seps fun b hb => (kS b hb).1, fun b hb => (kS b hb).2.trans (h.oS b hb),
    own_keep h.kids fun b hb => (kK b hb).1, fun b hb => (kK b hb).2.trans (h.oK b hb), h.deep.keep fun b hb => (kD b hb).1, fun b hb => (kD b hb).2.trans (h.oD b hb)⟩
/-- The open groups, the top one first. -/
def States (w : World) (base : Nat) (own : Nat → Nat) (N : Int) : List Bk.Fr → List Nat → Prop
  | [], ps => ps = []
  | f :: r, ps => ∃ g ps', ps = g :: ps' ∧ (∃ to_ A c kA kc mp cs F vals FK, (r = [] → to_ = N) ∧ StAt w base own r.length g to_ f A c kA kc mp cs F vals FK) ∧ States w base own N r ps'
theorem States.keep {w w' : World} {base : Nat} {own own' : Nat → Nat} {N : Int} : ∀ {st : List Bk.Fr} {ps : List Nat}, States w base own N st ps → (∀ b, 4 ≤ own b → own b ≤ 4 * st.length + 3 → w'.heap[b]? = w.heap[b]? ∧ own' b = own b) → States w' base own' N st ps := by
  intro st
  induction st with
  | nil => intro ps h _; exact h
  | cons f r ih =>
    intro ps ⟨g, ps', h1, ⟨to_, A, c, kA, kc, mp, cs, F, vals, FK, h2, h3⟩, h4⟩ k
    rw [List.length_cons] at k
    exact ⟨g, ps', h1, ⟨to_, A, c, kA, kc, mp, cs, F, vals, FK, h2, h3.keep fun b h h' => k b (by omega) (by omega)⟩, ih h4 fun b h h' => k b h (by omega)⟩
theorem States.len {w : World} {base : Nat} {own : Nat → Nat} {N : Int} : ∀ {st : List Bk.Fr} {ps : List Nat}, States w base own N st ps → ps.length = st.length := by
  intro st
  induction st with
  | nil => intro ps h; rw [show ps = [] from h]; rfl
  | cons f r ih =>
    intro ps ⟨g, ps', h1, _, h4⟩
    rw [h1, List.length_cons, List.length_cons, ih h4]
def ptr (g : Nat) : Value := .pointer (some ⟨g, 0, none⟩)
/-- The stack: the row of pointers, the open groups. -/
structure Stk (w : World) (base : Nat) (own : Nat → Nat) (N : Int) (st : List Bk.Fr) (ps : List Nat) (v : Value) : Prop where
  dom : ∀ b, own b ≠ 0 → base ≤ b ∧ b < w.heap.size
  row : w.ownsRow base 83 1 v st.length (ps.reverse.map ptr)
  oR : ∀ b, v.ownBlock = some b → own b = 1
  sts : States w base own N st ps
theorem Stk.later {w w' : World} {base : Nat} {own : Nat → Nat} {N : Int} {st : List Bk.Fr} {ps : List Nat} {v : Value} (h : Stk w base own N st ps v) (hb : Below w.heap.size w w') : Stk w' base own N st ps v := by
  have hs := hb.size
  refine ⟨fun b h0 => ⟨(h.dom b h0).1, by have := (h.dom b h0).2; omega⟩, own_keep h.row fun b hv => hb.block b (h.dom b (by rw [h.oR b hv]; omega)).2, h.oR, h.sts.keep fun b h0 _ => ⟨hb.block b (h.dom b (by omega)).2, rfl⟩⟩
/-- take has taken a separator. -/
theorem Stk.taken {w w' : World} {base : Nat} {own : Nat → Nat} {N : Int} {f : Bk.Fr} {rest : List Bk.Fr} {g : Nat} {ps : List Nat} {v : Value} {to_ : Int} {A : Option Addr} {c : Nat} {kA : Option Addr} {kc : Nat} {mp cs : Value} {F : List Nat} {vals : List Value} {FK : List Nat} {i : Int} {l' : List UInt8} {e : Ending}
    (h : Stk w base own N (f :: rest) (g :: ps) v) (hto : rest = [] → to_ = N) (hs : StAt w base own rest.length g to_ f A c kA kc mp cs F vals FK) (hr : States w base own N rest ps)
    (ht : TakeYes base g f i l' (.int .i64 f.a) (.int .i64 to_) (.slice kA f.kids.len kc) (.string (bst (Bk.close f.op))) mp cs A c w e w') :
    ∃ own', Stk w' base own' N ({ f with last := l', seps := f.seps ++ [i] } :: rest) (g :: ps) v := by
  obtain ⟨_, A', c', hblk, hown, hbel, hsame, hat⟩ := ht
  have hsz := hbel.size
  have og := hs.og
  generalize hd : rest.length = d at *
  have hgl := lt_of_blk hs.blk
  -- the owner of the new row
  obtain ⟨nb, hnb⟩ : ∃ nb : Nat → Prop, ∀ b, nb b ↔ ((Value.slice A' (f.seps.length + 1) c').ownBlock = some b ∧ w.heap.size ≤ b) := ⟨_, fun b => Iff.rfl⟩
  classical
  refine ⟨fun b => if nb b then 4 * d + 5 else own b, ?_⟩
  have old : ∀ b, b < w.heap.size → (if nb b then 4 * d + 5 else own b) = own b := fun b hb => if_neg fun h' => by have := ((hnb b).1 h').2; omega
  have keepo : ∀ b, own b ≠ 0 → own b ≠ 4 * d + 4 → own b ≠ 4 * d + 5 → w'.heap[b]? = w.heap[b]? ∧ (if nb b then 4 * d + 5 else own b) = own b := fun b h0 h1 h2 =>
    ⟨hsame b (h.dom b h0).2 (fun e => h1 (by rw [e]; exact og)) (fun e => h2 (hs.oS b e)), old b (h.dom b h0).2⟩
  refine ⟨fun b h0 => ?_, own_keep h.row fun b hv => (keepo b (by rw [h.oR b hv]; omega) (by rw [h.oR b hv]; omega) (by rw [h.oR b hv]; omega)).1, fun b hv => ?_, g, ps, rfl, ⟨to_, A', c', kA, kc, mp, cs, F, vals, FK, hto, ?_⟩, ?_⟩
  · by_cases hb : nb b
    · have := World.ownsRow.lt hown b ((hnb b).1 hb).1; exact this
    · rw [if_neg hb] at h0
      have := h.dom b h0; exact ⟨this.1, by omega⟩
  · rw [(keepo b (by rw [h.oR b hv]; omega) (by rw [h.oR b hv]; omega) (by rw [h.oR b hv]; omega)).2]
    exact h.oR b hv
  · rw [hd]
    refine ⟨by rw [hblk, List.length_append]; rfl, ?_, hs.form.keep fun b hb => (keepo b (by rw [hs.oF b hb]; omega) (by rw [hs.oF b hb]; omega) (by rw [hs.oF b hb]; omega)).1, fun b hb => ?_, by rw [List.length_append]; exact hown, fun b hb => ?_,
      own_keep hs.kids fun b hb => (keepo b (by rw [hs.oK b hb]; omega) (by rw [hs.oK b hb]; omega) (by rw [hs.oK b hb]; omega)).1, fun b hb => ?_, hs.deep.keep fun b hb => (keepo b (by rw [hs.oD b hb]; omega) (by rw [hs.oD b hb]; omega) (by rw [hs.oD b hb]; omega)).1, fun b hb => ?_⟩
    · rw [old g hgl]; exact og
    · rw [(keepo b (by rw [hs.oF b hb]; omega) (by rw [hs.oF b hb]; omega) (by rw [hs.oF b hb]; omega)).2]; exact hs.oF b hb
    · rw [List.length_append] at hb
      have hb' : (Value.slice A' (f.seps.length + 1) c').ownBlock = some b := hb
      by_cases hlt : b < w.heap.size
      · rw [old b hlt]
        rcases hat with hat | ⟨b2, h1, h2⟩
        · exact hs.oS b (by rw [← hat]; exact hb')
        · rw [hb'] at h1; injection h1 with h1; omega
      · rw [if_pos ((hnb b).2 ⟨hb', by omega⟩)]
    · rw [(keepo b (by rw [hs.oK b hb]; omega) (by rw [hs.oK b hb]; omega) (by rw [hs.oK b hb]; omega)).2]; exact hs.oK b hb
    · rw [(keepo b (by rw [hs.oD b hb]; omega) (by rw [hs.oD b hb]; omega) (by rw [hs.oD b hb]; omega)).2]; exact hs.oD b hb
  · exact hr.keep fun b h0 h1 => keepo b (by omega) (by omega) (by omega)
end Go.Proofs.YtjghijeblddijaaGreatDoor
set_option linter.unusedVariables false
namespace Go.Proofs.YtjghijeblddijaaGreatDoor
open Go.RowKit
theorem Stk.opened {w w' : World} {base : Nat} {own : Nat → Nat} {N : Int} {st : List Bk.Fr} {ps : List Nat} {v v' : Value} {o : Bk.Op} {a : Int} {p : Nat} {mp cs : Value} {F : List Nat}
    (h : Stk w base own N st ps v) (hst : st ≠ []) (hbase : base ≤ w.heap.size) (hs : w.heap.size ≤ w'.heap.size) (hF : FormAt w' o mp cs F) (oF : ∀ b ∈ F, w.heap.size ≤ b ∧ b < w'.heap.size) (hp : w.heap.size ≤ p) (hpF : p ∉ F)
    (blk : w'.heap[p]? = some (.cells #[.int .i64 a, .int .i64 0, .slice none 0 0, .slice none 0 0, .string (bst (Bk.close o)), mp, cs, .string ⟨#[]⟩] 88 (0, 0)))
    (row : w'.ownsRow base 83 1 v' (st.length + 1) (ps.reverse.map ptr ++ [ptr p]))
    (hv : v'.ownBlock = v.ownBlock ∨ ∃ b, v'.ownBlock = some b ∧ w.heap.size ≤ b ∧ b ≠ p ∧ b ∉ F)
    (same : ∀ b, b < w.heap.size → v.ownBlock ≠ some b → w'.heap[b]? = w.heap[b]?) :
    ∃ own', Stk w' base own' N (⟨o, a, [], .nil, []⟩ :: st) (p :: ps) v' := by
  classical
  generalize hd : st.length = d at *
  obtain ⟨ow, how⟩ : ∃ ow : Nat → Nat, ow = fun b => if b = p then 4 * d + 4 else if b ∈ F then 4 * d + 7 else if v'.ownBlock = some b then 1 else own b := ⟨_, rfl⟩
  have o1 : ow p = 4 * d + 4 := by rw [how]; dsimp only; rw [if_pos rfl]
  have o2 : ∀ b ∈ F, ow b = 4 * d + 7 := fun b hb => by
    rw [how]; dsimp only; rw [if_neg (fun e => hpF (by rw [← e]; exact hb)), if_pos hb]
  have olt : ∀ b, own b ≠ 0 → b < w.heap.size := fun b h0 => (h.dom b h0).2
  have o3 : ∀ b, v'.ownBlock = some b → ow b = 1 := fun b hb => by
    have hne : b ≠ p ∧ b ∉ F := by
      rcases hv with hv | ⟨b2, h1, h2, h3, h4⟩
      · have := olt b (by rw [h.oR b (by rw [← hv]; exact hb)]; omega)
        exact ⟨by omega, fun hf => by have := (oF b hf).1; omega⟩
      · rw [hb] at h1; injection h1 with h1; subst h1; exact ⟨h3, h4⟩
    rw [how]; dsimp only; rw [if_neg hne.1, if_neg hne.2, if_pos hb]
  have o4 : ∀ b, own b ≠ 0 → own b ≠ 1 → w'.heap[b]? = w.heap[b]? ∧ ow b = own b := fun b h0 h1 => by
    have hlt := olt b h0
    refine ⟨same b hlt fun e => h1 (h.oR b e), ?_⟩
    have hn : v'.ownBlock ≠ some b := by
      rcases hv with hv | ⟨b2, h3, h4, _, _⟩
      · rw [hv]; exact fun e => h1 (h.oR b e)
      · rw [h3]; intro e; injection e with e; omega
    rw [how]; dsimp only; rw [if_neg (by omega), if_neg (fun hf => by have := (oF b hf).1; omega), if_neg hn]
  have hpl := lt_of_blk blk
  refine ⟨ow, fun b h0 => ?_, by rw [List.length_cons, hd, List.reverse_cons, List.map_append]; exact row, o3, p, ps, rfl, ⟨0, none, 0, none, 0, mp, cs, F, [], [], fun e => absurd e hst, ?_⟩, h.sts.keep fun b h0 _ => o4 b (by omega) (by omega)⟩
  · by_cases e1 : b = p
    · subst e1; exact ⟨by omega, hpl⟩
    by_cases e2 : b ∈ F
    · have := oF b e2; exact ⟨by omega, this.2⟩
    by_cases e3 : v'.ownBlock = some b
    · exact World.ownsRow.lt row b e3
    · rw [how] at h0; dsimp only at h0; rw [if_neg e1, if_neg e2, if_neg e3] at h0
      have := h.dom b h0; exact ⟨this.1, by omega⟩
  · rw [hd]
    exact ⟨blk, o1, hF, o2, World.ownsRow_nil _ _ _ _, fun b hb => (by cases hb), World.ownsRow_nil _ _ _ _, fun b hb => (by cases hb), ⟨rfl, rfl⟩, fun b hb => (by cases hb)⟩
theorem Stk.closed {w w' : World} {base : Nat} {own : Nat → Nat} {N i : Int} {f f2 : Bk.Fr} {rest : List Bk.Fr} {g ga : Nat} {ps : List Nat} {v v' : Value} {to_ to2 : Int} {A A2 : Option Addr} {c c2 : Nat} {kA kA2 kA' : Option Addr} {kc kc2 kc' : Nat} {mp cs mp2 cs2 : Value} {F F2 : List Nat} {vals vals2 : List Value} {FK FK2 : List Nat}
    (h : Stk w base own N (f :: f2 :: rest) (g :: ga :: ps) v) (hs : StAt w base own (rest.length + 1) g to_ f A c kA kc mp cs F vals FK) (hto : rest = [] → to2 = N) (ha : StAt w base own rest.length ga to2 f2 A2 c2 kA2 kc2 mp2 cs2 F2 vals2 FK2) (hr : States w base own N rest ps)
    (hsz : w.heap.size ≤ w'.heap.size) (hvb : v'.ownBlock = v.ownBlock) (row : w'.ownsRow base 83 1 v' (rest.length + 1) ((ga :: ps).reverse.map ptr))
    (blk : w'.heap[ga]? = some (.cells #[.int .i64 f2.a, .int .i64 to2, .slice A2 f2.seps.length c2, .slice kA' (f2.kids.len + 1) kc', .string (bst (Bk.close f2.op)), mp2, cs2, .string ⟨f2.last.toArray⟩] 88 (0, 0)))
    (kids : w'.ownsRow base 32 4 (.slice kA' (f2.kids.len + 1) kc') (f2.kids.len + 1) (vals2 ++ [.int .i64 f.a, .int .i64 i, .slice A f.seps.length c, .slice kA f.kids.len kc]))
    (hat : (Value.slice kA' (f2.kids.len + 1) kc').ownBlock = (Value.slice kA2 f2.kids.len kc2).ownBlock ∨ ∃ b, (Value.slice kA' (f2.kids.len + 1) kc').ownBlock = some b ∧ w.heap.size ≤ b)
    (same : ∀ b, b < w.heap.size → b ≠ g → b ≠ ga → (Value.slice kA2 f2.kids.len kc2).ownBlock ≠ some b → w'.heap[b]? = w.heap[b]?) :
    ∃ own', Stk w' base own' N ({ f2 with kids := f2.kids.snoc f.a i f.seps f.kids } :: rest) (ga :: ps) v' := by
  classical
  have hsog := hs.og
  have haog := ha.og
  generalize hd : rest.length = d at *
  obtain ⟨ow, how⟩ : ∃ ow : Nat → Nat, ow = fun b => if (Value.slice kA' (f2.kids.len + 1) kc').ownBlock = some b then 4 * d + 6 else if own b = 4 * d + 9 ∨ own b = 4 * d + 10 ∨ own b = 4 * d + 11 then 4 * d + 7 else if own b = 4 * d + 8 then 0 else own b := ⟨_, rfl⟩
  have olt : ∀ b, own b ≠ 0 → b < w.heap.size := fun b h0 => (h.dom b h0).2
  have o1 : ∀ b, (Value.slice kA' (f2.kids.len + 1) kc').ownBlock = some b → ow b = 4 * d + 6 := fun b hb => by rw [how]; dsimp only; rw [if_pos hb]
  have onk : ∀ b, own b ≠ 0 → own b ≠ 4 * d + 6 → (Value.slice kA' (f2.kids.len + 1) kc').ownBlock ≠ some b := fun b h0 h6 e => by
    rcases hat with hat | ⟨b2, h1, h2⟩
    · exact h6 (ha.oK b (by rw [← hat]; exact e))
    · rw [e] at h1; injection h1 with h1; have := olt b h0; omega
  have o2 : ∀ b, own b ≠ 0 → own b ≠ 4 * d + 6 → own b ≠ 4 * d + 4 → own b ≠ 4 * d + 8 → w'.heap[b]? = w.heap[b]? ∧ ow b = if own b = 4 * d + 9 ∨ own b = 4 * d + 10 ∨ own b = 4 * d + 11 then 4 * d + 7 else own b := fun b h0 h6 h4 h8 => by
    refine ⟨same b (olt b h0) (fun e => h8 (by rw [e, hsog]; omega)) (fun e => h4 (by rw [e, haog])) (fun e => h6 (ha.oK b e)), ?_⟩
    rw [how]; dsimp only; rw [if_neg (onk b h0 h6), if_neg h8]
  have o3 : ∀ b, own b ≠ 0 → own b ≤ 4 * d + 7 → own b ≠ 4 * d + 6 → own b ≠ 4 * d + 4 → w'.heap[b]? = w.heap[b]? ∧ ow b = own b := fun b h0 h7 h6 h4 => by
    have := o2 b h0 h6 h4 (by omega)
    rw [if_neg (by omega)] at this; exact this
  have o5 : ∀ b, own b = 4 * d + 9 ∨ own b = 4 * d + 10 ∨ own b = 4 * d + 11 → w'.heap[b]? = w.heap[b]? ∧ ow b = 4 * d + 7 := fun b hb => by
    have := o2 b (by omega) (by omega) (by omega) (by omega)
    rw [if_pos hb] at this; exact this
  have oga : ow ga = 4 * d + 4 := by
    rw [how]; dsimp only; rw [if_neg (onk ga (by omega) (by omega)), if_neg (by omega), if_neg (by omega)]; exact haog
  -- the new group in the row
  have seps' : w'.ownsRow base 3 1 (.slice A f.seps.length c) f.seps.length (f.seps.map (Value.int .i64)) := own_keep hs.seps fun b hb => (o5 b (by have := hs.oS b hb; omega)).1
  have kids' : w'.ownsRow base 32 4 (.slice kA f.kids.len kc) f.kids.len vals := own_keep hs.kids fun b hb => (o5 b (by have := hs.oK b hb; omega)).1
  have deep' : KidsAt w' f.kids vals FK := hs.deep.keep fun b hb => (o5 b (by have := hs.oD b hb; omega)).1
  obtain ⟨SI, hI, hSI⟩ := IntsAt.of_own rfl seps'
  obtain ⟨SR, hR, hSR⟩ := RowAt.of_own rfl kids' deep'
  have deep2 : KidsAt w' f2.kids vals2 FK2 := ha.deep.keep fun b hb => (o3 b (by rw [ha.oD b hb]; omega) (by rw [ha.oD b hb]; omega) (by rw [ha.oD b hb]; omega) (by rw [ha.oD b hb]; omega)).1
  have hsn := KidsAt.snoc (a := f.a) (b := i) hI hR deep2
  have hln := Bk.Fo.len_snoc f.a i f.seps f.kids f2.kids
  refine ⟨ow, fun b h0 => ?_, by rw [List.length_cons, hd]; exact row, fun b hb => ?_, ga, ps, rfl, ⟨to2, A2, c2, kA', kc', mp2, cs2, F2, vals2 ++ [.int .i64 f.a, .int .i64 i, .slice A f.seps.length c, .slice kA f.kids.len kc], FK2 ++ (SI ++ SR), hto, ?_⟩, hr.keep fun b h0 h1 => o3 b (by omega) (by omega) (by omega) (by omega)⟩
  · by_cases e1 : (Value.slice kA' (f2.kids.len + 1) kc').ownBlock = some b
    · exact World.ownsRow.lt kids b e1
    · rw [how] at h0; dsimp only at h0; rw [if_neg e1] at h0
      have h1 : own b ≠ 0 := by
        intro e
        rw [e, if_neg (by omega), if_neg (by omega)] at h0
        exact h0 rfl
      have := h.dom b h1; exact ⟨this.1, by omega⟩
  · rw [hvb] at hb
    have h1 := h.oR b hb
    rw [(o3 b (by omega) (by omega) (by omega) (by omega)).2]; exact h1
  · rw [hd]
    have q : ∀ b, own b = 4 * d + 7 ∨ own b = 4 * d + 5 → w'.heap[b]? = w.heap[b]? ∧ ow b = own b := fun b hb => o3 b (by omega) (by omega) (by omega) (by omega)
    refine ⟨?_, oga, ha.form.keep fun b hb => (q b (.inl (ha.oF b hb))).1, fun b hb => (q b (.inl (ha.oF b hb))).2.trans (ha.oF b hb), own_keep ha.seps fun b hb => (q b (.inr (ha.oS b hb))).1, fun b hb => (q b (.inr (ha.oS b hb))).2.trans (ha.oS b hb), ?_, ?_, hsn, fun b hb => ?_⟩
    · rw [blk, hln]
    · rw [hln]; exact kids
    · rw [hln]; exact o1
    · rcases List.mem_append.1 hb with hb | hb
      · exact (q b (.inl (ha.oD b hb))).2.trans (ha.oD b hb)
      · refine (o5 b ?_).2
        rcases List.mem_append.1 hb with hb | hb
        · have := hs.oS b (hSI b hb); omega
        · rcases hSR b hb with hb | hb
          · have := hs.oK b hb; omega
          · have := hs.oD b hb; omega
end Go.Proofs.YtjghijeblddijaaGreatDoor
set_option linter.unusedVariables false
namespace Go.Proofs.YtjghijeblddijaaGreatDoor
open Go.RowKit
section
variable {ev : Operand → Value} {o : Oper} {w : World}
theorem run_nilO (x : Operand) (g : Nat) (h : o.op = .nilCheck x) (hx : ev x = ptr g) : (execOp ev o).run Tryz.prog w = .ok (.value (ptr g)) w := by
  unfold execOp
  rw [h]
  unfold ptr at hx
  simp [go_sem, hx, ptr]
theorem run_fieldO (x : Operand) (g : Nat) (h : o.op = .fieldAddr 88 x 0) (hx : ev x = ptr g) : (execOp ev o).run Tryz.prog w = .ok (.value (ptr g)) w := by
  unfold execOp
  rw [h]
  unfold ptr at hx
  simp [go_sem, hx, ptr]
theorem run_fieldK (x : Operand) (g : Nat) (h : o.op = .fieldAddr 32 x 3) (hx : ev x = ptr g) : (execOp ev o).run Tryz.prog w = .ok (.value (.pointer (some ⟨g, 3, none⟩))) w := by
  unfold execOp
  rw [h]
  unfold ptr at hx
  simp [go_sem, hx]
theorem run_loadK (x : Operand) (g : Nat) (v : Value) (h : o.op = .load 30 x) (hx : ev x = .pointer (some ⟨g, 3, none⟩)) (hc : w.cell? ⟨g, 3, none⟩ = some v) : (execOp ev o).run Tryz.prog w = .ok (.value v) w := by
  unfold execOp
  rw [h]
  simp [go_sem, hx, hc]
theorem run_loadG (x : Operand) (g : Nat) (v0 v1 v2 v3 : Value) (h : o.op = .load 32 x) (hx : ev x = ptr g) (h0 : w.cell? ⟨g, 0, none⟩ = some v0) (h1 : w.cell? ⟨g, 1, none⟩ = some v1) (h2 : w.cell? ⟨g, 2, none⟩ = some v2) (h3 : w.cell? ⟨g, 3, none⟩ = some v3) :
    (execOp ev o).run Tryz.prog w = .ok (.value (.agg #[v0, v1, v2, v3])) w := by
  unfold execOp
  rw [h]
  unfold ptr at hx
  simp [go_sem, hx, h0, h1, h2, h3]
theorem run_lenO (x : Operand) (A : Option Addr) (n c : Nat) (h : o.op = .call { callee := .builtin .len, args := #[x], argTypes := #[30] }) (hx : ev x = .slice A n c) : (execOp ev o).run Tryz.prog w = .ok (.value (.int .i64 n)) w := by
  unfold execOp
  rw [h]
  simp [go_sem, hx]
def zg : List Value := [.int .i64 0, .int .i64 0, .slice none 0 0, .slice none 0 0]
theorem run_buildG (hc : ∀ v, ev (.const v) = v) (h : o.op = .buildSlice 30 1 #[(0, .const (.agg #[.int .i64 0, .int .i64 0, .slice none 0 0, .slice none 0 0]))]) : (execOp ev o).run Tryz.prog w = .ok (.value (.slice (some ⟨w.heap.size, 0, none⟩) 1 1)) (w.alloc (.cells zg.toArray 32)) := by
  unfold execOp
  rw [h]
  simp [go_sem, Sem.run_bind, zg, hc]
theorem run_indexO (x y : Operand) (k n c : Nat) (h : o.op = .indexAddr 30 x y) (hx : ev x = .slice (some ⟨k, 0, none⟩) (n + 1) c) (hy : ev y = .int .i64 n) : (execOp ev o).run Tryz.prog w = .ok (.value (.pointer (some ⟨k, n * 4, none⟩))) w := by
  have hn : ¬ ((n : Int) + 1 ≤ (n : Int)) := by omega
  unfold execOp
  rw [h]
  simp [go_sem, hx, hy, hn]
theorem run_storeG (x y : Operand) (k j : Nat) (a b : Int) (A A' : Option Addr) (n c n' c' : Nat) (u0 u1 u2 u3 : Value) (h : o.op = .store 32 x y) (hx : ev x = .pointer (some ⟨k, j, none⟩)) (hy : ev y = .agg #[.int .i64 a, .int .i64 b, .slice A n c, .slice A' n' c'])
    (h0 : w.cell? ⟨k, j, none⟩ = some u0) (h1 : w.cell? ⟨k, j + 1, none⟩ = some u1) (h2 : w.cell? ⟨k, j + 2, none⟩ = some u2) (h3 : w.cell? ⟨k, j + 3, none⟩ = some u3) (hf : ∀ m, w.frozen? ⟨k, m, none⟩ = false) :
    (execOp ev o).run Tryz.prog w = .ok .skip ((((w.setCell ⟨k, j, none⟩ (.int .i64 a)).setCell ⟨k, j + 1, none⟩ (.int .i64 b)).setCell ⟨k, j + 2, none⟩ (.slice A n c)).setCell ⟨k, j + 3, none⟩ (.slice A' n' c')) := by
  have f0 := hf j
  have f1 := hf (j + 1)
  have f2 := hf (j + 2)
  have f3 := hf (j + 3)
  unfold execOp
  rw [h]
  simp [go_sem, hx, hy, h0, h1, h2, h3, f0, f1, f2, f3]
theorem run_storeK (x y : Operand) (g : Nat) (A : Option Addr) (n c : Nat) (u : Value) (h : o.op = .store 30 x y) (hx : ev x = .pointer (some ⟨g, 3, none⟩)) (hy : ev y = .slice A n c) (hc : w.cell? ⟨g, 3, none⟩ = some u) (hf : w.frozen? ⟨g, 3, none⟩ = false) :
    (execOp ev o).run Tryz.prog w = .ok .skip (w.setCell ⟨g, 3, none⟩ (.slice A n c)) := by
  unfold execOp
  rw [h]
  simp [go_sem, hx, hy, hc, hf]
end
/-- Each operation waits for earlier ones alone, in any order that counts. -/
def orderedB (ops : Array Oper) : Bool := (List.range ops.size).all fun i => match ops[i]? with
  | some o => o.after.all fun e => !Region.binds .any e || decide (e.on < i)
  | none => true
theorem orderedB_lt {ops : Array Oper} (h : orderedB ops = true) {i : Nat} {o : Oper} (ho : ops[i]? = some o) : ∀ e ∈ o.after, Region.binds .any e = true → e.on < i := by
  intro e he hb
  have hi : i < ops.size := (Array.getElem?_eq_some_iff.1 ho).1
  unfold orderedB at h
  have h1 := List.all_eq_true.1 h i (List.mem_range.2 hi)
  rw [ho] at h1
  have h2 := Array.all_eq_true_iff_forall_mem.1 h1 e he
  rw [hb] at h2
  exact of_decide_eq_true h2
theorem ready_nilB {ops : Array Oper} (ho : orderedB ops = true) {listed : Array Bool} (hs : listed.size = ops.size) (h : Region.ready .any ops listed = []) : ∀ i, i < ops.size → listed.getD i false = true := by
  intro i
  induction i using Nat.strongRecOn with
  | ind i ih =>
    intro hi
    cases hb : listed.getD i false with
    | true => rfl
    | false =>
      exfalso
      have hm : i ∈ Region.ready .any ops listed := by
        refine mem_ready.2 ⟨?_, ops[i], Array.getElem?_eq_getElem hi, fun e he hbi => ?_⟩
        · have : i < listed.size := by omega
          simp [this] at hb ⊢
          exact hb
        · have := orderedB_lt ho (Array.getElem?_eq_getElem hi) e he hbi
          exact ih e.on this (by omega)
      rw [h] at hm
      cases hm
/-- What is known of an operation of a region. -/
structure OpIs (ops : Array Oper) (i : Nat) (dst : Option Nat) (op : Op) (deps : List Nat) : Prop where
  ex : ∃ o, ops[i]? = some o ∧ o.dst = dst ∧ o.op = op ∧ o.guard = none ∧ (deps.all fun j => o.after.any fun e => e.on == j && Region.binds .any e) = true
theorem OpIs.take {ops : Array Oper} {i : Nat} {dst : Option Nat} {op : Op} {deps : List Nat} (h : OpIs ops i dst op deps) {o : Oper} (ho : ops[i]? = some o) {B : Nat → Bool} (hd : ∀ e ∈ o.after, Region.binds .any e = true → B e.on = true) : o.dst = dst ∧ o.op = op ∧ o.guard = none ∧ ∀ j ∈ deps, B j = true := by
  obtain ⟨o', h1, h2, h3, h4, h5⟩ := h.ex
  rw [ho] at h1
  injection h1 with h1
  subst h1
  refine ⟨h2, h3, h4, fun j hj => ?_⟩
  have h6 := List.all_eq_true.1 h5 j hj
  obtain ⟨e, he, h7⟩ := Array.any_eq_true'.1 h6
  rw [Bool.and_eq_true, beq_iff_eq] at h7
  rw [← h7.1]; exact hd e he h7.2
structure CloseOps (ops : Array Oper) : Prop where
  size : ops.size = 18
  ord : orderedB ops = true
  o0 : OpIs ops 0 (some 97) (.move (.tmp 12)) []
  o1 : OpIs ops 1 (some 98) (.nilCheck (.tmp 97)) [0]
  o2 : OpIs ops 2 (some 99) (.fieldAddr 88 (.tmp 98) 0) [1]
  o3 : OpIs ops 3 (some 100) (.fieldAddr 32 (.tmp 99) 3) [2]
  o4 : OpIs ops 4 (some 101) (.load 30 (.tmp 100)) [3]
  o5 : OpIs ops 5 (some 102) (.move (.tmp 9)) []
  o6 : OpIs ops 6 (some 103) (.nilCheck (.tmp 102)) [5]
  o7 : OpIs ops 7 (some 104) (.fieldAddr 88 (.tmp 103) 0) [6]
  o8 : OpIs ops 8 (some 105) (.load 32 (.tmp 104)) [7]
  o9 : OpIs ops 9 (some 106) (.call { callee := .builtin .len, args := #[.tmp 101], argTypes := #[30] }) [4]
  o10 : OpIs ops 10 (some 107) (.buildSlice 30 1 #[(0, .const (.agg #[.int .i64 0, .int .i64 0, .slice none 0 0, .slice none 0 0]))]) []
  o11 : OpIs ops 11 (some 108) (.call { callee := .builtin .append, args := #[.tmp 101, .tmp 107], argTypes := #[30, 30] }) [0, 1, 2, 3, 4, 5, 6, 7, 8, 9, 10]
  o12 : OpIs ops 12 (some 109) (.indexAddr 30 (.tmp 108) (.tmp 106)) [9, 11]
  o13 : OpIs ops 13 none (.store 32 (.tmp 109) (.tmp 105)) [8, 11, 12]
  o14 : OpIs ops 14 (some 110) (.nilCheck (.tmp 97)) [0, 11]
  o15 : OpIs ops 15 (some 111) (.fieldAddr 88 (.tmp 110) 0) [14]
  o16 : OpIs ops 16 (some 112) (.fieldAddr 32 (.tmp 111) 3) [15]
  o17 : OpIs ops 17 none (.store 30 (.tmp 112) (.tmp 108)) [11, 16]
/-- The numbers of a close. -/
structure CP where
  ga : Nat
  g : Nat
  n : Nat
  kA : Option Addr
  kc : Nat
  a : Int
  i : Int
  A : Option Addr
  sn : Nat
  sc : Nat
  tA : Option Addr
  tn : Nat
  tc : Nat
  X : Nat
def CP.grp (p : CP) : List Value := [.int .i64 p.a, .int .i64 p.i, .slice p.A p.sn p.sc, .slice p.tA p.tn p.tc]
def CP.val (p : CP) (kg c : Nat) : Nat → Value
  | 97 => ptr p.ga | 98 => ptr p.ga | 99 => ptr p.ga | 100 => .pointer (some ⟨p.ga, 3, none⟩) | 101 => .slice p.kA p.n p.kc
  | 102 => ptr p.g | 103 => ptr p.g | 104 => ptr p.g | 105 => .agg p.grp.toArray | 106 => .int .i64 p.n | 107 => .slice (some ⟨p.X, 0, none⟩) 1 1
  | 108 => .slice (some ⟨kg, 0, none⟩) (p.n + 1) c | 109 => .pointer (some ⟨kg, p.n * 4, none⟩) | 110 => ptr p.ga | 111 => ptr p.ga | 112 => .pointer (some ⟨p.ga, 3, none⟩) | _ => undef
def ixo (j : Nat) : Option Nat := if 97 ≤ j ∧ j ≤ 109 then some (j - 97) else if 110 ≤ j ∧ j ≤ 112 then some (j - 96) else none
def CP.G (p : CP) (T : Nat → Value) (B : Nat → Bool) (kg c j : Nat) : Value :=
  match ixo j with
  | some i => if B i = true then p.val kg c j else T j
  | none => T j
theorem ixo_inj {j s i : Nat} (hj : ixo j = some i) (hs : ixo s = some i) : j = s := by
  unfold ixo at hj hs
  repeat' split at hj
  all_goals (repeat' split at hs)
  all_goals simp_all
  all_goals omega
theorem CP.G_put {p : CP} {T : Nat → Value} {B : Nat → Bool} {kg c s i : Nat} {a : Act} (h : ∀ j, a.tmps.getD j undef = p.G T B kg c j) (hs : ixo s = some i) (hsz : s < a.tmps.size) (v : Value) (hv : v = p.val kg c s) : ∀ j, (a.put (some s) v).tmps.getD j undef = p.G T (upd B i) kg c j := by
  intro j
  subst hv
  by_cases e : j = s
  · subst e
    have : (a.put (some j) (p.val kg c j)).tmps.getD j undef = p.val kg c j := by simp [Act.put, hsz]
    rw [this]
    unfold CP.G
    rw [hs]
    simp [upd]
  · have : (a.put (some s) (p.val kg c s)).tmps.getD j undef = a.tmps.getD j undef := by
      have e' : s ≠ j := fun h => e h.symm
      simp [Act.put, e']
    rw [this, h j]
    unfold CP.G
    cases hj : ixo j with
    | none => rfl
    | some k =>
      have hk : k ≠ i := fun h' => e (ixo_inj (by rw [← h']; exact hj) hs)
      simp [upd, hk]
theorem CP.G_ghost {p : CP} {T : Nat → Value} {B : Nat → Bool} {kg c : Nat} (kg' c' : Nat) (h11 : B 11 = false) (h12 : B 12 = false) (j : Nat) : p.G T B kg c j = p.G T B kg' c' j := by
  unfold CP.G
  cases hj : ixo j with
  | none => rfl
  | some i =>
    dsimp only
    by_cases hB : B i = true
    · rw [if_pos hB, if_pos hB]
      have h1 : j ≠ 108 := by intro e; subst e; rw [show ixo 108 = some 11 from rfl] at hj; injection hj with hj; rw [← hj, h11] at hB; cases hB
      have h2 : j ≠ 109 := by intro e; subst e; rw [show ixo 109 = some 12 from rfl] at hj; injection hj with hj; rw [← hj, h12] at hB; cases hB
      unfold CP.val
      split <;> first | rfl | contradiction
    · rw [if_neg hB, if_neg hB]
/-- What holds of memory inside the region. -/
structure CW (p : CP) (base : Nat) (W : World) (z : Nat → Value) (vals : List Value) (B : Nat → Bool) (w : World) (kg c : Nat) : Prop where
  e0 : B 11 = false → w = if B 10 = true then W.alloc (.cells zg.toArray 32) else W
  d12 : B 12 = true → B 11 = true
  d13 : B 13 = true → B 11 = true
  d17 : B 17 = true → B 11 = true
  all : B 11 = true → ∀ j, j ≤ 10 → B j = true
  blk : B 11 = true → w.heap[p.ga]? = some (.cells #[z 0, z 1, z 2, if B 17 = true then .slice (some ⟨kg, 0, none⟩) (p.n + 1) c else .slice p.kA p.n p.kc, z 4, z 5, z 6, z 7] 88 (0, 0))
  row : B 11 = true → w.ownsRow base 32 4 (.slice (some ⟨kg, 0, none⟩) (p.n + 1) c) (p.n + 1) (vals ++ if B 13 = true then p.grp else zg)
  bel : B 11 = true → Below base W w
  same : B 11 = true → ∀ b, b < W.heap.size → b ≠ p.ga → (Value.slice p.kA p.n p.kc).ownBlock ≠ some b → w.heap[b]? = W.heap[b]?
  hat : B 11 = true → (Value.slice p.kA p.n p.kc).ownBlock = some kg ∨ W.heap.size ≤ kg
def CJ (p : CP) (base : Nat) (W : World) (z : Nat → Value) (vals : List Value) (T : Nat → Value) (listed : Array Bool) (a : Act) (w : World) : Prop :=
  listed.size = 18 ∧ a.tmps.size = 138 ∧ a.defers = [] ∧ ∃ kg c, (∀ j, a.tmps.getD j undef = p.G T (fun j => listed.getD j false) kg c j) ∧ CW p base W z vals (fun j => listed.getD j false) w kg c
theorem CW.free {p : CP} {base : Nat} {W w : World} {z : Nat → Value} {vals : List Value} {B : Nat → Bool} {kg c : Nat} (h : CW p base W z vals B w kg c) (i : Nat) (h10 : i ≠ 10) (h11 : i ≠ 11) (h13 : i ≠ 13) (h17 : i ≠ 17) (h12 : i = 12 → B 11 = true) : CW p base W z vals (upd B i) w kg c := by
  have u : ∀ j, j ≠ i → upd B i j = B j := fun j hj => if_neg hj
  have u10 := u 10 (Ne.symm h10)
  have u11 := u 11 (Ne.symm h11)
  have u13 := u 13 (Ne.symm h13)
  have u17 := u 17 (Ne.symm h17)
  refine ⟨by rw [u11, u10]; exact h.e0, ?_, by rw [u11, u13]; exact h.d13, by rw [u11, u17]; exact h.d17, ?_, by rw [u11, u17]; exact h.blk, by rw [u11, u13]; exact h.row, by rw [u11]; exact h.bel, by rw [u11]; exact h.same, by rw [u11]; exact h.hat⟩
  · rw [u11]
    by_cases e : i = 12
    · exact fun _ => h12 e
    · rw [u 12 (fun e' => e e'.symm)]; exact h.d12
  · rw [u11]
    intro hb j hj
    by_cases e : j = i
    · subst e; exact if_pos rfl
    · rw [u j e]; exact h.all hb j hj
theorem CP.G_none {p : CP} {T : Nat → Value} {B : Nat → Bool} {kg c i : Nat} (hi : i = 13 ∨ i = 17) (j : Nat) : p.G T (upd B i) kg c j = p.G T B kg c j := by
  unfold CP.G
  cases hj : ixo j with
  | none => rfl
  | some k =>
    have hk : k ≠ i := by
      unfold ixo at hj
      repeat' split at hj
      all_goals simp_all
      all_goals omega
    simp [upd, hk]
theorem info_group : (Tryz.prog.info? 32).map (fun i => (i.zero, i.size, i.bytes)) = some (some (.agg #[.int .i64 0, .int .i64 0, .slice none 0 0, .slice none 0 0]), 4, 64) := by kernel_rfl
theorem run_appendG {ev : Operand → Value} {o : Oper} {w : World} (x y : Operand) (base : Nat) (kA : Option Addr) (n kc X : Nat) (vals : List Value) (h : o.op = .call { callee := .builtin .append, args := #[x, y], argTypes := #[30, 30] })
    (hx : ev x = .slice kA n kc) (hy : ev y = .slice (some ⟨X, 0, none⟩) 1 1) (hown : w.ownsRow base 32 4 (.slice kA n kc) n vals) (hX : w.heap[X]? = some (.cells zg.toArray 32 (0, 0))) (hb : base ≤ w.heap.size) (hn : n ≤ 1000000) :
    ∃ kg c w', (execOp ev o).run Tryz.prog w = .ok (.value (.slice (some ⟨kg, 0, none⟩) (n + 1) c)) w' ∧ w'.ownsRow base 32 4 (.slice (some ⟨kg, 0, none⟩) (n + 1) c) (n + 1) (vals ++ zg) ∧ w.grownBy w' (Value.slice kA n kc).ownBlock ∧ ((Value.slice kA n kc).ownBlock = some kg ∨ kg = w.heap.size) := by
  obtain ⟨i0, hi, hzz⟩ := Option.map_eq_some_iff.1 info_group
  simp only [Prod.mk.injEq] at hzz
  obtain ⟨hz0, hz1, hz2⟩ := hzz
  obtain ⟨kg, c, w', hr, h2, h3, h4, _⟩ := run_append_lies (P := Tryz.prog) w 30 o.type base 32 i0 _ 4 64 Tryz.underlying30 hi hz0 hz1 hz2 rfl (by decide) (.slice kA n kc) n vals hown ⟨X, 0, none⟩ 1 1 zg rfl
    (World.news_of_block (cs := zg.toArray) (t := 32) (fr := (0, 0)) hX) (by simp [zg, Value.oneCell']) (by decide) (by simp only [maxLen]; omega) (by omega) hb w.heap.size rfl
  refine ⟨kg, c, w', ?_, h2, h3, h4⟩
  unfold execOp
  simp only [h, resolve, invoke, builtin, Sem.run_bind, Sem.run_pure, Result.andThen_ok, List.map_toArray, List.map_cons, List.map_nil, hx, hy, hr]
theorem set_tail (xs : List Value) (n : Nat) (hl : xs.length = n * 4) (a b c d a' b' c' d' : Value) : ((((xs ++ [a', b', c', d']).set (n * 4) a).set (n * 4 + 1) b).set (n * 4 + 2) c).set (n * 4 + 3) d = xs ++ [a, b, c, d] := by
  rw [← hl]
  simp [List.set_append]
theorem close_step {p : CP} {base : Nat} {W : World} {z : Nat → Value} {vals : List Value} {T : Nat → Value} {listed : Array Bool} {a' : Act} {w : World} {i : Nat} (hsz : listed.size = 18) (hi : i < 18) {B : Nat → Bool} (hB : (fun j => listed.getD j false) = B) (hts : a'.tmps.size = 138) (htd : a'.defers = [])
    (h : ∃ kg c, (∀ j, a'.tmps.getD j undef = p.G T (upd B i) kg c j) ∧ CW p base W z vals (upd B i) w kg c) : CJ p base W z vals T (listed.setIfInBounds i true) a' w := by
  refine ⟨by simp [hsz], hts, htd, ?_⟩
  rw [upd_getD listed i (by omega), hB]
  exact h
end Go.Proofs.YtjghijeblddijaaGreatDoor
set_option linter.unusedVariables false
namespace Go.Proofs.YtjghijeblddijaaGreatDoor
open Go.RowKit
def finT (p : CP) (kg c : Nat) (T : Array Value) : Array Value := [97, 98, 99, 100, 101, 102, 103, 104, 105, 106, 107, 108, 109, 110, 111, 112].foldl (fun t j => t.setIfInBounds j (p.val kg c j)) T
theorem fold_size (f : Nat → Value) : ∀ (l : List Nat) (T : Array Value), (l.foldl (fun t j => t.setIfInBounds j (f j)) T).size = T.size := by
  intro l
  induction l with
  | nil => intro T; rfl
  | cons x t ih => intro T; rw [List.foldl_cons, ih]; simp
theorem fold_get (f : Nat → Value) : ∀ (l : List Nat) (T : Array Value) (j : Nat), (∀ x ∈ l, x < T.size) → (l.foldl (fun t j => t.setIfInBounds j (f j)) T).getD j undef = if j ∈ l then f j else T.getD j undef := by
  intro l
  induction l with
  | nil => intro T j _; simp
  | cons x t ih =>
    intro T j hl
    rw [List.foldl_cons, ih _ _ (fun y hy => by simp only [Array.size_setIfInBounds]; exact hl y (List.mem_cons_of_mem _ hy))]
    by_cases h : j ∈ t
    · rw [if_pos h, if_pos (List.mem_cons_of_mem _ h)]
    · rw [if_neg h]
      by_cases e : j = x
      · subst e
        rw [if_pos (List.mem_cons_self ..)]
        simp [hl j (List.mem_cons_self ..)]
      · rw [if_neg (by simp [e, h])]
        have e' : x ≠ j := fun h => e h.symm
        simp [e']
theorem getD_get (T : Array Value) (j : Nat) (h : j < T.size) : T.getD j undef = T[j] := by simp [h]
theorem fin_eq {p : CP} {kg c : Nat} {T0 : Array Value} {a : Act} {B : Nat → Bool} (hT : T0.size = 138) (hs : a.tmps.size = 138) (hb : ∀ i, i < 18 → B i = true) (h : ∀ j, a.tmps.getD j undef = p.G (fun j => T0.getD j undef) B kg c j) : a.tmps = finT p kg c T0 := by
  have hfs : (finT p kg c T0).size = 138 := by unfold finT; rw [fold_size]; exact hT
  apply Array.ext (by rw [hs, hfs])
  intro j h1 h2
  have e1 := getD_get a.tmps j h1
  have e2 := getD_get (finT p kg c T0) j h2
  have m : j ∈ [97, 98, 99, 100, 101, 102, 103, 104, 105, 106, 107, 108, 109, 110, 111, 112] ↔ 97 ≤ j ∧ j ≤ 112 := by
    simp only [List.mem_cons, List.not_mem_nil, or_false]; omega
  have e3 : (finT p kg c T0).getD j undef = if j ∈ [97, 98, 99, 100, 101, 102, 103, 104, 105, 106, 107, 108, 109, 110, 111, 112] then p.val kg c j else T0.getD j undef := by
    unfold finT
    exact fold_get _ _ _ _ (fun x hx => by rw [hT]; simp only [List.mem_cons, List.not_mem_nil, or_false] at hx; omega)
  rw [← e1, ← e2, h j, e3]
  unfold CP.G
  by_cases hj : 97 ≤ j ∧ j ≤ 112
  · rw [if_pos (m.2 hj)]
    by_cases h109 : j ≤ 109
    · have i1 : ixo j = some (j - 97) := if_pos ⟨hj.1, h109⟩
      rw [i1]
      exact if_pos (hb _ (by omega))
    · have i1 : ixo j = some (j - 96) := by
        unfold ixo
        rw [if_neg (by omega), if_pos (by omega)]
      rw [i1]
      exact if_pos (hb _ (by omega))
  · have i1 : ixo j = none := by
      unfold ixo
      rw [if_neg (by omega), if_neg (by omega)]
    rw [if_neg (fun h => hj (m.1 h)), i1]
set_option maxHeartbeats 4000000 in
theorem close_region {Q : Exit → Act → World → Prop} {ops : Array Oper} (H : CloseOps ops) (p : CP) (base : Nat) (W : World) (z : Nat → Value) (vals : List Value) (T0 : Array Value) (hT : T0.size = 138) (t12 : T0.getD 12 undef = ptr p.ga) (t9 : T0.getD 9 undef = ptr p.g)
    (Kga : W.heap[p.ga]? = some (.cells #[z 0, z 1, z 2, .slice p.kA p.n p.kc, z 4, z 5, z 6, z 7] 88 (0, 0))) (y4 y5 y6 y7 : Value) (Kg : W.heap[p.g]? = some (.cells #[.int .i64 p.a, .int .i64 p.i, .slice p.A p.sn p.sc, .slice p.tA p.tn p.tc, y4, y5, y6, y7] 88 (0, 0)))
    (hk : W.ownsRow base 32 4 (.slice p.kA p.n p.kc) p.n vals) (hX : p.X = W.heap.size) (hn : p.n ≤ 1000000) (hbase : base ≤ p.ga)
    (hQ : ∀ (kg c : Nat) (w : World), w.heap[p.ga]? = some (.cells #[z 0, z 1, z 2, .slice (some ⟨kg, 0, none⟩) (p.n + 1) c, z 4, z 5, z 6, z 7] 88 (0, 0)) → w.ownsRow base 32 4 (.slice (some ⟨kg, 0, none⟩) (p.n + 1) c) (p.n + 1) (vals ++ p.grp) → Below base W w →
      (∀ b, b < W.heap.size → b ≠ p.ga → (Value.slice p.kA p.n p.kc).ownBlock ≠ some b → w.heap[b]? = W.heap[b]?) → ((Value.slice p.kA p.n p.kc).ownBlock = some kg ∨ W.heap.size ≤ kg) → Q .normal { tmps := finT p kg c T0, defers := [] } w) :
    wpAny Tryz.prog .any ops Q ops.size (Array.replicate ops.size false) { tmps := T0, defers := [] } W := by
  have hgal := lt_of_blk Kga
  have hgl := lt_of_blk Kg
  have hbW : base ≤ W.heap.size := by omega
  have hkne : (Value.slice p.kA p.n p.kc).ownBlock ≠ some p.ga := by
    intro e
    rcases hk.2 with ⟨h1, _⟩ | ⟨g', cap, cur, h1, _, hg, _⟩
    · rw [h1] at e; cases e
    · rw [h1] at e
      have : g' = p.ga := Option.some.inj e
      subst this
      exact cells_ne Kga hg (by decide) rfl
  have hvl : vals.length = p.n * 4 := hk.1
  refine wpAny_inv (CJ p base W z vals (fun j => T0.getD j undef)) ?_ ?_ _ _ _ _ ?_ ?_
  · intro listed a w1 i ⟨hsz, hts, htd, kg, c, hG, hw⟩ hi
    obtain ⟨h0, o, ho, hd⟩ := mem_ready.1 hi
    have hlt : i < 18 := by have := (Array.getElem?_eq_some_iff.1 ho).1; rw [H.size] at this; exact this
    have hBi : listed.getD i false = false := by
      have : i < listed.size := by omega
      simp [this] at h0 ⊢
      exact h0
    generalize hB : (fun j => listed.getD j false) = B at hG hw
    replace hBi : B i = false := by rw [← hB]; exact hBi
    replace hd : ∀ e ∈ o.after, Region.binds .any e = true → B e.on = true := by rw [← hB]; exact hd
    have ev : ∀ s, a.eval (.tmp s) = p.G (fun j => T0.getD j undef) B kg c s := fun s => hG s
    have ev1 : ∀ s i, ixo s = some i → B i = true → a.eval (.tmp s) = p.val kg c s := fun s i h1 h2 => by
      rw [ev]; unfold CP.G; rw [h1]; dsimp only; rw [if_pos h2]
    have ev0 : ∀ s, ixo s = none → a.eval (.tmp s) = T0.getD s undef := fun s h1 => by
      rw [ev]; unfold CP.G; rw [h1]
    have early : i ≤ 10 → B 11 = false := fun h => by
      cases h11 : B 11 with
      | false => rfl
      | true => rw [hw.all h11 i h] at hBi; cases hBi
    have blk0 : ∀ b, b < W.heap.size → B 11 = false → w1.heap[b]? = W.heap[b]? := fun b hb h11 => by
      rw [hw.e0 h11]
      split
      · exact heap_alloc_old _ _ hb
      · rfl
    have hput : ∀ (s : Nat) (v : Value), (a.put (some s) v).tmps.size = 138 := fun s v => by simp [Act.put, hts]
    have hputd : ∀ (s : Nat) (v : Value), (a.put (some s) v).defers = [] := fun s v => htd
    have hcases : i = 0 ∨ i = 1 ∨ i = 2 ∨ i = 3 ∨ i = 4 ∨ i = 5 ∨ i = 6 ∨ i = 7 ∨ i = 8 ∨ i = 9 ∨ i = 10 ∨ i = 11 ∨ i = 12 ∨ i = 13 ∨ i = 14 ∨ i = 15 ∨ i = 16 ∨ i = 17 := by omega
    clear hi h0 hlt
    rcases hcases with rfl | rfl | rfl | rfl | rfl | rfl | rfl | rfl | rfl | rfl | rfl | rfl | rfl | rfl | rfl | rfl | rfl | rfl
    · obtain ⟨p1, p2, p3, p4⟩ := H.o0.take ho hd
      refine wpOp_run ho p3 (run_moveO _ p2) ?_
      rw [p1, ev0 12 rfl, t12]
      exact close_step hsz (by decide) hB (hput _ _) (hputd _ _) ⟨kg, c, CP.G_put hG (i := 0) rfl (by rw [hts]; decide) _ rfl, hw.free 0 (by decide) (by decide) (by decide) (by decide) (fun e => absurd e (by decide))⟩
    · obtain ⟨p1, p2, p3, p4⟩ := H.o1.take ho hd
      refine wpOp_run ho p3 (run_nilO _ p.ga p2 (ev1 97 0 rfl (p4 0 (by decide)))) ?_
      rw [p1]
      exact close_step hsz (by decide) hB (hput _ _) (hputd _ _) ⟨kg, c, CP.G_put hG (i := 1) rfl (by rw [hts]; decide) _ rfl, hw.free 1 (by decide) (by decide) (by decide) (by decide) (fun e => absurd e (by decide))⟩
    · obtain ⟨p1, p2, p3, p4⟩ := H.o2.take ho hd
      refine wpOp_run ho p3 (run_fieldO _ p.ga p2 (ev1 98 1 rfl (p4 1 (by decide)))) ?_
      rw [p1]
      exact close_step hsz (by decide) hB (hput _ _) (hputd _ _) ⟨kg, c, CP.G_put hG (i := 2) rfl (by rw [hts]; decide) _ rfl, hw.free 2 (by decide) (by decide) (by decide) (by decide) (fun e => absurd e (by decide))⟩
    · obtain ⟨p1, p2, p3, p4⟩ := H.o3.take ho hd
      refine wpOp_run ho p3 (run_fieldK _ p.ga p2 (ev1 99 2 rfl (p4 2 (by decide)))) ?_
      rw [p1]
      exact close_step hsz (by decide) hB (hput _ _) (hputd _ _) ⟨kg, c, CP.G_put hG (i := 3) rfl (by rw [hts]; decide) _ rfl, hw.free 3 (by decide) (by decide) (by decide) (by decide) (fun e => absurd e (by decide))⟩
    · obtain ⟨p1, p2, p3, p4⟩ := H.o4.take ho hd
      have K := (blk0 p.ga hgal (early (by decide))).trans Kga
      have c3 : w1.cell? ⟨p.ga, 3, none⟩ = some (.slice p.kA p.n p.kc) := (cell_of_blk K 3).trans rfl
      refine wpOp_run ho p3 (run_loadK _ p.ga (.slice p.kA p.n p.kc) p2 (ev1 100 3 rfl (p4 3 (by decide))) c3) ?_
      rw [p1]
      exact close_step hsz (by decide) hB (hput _ _) (hputd _ _) ⟨kg, c, CP.G_put hG (i := 4) rfl (by rw [hts]; decide) _ rfl, hw.free 4 (by decide) (by decide) (by decide) (by decide) (fun e => absurd e (by decide))⟩
    · obtain ⟨p1, p2, p3, p4⟩ := H.o5.take ho hd
      refine wpOp_run ho p3 (run_moveO _ p2) ?_
      rw [p1, ev0 9 rfl, t9]
      exact close_step hsz (by decide) hB (hput _ _) (hputd _ _) ⟨kg, c, CP.G_put hG (i := 5) rfl (by rw [hts]; decide) _ rfl, hw.free 5 (by decide) (by decide) (by decide) (by decide) (fun e => absurd e (by decide))⟩
    · obtain ⟨p1, p2, p3, p4⟩ := H.o6.take ho hd
      refine wpOp_run ho p3 (run_nilO _ p.g p2 (ev1 102 5 rfl (p4 5 (by decide)))) ?_
      rw [p1]
      exact close_step hsz (by decide) hB (hput _ _) (hputd _ _) ⟨kg, c, CP.G_put hG (i := 6) rfl (by rw [hts]; decide) _ rfl, hw.free 6 (by decide) (by decide) (by decide) (by decide) (fun e => absurd e (by decide))⟩
    · obtain ⟨p1, p2, p3, p4⟩ := H.o7.take ho hd
      refine wpOp_run ho p3 (run_fieldO _ p.g p2 (ev1 103 6 rfl (p4 6 (by decide)))) ?_
      rw [p1]
      exact close_step hsz (by decide) hB (hput _ _) (hputd _ _) ⟨kg, c, CP.G_put hG (i := 7) rfl (by rw [hts]; decide) _ rfl, hw.free 7 (by decide) (by decide) (by decide) (by decide) (fun e => absurd e (by decide))⟩
    · obtain ⟨p1, p2, p3, p4⟩ := H.o8.take ho hd
      have K := (blk0 p.g hgl (early (by decide))).trans Kg
      refine wpOp_run ho p3 (run_loadG _ p.g (.int .i64 p.a) (.int .i64 p.i) (.slice p.A p.sn p.sc) (.slice p.tA p.tn p.tc) p2 (ev1 104 7 rfl (p4 7 (by decide))) ((cell_of_blk K 0).trans rfl) ((cell_of_blk K 1).trans rfl) ((cell_of_blk K 2).trans rfl) ((cell_of_blk K 3).trans rfl)) ?_
      rw [p1]
      exact close_step hsz (by decide) hB (hput _ _) (hputd _ _) ⟨kg, c, CP.G_put hG (i := 8) rfl (by rw [hts]; decide) _ rfl, hw.free 8 (by decide) (by decide) (by decide) (by decide) (fun e => absurd e (by decide))⟩
    · obtain ⟨p1, p2, p3, p4⟩ := H.o9.take ho hd
      refine wpOp_run ho p3 (run_lenO _ p.kA p.n p.kc p2 (ev1 101 4 rfl (p4 4 (by decide)))) ?_
      rw [p1]
      exact close_step hsz (by decide) hB (hput _ _) (hputd _ _) ⟨kg, c, CP.G_put hG (i := 9) rfl (by rw [hts]; decide) _ rfl, hw.free 9 (by decide) (by decide) (by decide) (by decide) (fun e => absurd e (by decide))⟩
    · obtain ⟨p1, p2, p3, p4⟩ := H.o10.take ho hd
      have b11 := early (by decide)
      have eW : w1 = W := by rw [hw.e0 b11, hBi]; rfl
      subst eW
      refine wpOp_run ho p3 (run_buildG (fun v => rfl) p2) ?_
      rw [p1]
      refine close_step hsz (by decide) hB (hput _ _) (hputd _ _) ⟨kg, c, CP.G_put hG (i := 10) rfl (by rw [hts]; decide) _ (by rw [← hX]; rfl), ?_⟩
      have no : ∀ {q : Prop}, upd B 10 11 = true → q := fun h => ff (b11.symm.trans h)
      exact ⟨fun _ => rfl, fun h => ff (b11.symm.trans (hw.d12 h)), fun h => ff (b11.symm.trans (hw.d13 h)), fun h => ff (b11.symm.trans (hw.d17 h)), fun h => no h, fun h => no h, fun h => no h, fun h => no h, fun h => no h, fun h => no h⟩
    · obtain ⟨p1, p2, p3, p4⟩ := H.o11.take ho hd
      have b10 := p4 10 (by decide)
      have eW : w1 = W.alloc (.cells zg.toArray 32) := by rw [hw.e0 hBi, b10]; rfl
      subst eW
      have b12 : B 12 = false := not_of hw.d12 hBi
      have b13 : B 13 = false := not_of hw.d13 hBi
      have b17 : B 17 = false := not_of hw.d17 hBi
      obtain ⟨kg', c', w2, hr, h1, h2, h3⟩ := run_appendG (o := o) (ev := a.eval) _ _ base p.kA p.n p.kc p.X vals p2 (ev1 101 4 rfl (p4 4 (by decide))) (ev1 107 10 rfl b10) (hk.alloc _) (by rw [hX]; exact heap_alloc_new W _) (by simp; omega) hn
      have h2' := World.grownBy.trans (World.grownBy_alloc W (.cells zg.toArray 32) _) h2
      refine wpOp_run ho p3 hr ?_
      rw [p1]
      refine close_step hsz (by decide) hB (hput _ _) (hputd _ _) ⟨kg', c', CP.G_put (fun j => (hG j).trans (CP.G_ghost kg' c' hBi b12 j)) (i := 11) rfl (by rw [hts]; decide) _ rfl, ?_⟩
      refine ⟨fun h => ff h.symm, fun _ => rfl, fun _ => rfl, fun _ => rfl, fun _ j hj => ?_, fun _ => ?_, fun _ => ?_, fun _ => grown_below h2' (fun k hk' => (hk.lt k hk').1) hbW, fun _ b hb hbne hbk => h2'.block b hb (fun e => hbk e.symm), fun _ => ?_⟩
      · have : upd B 11 j = B j := if_neg (by omega)
        rw [this]
        exact p4 j (by simp only [List.mem_cons, List.not_mem_nil, or_false]; omega)
      · rw [show upd B 11 17 = B 17 from rfl, b17, if_neg (by decide)]
        exact (h2'.block p.ga hgal (fun e => hkne e.symm)).trans Kga
      · rw [show upd B 11 13 = B 13 from rfl, b13, if_neg (by decide)]
        exact h1
      · rcases h3 with h3 | h3
        · exact .inl h3
        · right; rw [h3]; simp
    · obtain ⟨p1, p2, p3, p4⟩ := H.o12.take ho hd
      have b11 := p4 11 (by decide)
      refine wpOp_run ho p3 (run_indexO _ _ kg p.n c p2 (ev1 108 11 rfl b11) (ev1 106 9 rfl (p4 9 (by decide)))) ?_
      rw [p1]
      exact close_step hsz (by decide) hB (hput _ _) (hputd _ _) ⟨kg, c, CP.G_put hG (i := 12) rfl (by rw [hts]; decide) _ rfl, hw.free 12 (by decide) (by decide) (by decide) (by decide) (fun _ => b11)⟩
    · obtain ⟨p1, p2, p3, p4⟩ := H.o13.take ho hd
      have b11 := p4 11 (by decide)
      have hrow := hw.row b11
      rw [hBi, if_neg (by decide)] at hrow
      have cz : ∀ m x, m < 4 → zg[m]? = some x → w1.cell? ⟨kg, p.n * 4 + m, none⟩ = some x := fun m x hm hx => by
        rw [hrow.cellAt (p.n * 4 + m) (by omega), List.getElem?_append_right (by omega), hvl]
        rw [show p.n * 4 + m - p.n * 4 = m from by omega]; exact hx
      have hkg : kg ≠ p.ga := by
        rcases hw.hat b11 with h | h
        · exact fun e => hkne (by rw [h, e])
        · omega
      have hbk : base ≤ kg := (World.ownsRow.lt hrow kg rfl).1
      refine wpOp_skip ho p3 (run_storeG _ _ kg (p.n * 4) p.a p.i p.A p.tA p.sn p.sc p.tn p.tc _ _ _ _ p2 (ev1 109 12 rfl (p4 12 (by decide))) (ev1 105 8 rfl (p4 8 (by decide))) (cz 0 _ (by decide) rfl) (cz 1 _ (by decide) rfl) (cz 2 _ (by decide) rfl) (cz 3 _ (by decide) rfl) (fun m => hrow.frozenAt m)) ?_
      rw [p1]
      have keepb : ∀ b, b ≠ kg → ((((w1.setCell ⟨kg, p.n * 4, none⟩ (.int .i64 p.a)).setCell ⟨kg, p.n * 4 + 1, none⟩ (.int .i64 p.i)).setCell ⟨kg, p.n * 4 + 2, none⟩ (.slice p.A p.sn p.sc)).setCell ⟨kg, p.n * 4 + 3, none⟩ (.slice p.tA p.tn p.tc)).heap[b]? = w1.heap[b]? := fun b hb => by
        rw [Below.heap_setCell _ _ _ _ hb, Below.heap_setCell _ _ _ _ hb, Below.heap_setCell _ _ _ _ hb, Below.heap_setCell _ _ _ _ hb]
      refine close_step hsz (by decide) hB hts htd ⟨kg, c, fun j => (hG j).trans (CP.G_none (.inl rfl) j).symm, ?_⟩
      refine ⟨fun h => ff (h.symm.trans b11), hw.d12, fun _ => b11, hw.d17, fun _ j hj => ?_, fun _ => ?_, fun _ => ?_, fun _ => ((((hw.bel b11).setCell hbk _).setCell hbk _).setCell hbk _).setCell hbk _, fun _ b hb hbne hbk' => ?_, fun _ => hw.hat b11⟩
      · have : upd B 13 j = B j := if_neg (by omega)
        rw [this]; exact hw.all b11 j hj
      · rw [keepb p.ga (Ne.symm hkg)]; exact hw.blk b11
      · rw [show upd B 13 13 = true from rfl, if_pos rfl]
        have s0 := (hrow.stored (p.n * 4) (.int .i64 p.a)).1
        have s1 := (s0.stored (p.n * 4 + 1) (.int .i64 p.i)).1
        have s2 := (s1.stored (p.n * 4 + 2) (.slice p.A p.sn p.sc)).1
        have s3 := (s2.stored (p.n * 4 + 3) (.slice p.tA p.tn p.tc)).1
        rw [show vals ++ p.grp = ((((vals ++ zg).set (p.n * 4) (.int .i64 p.a)).set (p.n * 4 + 1) (.int .i64 p.i)).set (p.n * 4 + 2) (.slice p.A p.sn p.sc)).set (p.n * 4 + 3) (.slice p.tA p.tn p.tc) from (set_tail vals p.n hvl _ _ _ _ _ _ _ _).symm]
        exact s3
      · have hbk2 : b ≠ kg := by
          rcases hw.hat b11 with h | h
          · exact fun e => hbk' (by rw [h, e])
          · omega
        rw [keepb b hbk2]; exact hw.same b11 b hb hbne hbk'
    · obtain ⟨p1, p2, p3, p4⟩ := H.o14.take ho hd
      refine wpOp_run ho p3 (run_nilO _ p.ga p2 (ev1 97 0 rfl (p4 0 (by decide)))) ?_
      rw [p1]
      exact close_step hsz (by decide) hB (hput _ _) (hputd _ _) ⟨kg, c, CP.G_put hG (i := 14) rfl (by rw [hts]; decide) _ rfl, hw.free 14 (by decide) (by decide) (by decide) (by decide) (fun e => absurd e (by decide))⟩
    · obtain ⟨p1, p2, p3, p4⟩ := H.o15.take ho hd
      refine wpOp_run ho p3 (run_fieldO _ p.ga p2 (ev1 110 14 rfl (p4 14 (by decide)))) ?_
      rw [p1]
      exact close_step hsz (by decide) hB (hput _ _) (hputd _ _) ⟨kg, c, CP.G_put hG (i := 15) rfl (by rw [hts]; decide) _ rfl, hw.free 15 (by decide) (by decide) (by decide) (by decide) (fun e => absurd e (by decide))⟩
    · obtain ⟨p1, p2, p3, p4⟩ := H.o16.take ho hd
      refine wpOp_run ho p3 (run_fieldK _ p.ga p2 (ev1 111 15 rfl (p4 15 (by decide)))) ?_
      rw [p1]
      exact close_step hsz (by decide) hB (hput _ _) (hputd _ _) ⟨kg, c, CP.G_put hG (i := 16) rfl (by rw [hts]; decide) _ rfl, hw.free 16 (by decide) (by decide) (by decide) (by decide) (fun e => absurd e (by decide))⟩
    · obtain ⟨p1, p2, p3, p4⟩ := H.o17.take ho hd
      have b11 := p4 11 (by decide)
      have K := hw.blk b11
      rw [hBi, if_neg (by decide)] at K
      have hrow := hw.row b11
      have hkg : (Value.slice (some ⟨kg, 0, none⟩) (p.n + 1) c).ownBlock ≠ some p.ga := by
        intro e
        have e' : kg = p.ga := Option.some.inj e
        rcases hw.hat b11 with h | h
        · exact hkne (by rw [h, e'])
        · omega
      refine wpOp_skip ho p3 (run_storeK _ _ p.ga (some ⟨kg, 0, none⟩) (p.n + 1) c _ p2 (ev1 112 16 rfl (p4 16 (by decide))) (ev1 108 11 rfl b11) ((cell_of_blk K 3).trans rfl) (free_of_blk K 3)) ?_
      rw [p1]
      refine close_step hsz (by decide) hB hts htd ⟨kg, c, fun j => (hG j).trans (CP.G_none (.inr rfl) j).symm, ?_⟩
      refine ⟨fun h => ff (h.symm.trans b11), hw.d12, hw.d13, fun _ => b11, fun _ j hj => ?_, fun _ => ?_, fun _ => own_setCell hrow _ hkg _, fun _ => (hw.bel b11).setCell hbase _, fun _ b hb hbne hbk' => ?_, fun _ => hw.hat b11⟩
      · have : upd B 17 j = B j := if_neg (by omega)
        rw [this]; exact hw.all b11 j hj
      · rw [show upd B 17 17 = true from rfl, if_pos rfl, blk_setCell K 3 _]
        rfl
      · rw [Below.heap_setCell _ _ _ _ hbne]; exact hw.same b11 b hb hbne hbk'
  · intro listed a w1 ⟨hsz, hts, htd, kg, c, hG, hw⟩ hr
    have hall := ready_nilB H.ord (hsz.trans H.size.symm) hr
    rw [H.size] at hall
    generalize hB : (fun j => listed.getD j false) = B at hG hw
    have hb : ∀ i, i < 18 → B i = true := by rw [← hB]; exact hall
    have b11 := hb 11 (by decide)
    have hfin := fin_eq hT hts hb hG
    obtain ⟨tm, df⟩ := a
    have e1 : tm = finT p kg c T0 := hfin
    have e2 : df = [] := htd
    rw [e1, e2]
    have K := hw.blk b11
    have R := hw.row b11
    rw [hb 17 (by decide), if_pos rfl] at K
    rw [hb 13 (by decide), if_pos rfl] at R
    exact hQ kg c w1 K R (hw.bel b11) (hw.same b11) (hw.hat b11)
  · rw [H.size]; decide
  · rw [H.size]
    refine ⟨by simp, hT, rfl, 0, 0, fun j => ?_, ?_⟩
    · have hf : (fun j => (Array.replicate 18 false).getD j false) = fun _ => false := by
        funext j
        by_cases h : j < 18
        · simp [h]
        · simp [h]
      rw [hf]
      unfold CP.G
      cases ixo j with
      | none => rfl
      | some i => rfl
    · have hf : (fun j => (Array.replicate 18 false).getD j false) = fun _ => false := by
        funext j
        by_cases h : j < 18
        · simp [h]
        · simp [h]
      rw [hf]
      exact ⟨fun _ => rfl, fun h => ff h, fun h => ff h, fun h => ff h, fun h => ff h, fun h => ff h, fun h => ff h, fun h => ff h, fun h => ff h, fun h => ff h⟩
end Go.Proofs.YtjghijeblddijaaGreatDoor
