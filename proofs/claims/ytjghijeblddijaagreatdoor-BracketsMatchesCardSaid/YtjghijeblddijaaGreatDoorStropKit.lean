/- Small facts on bytes, and the scanner's state in memory. -/
import Derived.Test.YtjghijeblddijaaGreatDoorStropPure
import Derived.Test.YtjghijeblddijaaGreatDoorProg
import Derived.WalkKit
import Derived.WalkLawsBesides
import Derived.WalkSpells
import Derived.Deep.QuietTactic
import Derived.BigQuiet
import Derived.Lib.Hide
import Derived.Maps.AppendAt
import Derived.Deep.AppendLies
namespace Go.Proofs.YtjghijeblddijaaGreatDoor
open Go.RowKit

theorem ret_bool {a b : Bool} (h : a = true ↔ b = true) : Ending.returned (.bool a) = .returned (.bool b) := by
  rw [Bool.eq_iff_iff.2 h]
theorem ret_int {k : IntKind} {a b : Int} (h : a = b) : Ending.returned (.int k a) = .returned (.int k b) := by rw [h]

namespace Sp
theorem small_iff (c : UInt8) : small c = true ↔ 97 ≤ (c.toNat : Int) ∧ (c.toNat : Int) ≤ 122 := by
  simp [small, UInt8.le_iff_toNat_le]; omega
theorem capital_iff (c : UInt8) : capital c = true ↔ 65 ≤ (c.toNat : Int) ∧ (c.toNat : Int) ≤ 90 := by
  simp [capital, UInt8.le_iff_toNat_le]; omega
theorem digit_iff (c : UInt8) : digit c = true ↔ 48 ≤ (c.toNat : Int) ∧ (c.toNat : Int) ≤ 57 := by
  simp [digit, UInt8.le_iff_toNat_le]; omega
theorem blank_iff (c : UInt8) : blank c = true ↔ (c.toNat : Int) = 32 ∨ (c.toNat : Int) = 9 ∨ (c.toNat : Int) = 10 := by
  simp [blank, ← UInt8.toNat_inj]; omega
theorem permitted_iff (c : UInt8) : permitted c = true ↔ blank c = true ∨ (32 ≤ (c.toNat : Int) ∧ (c.toNat : Int) ≤ 126) := by
  simp only [permitted, UInt8.le_iff_toNat_le, Bool.or_eq_true, Bool.and_eq_true, decide_eq_true_eq]
  have : (32 : UInt8).toNat = 32 := rfl
  have : (126 : UInt8).toNat = 126 := rfl
  constructor <;> rintro (h | h) <;> first | exact .inl h | exact .inr (by omega)
theorem low_int (c : UInt8) : ((low c).toNat : Int) = if capital c = true then (c.toNat : Int) + 32 else c.toNat := by
  unfold low
  split
  · rename_i h
    rw [capital_iff] at h
    rw [UInt8.toNat_add]
    have : (32 : UInt8).toNat = 32 := rfl
    rw [this]
    omega
  · rfl
theorem letter_iff (r : Int) (hr : 0 ≤ r) (c : UInt8) : letter r.toNat c = true ↔ small c = true ∨ (r ≠ 0 ∧ capital c = true) := by
  simp only [letter, Bool.or_eq_true, Bool.and_eq_true, bne_iff_ne]
  have : r.toNat ≠ 0 ↔ r ≠ 0 := by omega
  rw [this]
theorem bl_le (l : List UInt8) : bl l ≤ l.length := by
  induction l with
  | nil => simp [bl]
  | cons c t ih => simp only [bl]; split <;> simp <;> omega
theorem run_le (p : UInt8 → Bool) (l : List UInt8) : run p l ≤ l.length := by
  induction l with
  | nil => simp [run]
  | cons c t ih => simp only [run]; split <;> simp <;> omega
theorem spread_none (p : UInt8 → Bool) (l : List UInt8) (h : (spread p l).1 = []) : (spread p l).2 = 0 := by
  cases l with
  | nil => rfl
  | cons c t =>
    simp only [spread] at h ⊢
    split at h
    · simp at h
    · rename_i hc; rw [if_neg hc]
theorem spreadGo_eq (p : UInt8 → Bool) (l : List UInt8) : ∀ k, spreadGo p l k =
    ((spread p (l.drop (bl l))).1, if (spread p (l.drop (bl l))).1 = [] then 0 else k + bl l + (spread p (l.drop (bl l))).2) := by
  induction l with
  | nil => intro k; simp [spreadGo, spread, bl]
  | cons c t ih =>
    intro k
    by_cases hb : blank c = true
    · have e : bl (c :: t) = bl t + 1 := by simp [bl, hb]
      simp only [spreadGo, if_pos hb, ih (k + 1), e, List.drop_succ_cons]
      congr 1
      split <;> omega
    · have e : bl (c :: t) = 0 := by simp [bl, hb]
      simp only [spreadGo, if_neg hb, e, List.drop_zero, spread]
      by_cases hp : p c = true
      · simp [if_pos hp]; omega
      · simp [if_neg hp]
theorem spread_cons (p : UInt8 → Bool) (c : UInt8) (t : List UInt8) (hp : p c = true) :
    (spread p (c :: t)).1 = low c :: (spread p (t.drop (bl t))).1 ∧
    (spread p (c :: t)).2 = if (spread p (t.drop (bl t))).1 = [] then 1 else 1 + bl t + (spread p (t.drop (bl t))).2 := by
  have e : spread p (c :: t) = (low c :: (spreadGo p t 0).1, 1 + (spreadGo p t 0).2) := by simp only [spread, if_pos hp]
  rw [e, spreadGo_eq p t 0]
  generalize spread p (t.drop (bl t)) = Y
  refine ⟨rfl, ?_⟩
  simp only
  split <;> omega
theorem spreadGo_le (p : UInt8 → Bool) (l : List UInt8) : ∀ k, (spreadGo p l k).2 ≤ k + l.length ∧ (spreadGo p l k).1.length ≤ l.length := by
  induction l with
  | nil => intro k; simp [spreadGo]
  | cons c t ih =>
    intro k
    simp only [spreadGo]
    split
    · have := ih (k + 1); simp; omega
    · split
      · have := ih 0; simp; omega
      · simp
theorem spread_le (p : UInt8 → Bool) (l : List UInt8) : (spread p l).2 ≤ l.length ∧ (spread p l).1.length ≤ l.length := by
  cases l with
  | nil => simp [spread]
  | cons c t =>
    simp only [spread]
    split
    · have := spreadGo_le p t 0; simp; omega
    · simp
/-- A symbol's cells. -/
def cells (x : Sym) : List Value := [.int .i64 x.kind, .string ⟨x.text.toArray⟩, .int .i64 x.pos]
end Sp

/-- The bytes of a string. -/
abbrev bs (s : ByteArray) : List UInt8 := s.data.toList
theorem bs_length (s : ByteArray) : (bs s).length = s.size := by simp
theorem bs_drop (s : ByteArray) (k : Nat) (h : k < s.size) : (bs s).drop k = s[k] :: (bs s).drop (k + 1) :=
  List.drop_eq_getElem_cons (by simpa using h)
theorem bs_drop_end (s : ByteArray) (k : Nat) (h : s.size ≤ k) : (bs s).drop k = [] := List.drop_of_length_le (by simpa using h)
theorem bs_get (s : ByteArray) (k : Nat) (h : k < s.size) : (bs s).getD k 0 = s[k] := by
  rw [List.getD_eq_getElem?_getD, List.getElem?_eq_getElem (by simpa using h)]; rfl
theorem bs_of (l : List UInt8) : bs ⟨l.toArray⟩ = l := rfl
theorem of_bs (s : ByteArray) : (⟨(bs s).toArray⟩ : ByteArray) = s := by simp [bs]
theorem size_of (l : List UInt8) : (⟨l.toArray⟩ : ByteArray).size = l.length := rfl
theorem bs_extract (s : ByteArray) (a b : Nat) : bs (s.extract a b) = ((bs s).drop a).take (b - a) := by
  simp [bs]
theorem extract_eq (s : ByteArray) (a b : Nat) : s.extract a b = ⟨(((bs s).drop a).take (b - a)).toArray⟩ := by
  rw [← bs_extract, of_bs]

theorem bl_drop (s : ByteArray) (k : Nat) (h : k < s.size) :
    Sp.bl ((bs s).drop k) = if Sp.blank s[k] = true then Sp.bl ((bs s).drop (k + 1)) + 1 else 0 := by
  rw [bs_drop s k h]; rfl
theorem run_drop (p : UInt8 → Bool) (s : ByteArray) (k : Nat) (h : k < s.size) :
    Sp.run p ((bs s).drop k) = if p s[k] = true then Sp.run p ((bs s).drop (k + 1)) + 1 else 0 := by
  rw [bs_drop s k h]; rfl
theorem bl_bound (s : ByteArray) (k : Nat) (h : k ≤ s.size) : k + Sp.bl ((bs s).drop k) ≤ s.size := by
  have := Sp.bl_le ((bs s).drop k)
  simp at this; omega
theorem run_bound (p : UInt8 → Bool) (s : ByteArray) (k : Nat) (h : k ≤ s.size) : k + Sp.run p ((bs s).drop k) ≤ s.size := by
  have := Sp.run_le p ((bs s).drop k)
  simp at this; omega

/-- What a fault is as a panic. -/
def flt (at_ c : Int) : List PanicEntry := [{ v := .iface 35 (.agg #[.int .i64 at_, .int .i64 c]), recovered := false }]

/-- The scanner's text, place and regime lie at block g. -/
structure ScnR (w : World) (g : Nat) (s : ByteArray) (at_ rg : Int) : Prop where
  c0 : w.cell? ⟨g, 0, none⟩ = some (.string s)
  c1 : w.cell? ⟨g, 1, none⟩ = some (.int .i64 at_)
  c2 : w.cell? ⟨g, 2, none⟩ = some (.int .i64 rg)
theorem ScnR.later {w w' : World} {g : Nat} {s : ByteArray} {at_ rg : Int} (h : ScnR w g s at_ rg) (hb : Below w.heap.size w w') : ScnR w' g s at_ rg :=
  ⟨cell_later hb h.c0, cell_later hb h.c1, cell_later hb h.c2⟩
theorem ScnR.lt {w : World} {g : Nat} {s : ByteArray} {at_ rg : Int} (h : ScnR w g s at_ rg) : g < w.heap.size := World.block_lt_of_cell? w _ h.c0

/-- The scanner at block g: text, place, regime, symbols so far; what it has made lies from B on. -/
structure Scn (B : Nat) (w : World) (g : Nat) (s : ByteArray) (at_ rg : Int) (out : List Sp.Sym) (A : Option Addr) (c : Nat) : Prop where
  base : B ≤ g
  blk : w.heap[g]? = some (.cells #[.string s, .int .i64 at_, .int .i64 rg, .slice A out.length c] 117 (0, 0))
  own : w.ownsRow B 28 3 (.slice A out.length c) out.length (out.flatMap Sp.cells)
theorem cell_of_blk {w : World} {g : Nat} {cs : Array Value} {t : TypeId} {fr : Nat × Nat} (h : w.heap[g]? = some (.cells cs t fr)) (j : Nat) : w.cell? ⟨g, j, none⟩ = cs[j]? := by simp [World.cell?, h]
theorem free_of_blk {w : World} {g : Nat} {cs : Array Value} {t : TypeId} (h : w.heap[g]? = some (.cells cs t (0, 0))) (j : Nat) : w.frozen? ⟨g, j, none⟩ = false := by simp [World.frozen?, h]
theorem lt_of_blk {w : World} {g : Nat} {o : Obj} (h : w.heap[g]? = some o) : g < w.heap.size := (Array.getElem?_eq_some_iff.1 h).1
theorem Scn.R {B : Nat} {w : World} {g : Nat} {s : ByteArray} {at_ rg : Int} {out : List Sp.Sym} {A : Option Addr} {c : Nat} (h : Scn B w g s at_ rg out A c) : ScnR w g s at_ rg :=
  ⟨by rw [cell_of_blk h.blk]; rfl, by rw [cell_of_blk h.blk]; rfl, by rw [cell_of_blk h.blk]; rfl⟩
theorem Scn.c3 {B : Nat} {w : World} {g : Nat} {s : ByteArray} {at_ rg : Int} {out : List Sp.Sym} {A : Option Addr} {c : Nat} (h : Scn B w g s at_ rg out A c) : w.cell? ⟨g, 3, none⟩ = some (.slice A out.length c) := by rw [cell_of_blk h.blk]; rfl
theorem Scn.lt {B : Nat} {w : World} {g : Nat} {s : ByteArray} {at_ rg : Int} {out : List Sp.Sym} {A : Option Addr} {c : Nat} (h : Scn B w g s at_ rg out A c) : g < w.heap.size := lt_of_blk h.blk
theorem Scn.later {B : Nat} {w w' : World} {g : Nat} {s : ByteArray} {at_ rg : Int} {out : List Sp.Sym} {A : Option Addr} {c : Nat} (h : Scn B w g s at_ rg out A c) (hb : Below w.heap.size w w') : Scn B w' g s at_ rg out A c :=
  ⟨h.base, (hb.block g h.lt).trans h.blk, h.own.kept ⟨hb.os, hb.tape, hb.output, hb.size, fun k hk _ => hb.block k hk⟩ (row := none) (by cases (Value.slice A out.length c).ownBlock <;> simp)⟩
/-- The row of symbols lies in another block. -/
theorem Scn.ne {B : Nat} {w : World} {g : Nat} {s : ByteArray} {at_ rg : Int} {out : List Sp.Sym} {A : Option Addr} {c : Nat} (h : Scn B w g s at_ rg out A c) : (Value.slice A out.length c).ownBlock ≠ some g := by
  intro he
  rcases h.own.2 with ⟨h1, _⟩ | ⟨g', cap, cur, h1, _, hh, _⟩
  · rw [h1] at he; simp [Value.ownBlock] at he
  · rw [h1] at he
    have : g' = g := by simpa [Value.ownBlock] using he
    subst this
    rw [h.blk] at hh
    simp at hh
/-- A store into the block of the scanner. -/
theorem own_setCell {w : World} {B : Nat} {e : TypeId} {size n : Nat} {v : Value} {xs : List Value} (h : w.ownsRow B e size v n xs) (p : Addr) (hp : v.ownBlock ≠ some p.block) (u : Value) : (w.setCell p u).ownsRow B e size v n xs := by
  refine h.kept (row := some p.block) ⟨rfl, rfl, rfl, by simp, fun k hk hne => ?_⟩ (.inr hp)
  exact Below.heap_setCell w p u k (by simpa using hne)
theorem blk_setCell {w : World} {g : Nat} {cs : Array Value} {t : TypeId} {fr : Nat × Nat} (h : w.heap[g]? = some (.cells cs t fr)) (j : Nat) (u : Value) : (w.setCell ⟨g, j, none⟩ u).heap[g]? = some (.cells (cs.setIfInBounds j u) t fr) := by
  simp [World.setCell, Array.getElem?_modify, h]
theorem Scn.setAt {B : Nat} {w : World} {g : Nat} {s : ByteArray} {at_ rg : Int} {out : List Sp.Sym} {A : Option Addr} {c : Nat} (h : Scn B w g s at_ rg out A c) (x : Int) : Scn B (w.setCell ⟨g, 1, none⟩ (.int .i64 x)) g s x rg out A c :=
  ⟨h.base, by rw [blk_setCell h.blk]; rfl, own_setCell h.own _ h.ne _⟩
theorem Scn.setRg {B : Nat} {w : World} {g : Nat} {s : ByteArray} {at_ rg : Int} {out : List Sp.Sym} {A : Option Addr} {c : Nat} (h : Scn B w g s at_ rg out A c) (x : Int) : Scn B (w.setCell ⟨g, 2, none⟩ (.int .i64 x)) g s at_ x out A c :=
  ⟨h.base, by rw [blk_setCell h.blk]; rfl, own_setCell h.own _ h.ne _⟩

/-- Behind add: a symbol more. -/
theorem Scn.added {B : Nat} {w w1 : World} {g : Nat} {s : ByteArray} {at_ rg : Int} {out : List Sp.Sym} {A : Option Addr} {c : Nat} (h : Scn B w g s at_ rg out A c) {A' : Option Addr} {c' : Nat} {x : Sp.Sym} {to_ : Int}
    (hown : w1.ownsRow B 28 3 (.slice A' (out.length + 1) c') (out.length + 1) (out.flatMap Sp.cells ++ Sp.cells x)) (hgr : w.grownBy w1 (Value.slice A out.length c).ownBlock) :
    Scn B ((w1.setCell ⟨g, 3, none⟩ (.slice A' (out.length + 1) c')).setCell ⟨g, 1, none⟩ (.int .i64 to_)) g s to_ rg (out ++ [x]) A' c' := by
  have k := (hgr.block g h.lt (Ne.symm h.ne)).trans h.blk
  have e : (out ++ [x]).flatMap Sp.cells = out.flatMap Sp.cells ++ Sp.cells x := by simp
  have hne : (Value.slice A' (out.length + 1) c').ownBlock ≠ some g := by
    intro he
    rcases hown.2 with ⟨h1, _⟩ | ⟨g', cap, cur, h1, _, hh, _⟩
    · rw [h1] at he; simp [Value.ownBlock] at he
    · rw [h1] at he
      have : g' = g := by simpa [Value.ownBlock] using he
      subst this
      rw [k] at hh
      simp at hh
  refine ⟨h.base, ?_, ?_⟩
  · rw [blk_setCell (blk_setCell k 3 _) 1 _]
    simp
  · rw [e, List.length_append, List.length_singleton]
    exact own_setCell (own_setCell hown _ hne _) _ hne _

/-- A function value that tells bytes apart, and changes nothing: now, and as long as what lies in w lies unturned. -/
structure Tells (w : World) (f : Nat) (cap : Array Value) (p : UInt8 → Bool) : Prop where
  eg : ∀ args w, (callFunc f args).run Tryz.prog w = .ok (.enter f args) w
  gives : ∀ (W : World) (c : UInt8), Below w.heap.size w W → Calls Tryz.prog f (#[.int .u8 (c.toNat : Int)] ++ cap) W fun e w' => e = .returned (.bool (p c)) ∧ W = w'
theorem Tells.later {w w' : World} {f : Nat} {cap : Array Value} {p : UInt8 → Bool} (h : Tells w f cap p) (hb : Below w.heap.size w w') : Tells w' f cap p :=
  ⟨h.eg, fun W c hW => h.gives W c (hb.trans (hW.mono hb.size))⟩
theorem Tells.now {w : World} {f : Nat} {cap : Array Value} {p : UInt8 → Bool} (h : Tells w f cap p) (c : UInt8) :
    Calls Tryz.prog f (#[.int .u8 (c.toNat : Int)] ++ cap) w fun e w' => e = .returned (.bool (p c)) ∧ w = w' := h.gives w c (Below.refl _ _)

/-- append(v, y) on a row of the call's own, the element laid in a box first. -/
theorem append_lit {P : Program} {ops : Array Oper} {rest : List Oper} {o : Oper} {a : Act} {Q : Exit → Act → World → Prop} {W : World} (base : Nat)
    (hgd : o.guard = none) (s x : Operand) (t e : TypeId) (z : Value) (size bytes : Nat)
    (ho : o.op = .call { callee := .builtin .append, args := #[s, x], argTypes := #[t, t] })
    (ht : P.underlying t = some (.slice e)) (hinfo : (P.info? e).map (fun i => (i.zero, i.size, i.bytes)) = some (some z, size, bytes)) (hzs : z.cells.size = size) (hsz : 0 < size) (hb0 : 0 < bytes)
    (A : Option Addr) (n c : Nat) (xs ys : List Value) (hs : a.eval s = .slice A n c) (hx : a.eval x = .slice (some ⟨W.heap.size, 0, none⟩) 1 1) (hys : ys.length = size) (h1 : ∀ u ∈ ys, u.oneCell' = true)
    (HO : W.ownsRow base e size (.slice A n c) n xs) (hbase : base ≤ W.heap.size) (hl : (n + 1) * bytes ≤ 140737488355328)
    (h : ∀ A' c' w1, w1.ownsRow base e size (.slice A' (n + 1) c') (n + 1) (xs ++ ys) → W.grownBy w1 (Value.slice A n c).ownBlock → Below base W w1 →
      ((Value.slice A' (n + 1) c').ownBlock = (Value.slice A n c).ownBlock ∨ ∃ b, (Value.slice A' (n + 1) c').ownBlock = some b ∧ W.heap.size ≤ b) → wpList P ops Q rest (a.put o.dst (.slice A' (n + 1) c')) w1) :
    wpList P ops Q (o :: rest) a (W.alloc (.cells ys.toArray e)) := by
  obtain ⟨i0, hi, hzz⟩ := Option.map_eq_some_iff.1 hinfo
  simp only [Prod.mk.injEq] at hzz
  obtain ⟨hz0, hz1, hz2⟩ := hzz
  have hlen : n + 1 ≤ 140737488355328 := Nat.le_trans (Nat.le_mul_of_pos_right _ hb0) hl
  refine wpList_append_own_at (W.alloc (.cells ys.toArray e)) hgd s x t ho base e i0 z size bytes ht hi hz0 hz1 hz2 hzs hsz (.slice A n c) n xs hs (HO.alloc _) ⟨W.heap.size, 0, none⟩ 1 1 ys hx (by omega)
    (World.news_of_block (cs := ys.toArray) (t := e) (fr := (0, 0)) (heap_alloc_new W _)) h1 (by simp only [maxLen]; omega) hl (by simp; omega) ?_
  intro v1 w1 hown hg _ hat
  obtain ⟨A', c', rfl⟩ : ∃ A' c', v1 = .slice A' (n + 1) c' := by
    rcases hown.2 with ⟨_, h0⟩ | ⟨g, cap, _, rfl, _⟩
    · omega
    · exact ⟨_, _, rfl⟩
  have hg' := World.grownBy.trans (World.grownBy_alloc W _ _) hg
  refine h A' c' w1 hown hg' ((Below.refl base W).grown hg' hbase (fun k hk => (HO.lt k hk).1)) ?_
  rcases hat with hat | hat
  · exact .inl hat
  · exact .inr ⟨_, hat, by simp⟩

theorem grown_below {B : Nat} {w w1 : World} {row : Option Nat} (hg : w.grownBy w1 row) (hr : ∀ k, row = some k → B ≤ k) (hB : B ≤ w.heap.size) : Below B w w1 := (Below.refl B w).grown hg hB hr
theorem below_alloc0 {w W : World} (h : Below w.heap.size w W) (o : Obj) : Below w.heap.size w (W.alloc o) := h.alloc h.size o
theorem bjoin {B : Nat} {w w1 w2 : World} (h : Below B w w1) (hB : B ≤ w1.heap.size) (k : Below w1.heap.size w1 w2) : Below B w w2 := h.trans (k.mono hB)
end Go.Proofs.YtjghijeblddijaaGreatDoor
