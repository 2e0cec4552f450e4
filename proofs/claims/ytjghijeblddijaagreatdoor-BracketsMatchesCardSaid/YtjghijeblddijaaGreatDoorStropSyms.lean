/- A list of symbols as an argument of a row. -/
import Derived.Test.YtjghijeblddijaaGreatDoorStropRow
import Derived.Carry
namespace Go.Proofs.YtjghijeblddijaaGreatDoor
open Go.ChangeShapes Go.WideShapes Go.ChangeAt Go.RowKit
/-- A list of symbols as an argument. -/
def Lies (w : World) (v : Value) (l : List Sp.Sym) : Prop :=
  (∃ a c, v = .slice a 0 c ∧ l = []) ∨ ∃ g o c, v = .slice (some ⟨g, o, none⟩) l.length c ∧ l.length ≤ c ∧ g < w.heap.size ∧ Row w g o l
theorem Lies.later {w w' : World} {v : Value} {l : List Sp.Sym} (h : Lies w v l) (hb : Below w.heap.size w w') : Lies w' v l := by
  rcases h with h | ⟨g, o, c, h1, h2, h3, h4⟩
  · exact .inl h
  · exact .inr ⟨g, o, c, h1, h2, Nat.lt_of_lt_of_le h3 hb.size, h4.later hb⟩
theorem laid_out : laidOutB Tryz.prog = true := by kernel_rfl
theorem choose_list {α : Type} (P : Nat → α → Prop) : ∀ n : Nat, (∀ i, i < n → ∃ x, P i x) → ∃ l : List α, l.length = n ∧ ∀ (i : Nat) x, l[i]? = some x → P i x := by
  intro n
  induction n with
  | zero => intro _; exact ⟨[], rfl, fun i x h => by simp at h⟩
  | succ n ih =>
    intro h
    obtain ⟨l, hl, hp⟩ := ih fun i hi => h i (by omega)
    obtain ⟨x, hx⟩ := h n (by omega)
    refine ⟨l ++ [x], by rw [List.length_append, hl]; rfl, fun i y hy => ?_⟩
    rcases Nat.lt_or_ge i l.length with hi | hi
    · rw [List.getElem?_append_left hi] at hy; exact hp i y hy
    · rw [List.getElem?_append_right hi] at hy
      have h0 : i - l.length = 0 := by
        have := (List.getElem?_eq_some_iff.1 hy).1
        simp at this; omega
      rw [h0] at hy
      have hyx : y = x := by simpa using hy.symm
      subst hyx
      have : i = n := by omega
      subst this; exact hx
theorem cells_sym : Tryz.prog.cellsOf 28 = 3 := by kernel_rfl
theorem cells_int : Tryz.prog.cellsOf 3 = 1 := by kernel_rfl
theorem cells_string : Tryz.prog.cellsOf 9 = 1 := by kernel_rfl
section
variable {H : Type} {enc : TypeId × Value → H} {w : World} {base : Nat} {sp : Nat → Bool} {held : Bool} {fuel : Nat}
set_option maxRecDepth 100000 in
theorem open_sym {cs : List Value} {x : DataW H × List MemPlace} (h : DataW.trod enc Tryz.prog w base sp held fuel 28 cs = some x) :
    ∃ s : Sp.Sym, cs = [.int .i64 s.kind, .string ⟨s.text.toArray⟩, .int .i64 s.pos] := by
  obtain ⟨xs, n, rfl, rfl, hl, hxs, hf⟩ := DataW.trod_struct Tryz.underlying28 h
  rw [cells_sym] at hl
  match cs, hl with
  | [a, b, c], _ =>
    have h0 := hf 0 _ rfl
    have h1 := hf 1 _ rfl
    have h2 := hf 2 _ rfl
    have l3 : xs.length = 3 := hxs
    rw [List.getElem?_eq_getElem (by omega)] at h0 h1 h2
    simp only [List.getElem_toArray, List.getElem_cons_zero, List.getElem_cons_succ, cells_int, cells_string, List.drop_succ_cons, List.drop_zero, List.take_succ_cons, List.take_zero] at h0 h1 h2
    obtain ⟨k, hk, _⟩ := DataW.trod_int Tryz.underlying3 h0
    obtain ⟨t, ht, _⟩ := DataW.trod_string Tryz.underlying9 h1
    obtain ⟨p, hp, _⟩ := DataW.trod_int Tryz.underlying3 h2
    injection hk with hk; injection ht with ht; injection hp with hp
    exact ⟨⟨k, bs t, p⟩, by rw [hk, ht, hp]⟩
set_option maxRecDepth 100000 in
theorem open_syms {a0 : Option Addr} {len cap : Nat} {x : DataW H × List MemPlace} (h : DataW.trod enc Tryz.prog w base sp held fuel 22 [.slice a0 len cap] = some x) :
    ∃ l : List Sp.Sym, l.length ≤ 9223372036854775807 ∧ Lies w (.slice a0 len cap) l := by
  rcases DataW.trod_slice Tryz.underlying22 h with ⟨h0, _⟩ | ⟨a, len', cap', elems, rest, n, _, h0, rfl, hb, hl, hm, hlen, hel, _, _⟩
  · injection h0 with h0
    injection h0 with e1 e2 e3
    exact ⟨[], by simp, .inl ⟨a0, cap, by rw [e2], rfl⟩⟩
  · injection h0 with h0
    injection h0 with e1 e2 e3
    subst e1; subst e2; subst e3
    rw [cells_sym] at hel
    have hel' : ∀ i, i < len → ∃ s : Sp.Sym, w.cell? (a.add (i * 3)) = some (.int .i64 s.kind) ∧ w.cell? ((a.add (i * 3)).add 1) = some (.string ⟨s.text.toArray⟩) ∧ w.cell? ((a.add (i * 3)).add 2) = some (.int .i64 s.pos) := by
      intro i hi
      have h1 := hel i hi
      rw [List.getElem?_eq_getElem (by omega), Option.bind_eq_some_iff] at h1
      obtain ⟨cs, hcs, hd⟩ := h1
      obtain ⟨s, rfl⟩ := open_sym hd
      obtain ⟨_, _, hc⟩ := World.cells?_some hcs
      exact ⟨s, hc 0 (by omega), hc 1 (by omega), hc 2 (by omega)⟩
    obtain ⟨l, hll, hP⟩ := choose_list _ len hel'
    refine ⟨l, by unfold maxLen at hm; omega, ?_⟩
    by_cases h0 : len = 0
    · subst h0
      exact .inl ⟨some a, cap, rfl, List.length_eq_zero_iff.1 hll⟩
    · right
      obtain ⟨b, off, spot⟩ := a
      have hx0 : l[0]? = some (l[0]'(by omega)) := List.getElem?_eq_getElem (by omega)
      have hp0 := (hP 0 _ hx0).1
      have hcell : w.cell? ⟨b, off, spot⟩ = some (.int .i64 (l[0]'(by omega)).kind) := by simpa [Addr.add] using hp0
      have hspot : spot = none := by
        unfold World.cell? at hcell
        split at hcell
        · split at hcell
          · cases hcell
          · rename_i hs
            simpa using hs
        · cases hcell
      subst hspot
      refine ⟨b, off, cap, by rw [hll], by omega, World.block_lt_of_cell? w _ hcell, fun k x hk => ?_⟩
      obtain ⟨k0, k1, k2⟩ := hP k x hk
      have e0 : (⟨b, off, none⟩ : Addr).add (k * 3) = ⟨b, off + k * 3, none⟩ := by
        unfold Addr.add
        split
        · rename_i h; rw [h]; rfl
        · rfl
      rw [e0] at k0 k1 k2
      exact ⟨k0, k1, k2⟩
end
end Go.Proofs.YtjghijeblddijaaGreatDoor
