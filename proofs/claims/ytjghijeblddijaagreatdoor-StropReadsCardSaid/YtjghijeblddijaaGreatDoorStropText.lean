/- Text: what it computes; a builder's contracts at hand. -/
import Derived.Test.YtjghijeblddijaaGreatDoorStropCheck
import Derived.Shelf.Strings.BuilderK
namespace Go.Proofs.YtjghijeblddijaaGreatDoor
open Go.RowKit
namespace Sp
/-- The symbols that Text writes: up to the first end; with the end, if that is no right one. -/
def upto (l : List Sym) : List Sym :=
  match l.findIdx? (fun x => x.kind == 0) with
  | none => l
  | some i => match l[i]? with
    | some x => if check x = 0 then l.take i else l.take (i + 1)
    | none => l
def sep (p : Option Sym) (x : Sym) : List UInt8 :=
  match p with
  | none => []
  | some y => if (joins y && joins x) = true then [32, 35, 35, 32] else [32]
def body (r : Nat) : Option Sym → List Sym → Except Int (List UInt8)
  | _, [] => .ok []
  | p, x :: t => if check x ≠ 0 then .error (check x) else
    match body r (some x) t with
    | .ok b => .ok (sep p x ++ written x r ++ b)
    | .error e => .error e
def finish : Except Int (List UInt8) → List UInt8 × Int
  | .error e => ([], e)
  | .ok b => if 65536 < b.length then ([], 3) else (b, 0)
def text (l : List Sym) (regime : Int) : List UInt8 × Int :=
  if regime < 0 ∨ 2 < regime then ([], 1) else finish (body regime.toNat none (upto l))
def glue (a : List UInt8) : Except Int (List UInt8) → Except Int (List UInt8)
  | .ok b => .ok (a ++ b)
  | .error e => .error e
theorem glue_glue (a b : List UInt8) (x : Except Int (List UInt8)) : glue a (glue b x) = glue (a ++ b) x := by cases x <;> simp [glue]
theorem glue_nil (x : Except Int (List UInt8)) : glue [] x = x := by cases x <;> rfl
theorem body_cons (r : Nat) (p : Option Sym) (x : Sym) (t : List Sym) (h : check x = 0) : body r p (x :: t) = glue (sep p x ++ written x r) (body r (some x) t) := by
  rw [body, if_neg (by simp [h])]
  cases body r (some x) t <;> rfl
theorem body_bad (r : Nat) (p : Option Sym) (x : Sym) (t : List Sym) (h : check x ≠ 0) : body r p (x :: t) = .error (check x) := by
  rw [body, if_pos h]
end Sp

/-- A builder at block b holds a text; what it has made lies from B on. -/
def BIs (B b : Nat) (l : List UInt8) (w : World) : Prop := Lib.IsBuilderF 106 5 B b (Lib.byteCells l) w
theorem builder_later {B b : Nat} {p : Value} {l : List Value} {w w' : World} (h : Lib.BuilderAtF 106 5 B b p l w) (hb : Below w.heap.size w w') : Lib.BuilderAtF 106 5 B b p l w' := by
  have hlt := h.lt
  obtain ⟨h0, v, h1, h2, h3⟩ := h
  exact ⟨h0, v, (hb.block b hlt).trans h1, h2.kept ⟨hb.os, hb.tape, hb.output, hb.size, fun k hk _ => hb.block k hk⟩ (row := none) (by cases v.ownBlock <;> simp), h3⟩
theorem BIs.later {B b : Nat} {l : List UInt8} {w w' : World} (h : BIs B b l w) (hb : Below w.heap.size w w') : BIs B b l w' := by
  rcases h with h | h
  · exact .inl (builder_later h hb)
  · exact .inr (builder_later h hb)
theorem BIs.lt {B b : Nat} {l : List UInt8} {w : World} (h : BIs B b l w) : b < w.heap.size := by
  rcases h with h | h <;> exact h.lt
theorem BIs.fresh (w : World) : BIs w.heap.size w.heap.size [] (w.alloc (.cells #[.pointer none, .slice none 0 0] 106)) :=
  Lib.IsBuilderF.of (Lib.fresh_isBuilder 106 5 w)
abbrev Others (b : Nat) (w w' : World) : Prop := Lib.OthersKept 5 (some b) w w'
theorem bw_byte (B b : Nat) (l : List UInt8) (c : UInt8) (n : Int) (hn : n = (c.toNat : Int)) (w : World) (h : BIs B b l w) (hl : l.length ≤ 100000000000) (hB : B ≤ b) :
    Calls Tryz.prog 72 #[.pointer (some ⟨b, 0, none⟩), .int .u8 n] w fun e w' => e = .returned .nilIface ∧ BIs B b (l ++ [c]) w' ∧ Below B w w' ∧ Others b w w' := by
  subst hn
  have := h.lt
  refine (Any.Builder_WriteByte_k { Tryz.lays158 with } Tryz.Builder_Extra_158 B b (Lib.byteCells l) c.toNat w h (by rw [Lib.byteCells_length]; omega) (by omega)).mono ?_
  rintro e w' ⟨rfl, h1, h2, h3⟩
  refine ⟨rfl, ?_, h2, h3⟩
  have e1 : Lib.byteCells (l ++ [c]) = Lib.byteCells l ++ [.int .u8 c.toNat] := by simp [Lib.byteCells]
  unfold BIs
  rw [e1]
  exact .inr h1
theorem bw_str (B b : Nat) (l s : List UInt8) (text : ByteArray) (ht : text = ⟨s.toArray⟩) (w : World) (h : BIs B b l w) (hl : l.length ≤ 100000000000) (hs : s.length ≤ 1000000) (hB : B ≤ b) :
    Calls Tryz.prog 74 #[.pointer (some ⟨b, 0, none⟩), .string text] w fun e w' => e = .returned (.tuple #[.int .i64 text.size, .nilIface]) ∧ BIs B b (l ++ s) w' ∧ Below B w w' ∧ Others b w w' := by
  subst ht
  have := h.lt
  refine (Any.Builder_WriteString_k { Tryz.lays158 with } Tryz.Builder_Extra_158 B b (Lib.byteCells l) ⟨s.toArray⟩ w h (by rw [Lib.byteCells_length, size_of]; omega) (by omega)).mono ?_
  rintro e w' ⟨rfl, h1, h2, h3⟩
  refine ⟨rfl, ?_, h2, h3⟩
  have e1 : Lib.byteCells (l ++ s) = Lib.byteCells l ++ Lib.strCells ⟨s.toArray⟩ := by simp [Lib.byteCells, Lib.strCells]
  unfold BIs
  rw [e1]
  exact .inr h1
theorem b_len (B b : Nat) (l : List UInt8) (w : World) (h : BIs B b l w) :
    Calls Tryz.prog 76 #[.pointer (some ⟨b, 0, none⟩)] w fun e w' => e = .returned (.int .i64 l.length) ∧ w = w' := by
  refine (Any.Builder_Len_f Tryz.lays170 B b (Lib.byteCells l) w h).mono ?_
  rintro e w' ⟨rfl, h1⟩
  exact ⟨by rw [Lib.byteCells_length], h1.symm⟩
theorem b_string (B b : Nat) (l : List UInt8) (w : World) (h : BIs B b l w) (hB : B ≤ b) :
    Calls Tryz.prog 77 #[.pointer (some ⟨b, 0, none⟩)] w fun e w' => e = .returned (.string ⟨l.toArray⟩) ∧ Below B w w' := by
  have := h.lt
  refine (Any.Builder_String_any_k Tryz.lays169 Tryz.Builder_Extra_169 B b l w h (by omega)).mono ?_
  rintro e w' ⟨rfl, h1, h2, h3⟩
  exact ⟨rfl, h2⟩
end Go.Proofs.YtjghijeblddijaaGreatDoor
