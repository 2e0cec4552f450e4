/- Text: what it computes; a builder's contracts at hand. Walks: Text. Walks: Text, with an end in the list. -/
import Derived.Test.YtjghijeblddijaaGreatDoorStropCheck
import Derived.Shelf.Strings.BuilderK
namespace Go.Proofs.YtjghijeblddijaaGreatDoor
open Go.RowKit
namespace Sp
/-- The symbols that Text writes: up to the first end; with the end, if that is no right one. -/
def upto (l : List Sym) : List Sym :=
  match l.findIdx? (fun x => x.kind == 0) with
  | none => l
  | some i => match l[i]? with
    | some x => if check x = 0 then l.take i else l.take (i + 1)
    | none => l
def sep (p : Option Sym) (x : Sym) : List UInt8 :=
  match p with
  | none => []
  | some y => if (joins y && joins x) = true then [32, 35, 35, 32] else [32]
def body (r : Nat) : Option Sym → List Sym → Except Int (List UInt8)
  | _, [] => .ok []
  | p, x :: t => if check x ≠ 0 then .error (check x) else
    match body r (some x) t with
    | .ok b => .ok (sep p x ++ written x r ++ b)
    | .error e => .error e
def finish : Except Int (List UInt8) → List UInt8 × Int
  | .error e => ([], e)
  | .ok b => if 65536 < b.length then ([], 3) else (b, 0)
def text (l : List Sym) (regime : Int) : List UInt8 × Int :=
  if regime < 0 ∨ 2 < regime then ([], 1) else finish (body regime.toNat none (upto l))
def glue (a : List UInt8) : Except Int (List UInt8) → Except Int (List UInt8)
  | .ok b => .ok (a ++ b)
  | .error e => .error e
theorem glue_glue (a b : List UInt8) (x : Except Int (List UInt8)) : glue a (glue b x) = glue (a ++ b) x := by cases x <;> simp [glue]
theorem glue_nil (x : Except Int (List UInt8)) : glue [] x = x := by cases x <;> rfl
theorem body_cons (r : Nat) (p : Option Sym) (x : Sym) (t : List Sym) (h : check x = 0) : body r p (x :: t) = glue (sep p x ++ written x r) (body r (some x) t) := by
  rw [body, if_neg (by simp [h])]
  cases body r (some x) t <;> rfl
theorem body_bad (r : Nat) (p : Option Sym) (x : Sym) (t : List Sym) (h : check x ≠ 0) : body r p (x :: t) = .error (check x) := by
  rw [body, if_pos h]
end Sp

/-- A builder at block b holds a text; what it has made lies from B on. -/
def BIs (B b : Nat) (l : List UInt8) (w : World) : Prop := Lib.IsBuilderF 106 5 B b (Lib.byteCells l) w
theorem builder_later {B b : Nat} {p : Value} {l : List Value} {w w' : World} (h : Lib.BuilderAtF 106 5 B b p l w) (hb : Below w.heap.size w w') : Lib.BuilderAtF 106 5 B b p l w' := by
  have hlt := h.lt
  obtain ⟨h0, v, h1, h2, h3⟩ := h
  exact ⟨h0, v, (hb.block b hlt).trans h1, h2.kept ⟨hb.os, hb.tape, hb.output, hb.size, fun k hk _ => hb.block k hk⟩ (row := none) (by cases v.ownBlock <;> simp), h3⟩
theorem BIs.later {B b : Nat} {l : List UInt8} {w w' : World} (h : BIs B b l w) (hb : Below w.heap.size w w') : BIs B b l w' := by
  rcases h with h | h
  · exact .inl (builder_later h hb)
  · exact .inr (builder_later h hb)
theorem BIs.lt {B b : Nat} {l : List UInt8} {w : World} (h : BIs B b l w) : b < w.heap.size := by
  rcases h with h | h <;> exact h.lt
theorem BIs.fresh (w : World) : BIs w.heap.size w.heap.size [] (w.alloc (.cells #[.pointer none, .slice none 0 0] 106)) :=
  Lib.IsBuilderF.of (Lib.fresh_isBuilder 106 5 w)
abbrev Others (b : Nat) (w w' : World) : Prop := Lib.OthersKept 5 (some b) w w'
theorem bw_byte (B b : Nat) (l : List UInt8) (c : UInt8) (n : Int) (hn : n = (c.toNat : Int)) (w : World) (h : BIs B b l w) (hl : l.length ≤ 100000000000) (hB : B ≤ b) :
    Calls Tryz.prog 72 #[.pointer (some ⟨b, 0, none⟩), .int .u8 n] w fun e w' => e = .returned .nilIface ∧ BIs B b (l ++ [c]) w' ∧ Below B w w' ∧ Others b w w' := by
  subst hn
  have := h.lt
  refine (Any.Builder_WriteByte_k { Tryz.lays158 with } Tryz.Builder_Extra_158 B b (Lib.byteCells l) c.toNat w h (by rw [Lib.byteCells_length]; omega) (by omega)).mono ?_
  rintro e w' ⟨rfl, h1, h2, h3⟩
  refine ⟨rfl, ?_, h2, h3⟩
  have e1 : Lib.byteCells (l ++ [c]) = Lib.byteCells l ++ [.int .u8 c.toNat] := by simp [Lib.byteCells]
  unfold BIs
  rw [e1]
  exact .inr h1
theorem bw_str (B b : Nat) (l s : List UInt8) (text : ByteArray) (ht : text = ⟨s.toArray⟩) (w : World) (h : BIs B b l w) (hl : l.length ≤ 100000000000) (hs : s.length ≤ 1000000) (hB : B ≤ b) :
    Calls Tryz.prog 74 #[.pointer (some ⟨b, 0, none⟩), .string text] w fun e w' => e = .returned (.tuple #[.int .i64 text.size, .nilIface]) ∧ BIs B b (l ++ s) w' ∧ Below B w w' ∧ Others b w w' := by
  subst ht
  have := h.lt
  refine (Any.Builder_WriteString_k { Tryz.lays158 with } Tryz.Builder_Extra_158 B b (Lib.byteCells l) ⟨s.toArray⟩ w h (by rw [Lib.byteCells_length, size_of]; omega) (by omega)).mono ?_
  rintro e w' ⟨rfl, h1, h2, h3⟩
  refine ⟨rfl, ?_, h2, h3⟩
  have e1 : Lib.byteCells (l ++ s) = Lib.byteCells l ++ Lib.strCells ⟨s.toArray⟩ := by simp [Lib.byteCells, Lib.strCells]
  unfold BIs
  rw [e1]
  exact .inr h1
theorem b_len (B b : Nat) (l : List UInt8) (w : World) (h : BIs B b l w) :
    Calls Tryz.prog 76 #[.pointer (some ⟨b, 0, none⟩)] w fun e w' => e = .returned (.int .i64 l.length) ∧ w = w' := by
  refine (Any.Builder_Len_f Tryz.lays170 B b (Lib.byteCells l) w h).mono ?_
  rintro e w' ⟨rfl, h1⟩
  exact ⟨by rw [Lib.byteCells_length], h1.symm⟩
theorem b_string (B b : Nat) (l : List UInt8) (w : World) (h : BIs B b l w) (hB : B ≤ b) :
    Calls Tryz.prog 77 #[.pointer (some ⟨b, 0, none⟩)] w fun e w' => e = .returned (.string ⟨l.toArray⟩) ∧ Below B w w' := by
  have := h.lt
  refine (Any.Builder_String_any_k Tryz.lays169 Tryz.Builder_Extra_169 B b l w h (by omega)).mono ?_
  rintro e w' ⟨rfl, h1, h2, h3⟩
  exact ⟨rfl, h2⟩
end Go.Proofs.YtjghijeblddijaaGreatDoor
set_option linter.unusedVariables false
namespace Go.Proofs.YtjghijeblddijaaGreatDoor
open Go.RowKit

@[irreducible] def jk (k : Int) : Bool := k == 2 || k == 3 || k == 4 || k == 5
theorem jk_eq (x : Sp.Sym) : jk x.kind = Sp.joins x := by unfold jk; rfl
theorem joins_k (k : Int) (t : ByteArray) (p : Int) (w : World) :
    Calls Tryz.prog 73 #[.agg #[.int .i64 k, .string t, .int .i64 p]] w fun e w' => e = .returned (.bool (jk k)) ∧ Below w.heap.size w w' := by
  have h := joins_c ⟨k, bs t, p⟩ w
  unfold symV at h
  dsimp only at h
  rw [of_bs, ← jk_eq] at h
  exact h
def prev (l : List Sp.Sym) : Nat → Option Sp.Sym
  | 0 => none
  | k + 1 => l[k]?
def Small (l : List Sp.Sym) : Prop := ∀ x ∈ l, x.text.length ≤ 100000 ∧ (Sp.check x = 0 → ∀ c ∈ x.text, c.toNat < 128)
def TextPost (w : World) (r : List UInt8 × Int) (e : Ending) (w' : World) : Prop := e = .returned (.tuple #[.string ⟨r.1.toArray⟩, .int .i64 r.2]) ∧ Below w.heap.size w w'
theorem written_len (x : Sp.Sym) (r : Nat) (h : x.text.length ≤ 100000) : (Sp.written x r).length ≤ 200002 := by
  have h2 := Sp.dq_len x.text
  unfold Sp.written Sp.asText
  split
  · split
    · omega
    · split <;> simp <;> omega
  · split
    · simp; omega
    · split
      · simp; omega
      · omega
theorem box_kept {b kb : Nat} {cs : Array Value} {w w' : World} (h : Others b w w') (hne : kb ≠ b) (hk : w.heap[kb]? = some (.cells cs 28 (0, 0))) : w'.heap[kb]? = some (.cells cs 28 (0, 0)) :=
  h kb _ hk (fun e => hne (Option.some.inj e)) (fun c fz e => by injection e with _ e2 _; exact absurd e2 (by decide))

set_option maxRecDepth 100000 in
set_option maxHeartbeats 16000000 in
theorem text_none (g o c : Nat) (l : List Sp.Sym) (hl : l.length ≤ 100000) (hlc : l.length ≤ c) (hs : Small l) (r : Nat) (hr : r ≤ 2) (w : World) (H : Row w g o l) (hS : SignsIn w) (hM : MaxIn w) (hi : idx (fun x => x.kind == 0) l = -1) :
    Calls Tryz.prog 38 #[.slice (some ⟨g, o, none⟩) l.length c, .int .i64 (r : Int)] w (TextPost w (Sp.text l (r : Int))) := by
  have hup : Sp.upto l = l := by
    unfold Sp.upto
    unfold idx at hi
    cases hf : l.findIdx? (fun x => x.kind == 0) with
    | none => rfl
    | some i => rw [hf] at hi; simp only at hi; omega
  have Hi := Lib.hid hi
  have Hs := Lib.hid hs
  clear hi hs
  have hT : Sp.text l (r : Int) = Sp.finish (Sp.body r none (l)) := by
    unfold Sp.text
    rw [if_neg (by omega), hup, Int.toNat_natCast]
  generalize hX : Sp.body r none (l) = X at hT
  have HT := Lib.hid hT
  have HX := Lib.hid hX
  have hTT := text1_tells w
  have e1 : decide ((r : Int) < 0) = false := by simp
  have e2 : decide ((2 : Int) < (r : Int)) = false := by simp; omega
  have e3 : decide (2 < r) = false := by simp; omega
  clear hT hX hup
  go_enter Tryz.func38, Tryz.ntmps38
  go_wp2_with (first
    | (go_at_call 21; refine (indexFunc_c g o c l (by omega) _ _ _ w H hTT).mono ?_; rw [Hi.out]; rintro e w1 ⟨rfl, hb1⟩; have hS1 := hS.later hb1; have hM1 := hM.later hb1; have H1 := H.later hb1))
  have hB0 : Below w1.heap.size w1 (w1.alloc (.cells #[.pointer none, .slice none 0 0] 106)) := below_alloc0 (Below.refl _ _) _
  have hI0 := BIs.fresh w1
  generalize (w1.alloc (.cells #[.pointer none, .slice none 0 0] 106)) = W0 at *
  go_loopw [38] (fun t wr => ∃ (k : Nat) (bt : List UInt8), k ≤ l.length ∧ t = .int .i64 k ∧ Below w1.heap.size w1 wr ∧ BIs w1.heap.size w1.heap.size bt wr ∧ bt.length ≤ k * 200010 ∧ Hid (X = Sp.glue bt (Sp.body r (prev (l) k) ((l).drop k)))) (fun t _ => l.length - (intOf t).toNat)
  case atStart => exact ⟨0, [], by omega, rfl, hB0, hI0, by simp, Lib.hid (by rw [Sp.glue_nil, List.drop_zero]; exact HX.out.symm)⟩
  case round =>
    obtain ⟨k, bt, hk, rfl, hB, hI, hbt, hh⟩ := hrel
    clear hB0 hI0
    by_cases hlt : k < l.length
    · obtain ⟨x, hx⟩ : ∃ x, (l)[k]? = some x := ⟨(l)[k]'(by rw [show l.length = l.length from rfl]; exact hlt), List.getElem?_eq_getElem (by rw [show l.length = l.length from rfl]; exact hlt)⟩
      obtain ⟨q0, q1, q2⟩ := (H1.later hB) k x hx
      have hxs := Hs.out x (List.mem_of_getElem? hx)
      have hdr : (l).drop k = x :: (l).drop (k + 1) := by
        obtain ⟨hlt', he⟩ := List.getElem?_eq_some_iff.1 hx
        rw [← he]; exact List.drop_eq_getElem_cons hlt'
      have hblt := hI.lt
      have hB2 : Below w1.heap.size w1 (wr.alloc (.cells #[.int .i64 x.kind, .string ⟨x.text.toArray⟩, .int .i64 x.pos] 28)) := bjoin hB hB.size (below_alloc0 (Below.refl _ _) _)
      have hI2 := hI.later (below_alloc0 (Below.refl _ wr) (.cells #[.int .i64 x.kind, .string ⟨x.text.toArray⟩, .int .i64 x.pos] 28))
      have L2 := heap_alloc_new wr (.cells #[.int .i64 x.kind, .string ⟨x.text.toArray⟩, .int .i64 x.pos] 28)
      have hne : wr.heap.size ≠ w1.heap.size := by omega
      have hwl := written_len x r hxs.1
      have hck := check_any x hxs.1 trivial _ (hS1.later hB2) (hM1.later hB2)
      have hwr := fun (h0 : Sp.check x = 0) W hM => written_c x r hr hxs.1 (hxs.2 h0) W hM
      have d0 := cell_of_blk L2 0
      have d1 := cell_of_blk L2 1
      have d2 := cell_of_blk L2 2
      have Hck := Lib.hid hck
      have Hwr := Lib.hid hwr
      have Hx := Lib.hid hx
      have Hdr := Lib.hid hdr
      have Hne := Lib.hid hne
      have Hbt := Lib.hid hbt
      have Hbl : Hid (bt.length ≤ 90000000000) := Lib.hid (by omega)
      have tokC : Nat := 0
      clear hck hwr hx hxs hdr hne hbt
      by_cases hc : Sp.check x = 0
      · have Hc := Lib.hid hc
        clear hc
        have hbody := Sp.body_cons r (prev (l) k) x ((l).drop (k + 1)) Hc.out
        generalize Sp.written x r = wt at hbody hwl Hwr
        have Hbody := Lib.hid hbody
        have HI2 := Lib.hid hI2
        have HL2 := Lib.hid L2
        have Hwl := Lib.hid hwl
        have Hblt := Lib.hid hblt
        have HI := Lib.hid hI
        clear hbody hI2 L2 hwl hblt hI
        cases k with
        | zero =>
          rw [Nat.zero_mul, Nat.add_zero] at q0 q1 q2
          go_wp2_with (first
            | (go_at_call 36; have tk := tokC; clear tokC; refine Hck.out.mono ?_; rw [Hc.out]; rintro e w3 ⟨rfl, hbx⟩; have hBc := bjoin hB2 hB2.size hbx; have Lc := (hbx.block _ (lt_of_blk HL2.out)).trans HL2.out; have Ic := HI2.out.later hbx; have tokB : Nat := 0; clear hbx; clear d0 d1 d2; have d0 := cell_of_blk Lc 0; have d1 := cell_of_blk Lc 1; have d2 := cell_of_blk Lc 2)
            | (go_at_call 75; have tk := tokB; clear tokB; refine (Hwr.out Hc.out _ (hM1.later hBc)).mono ?_; rintro e w8 ⟨rfl, hbx⟩; replace Ic := Ic.later hbx; replace hBc := bjoin hBc hBc.size hbx; have tokS : Nat := 0; clear hbx; clear Lc d0 d1 d2)
            | (go_at_call 74; have tk := tokS; clear tokS; refine (bw_str _ _ (bt) (wt) _ rfl _ Ic (by (try simp only [List.length_append, List.length_cons, List.length_nil]); have := Hbl.out; omega) (by have := Hwl.out; omega) (Nat.le_refl _)).mono ?_; rintro e w9 ⟨rfl, I', hbx, hox⟩; replace Ic := I'; replace hBc := hBc.trans hbx; clear hbx hox))
          go_roundw
          case rel =>
            refine ⟨1, bt ++ wt, by omega, by go_num, hBc, Ic, by rw [List.length_append]; have := Hbt.out; have := Hwl.out; omega, Lib.hid ?_⟩
            rw [hh.out, Hdr.out, Hbody.out, Sp.glue_glue]
            show Sp.glue (bt ++ ([] ++ wt)) (Sp.body r (some x) _) = Sp.glue (bt ++ wt) (Sp.body r ((l)[0]?) _)
            rw [List.nil_append, Hx.out]
          case measure => simp [intOf] <;> omega
        | succ j =>
          obtain ⟨y, hy⟩ : ∃ y, (l)[j]? = some y := ⟨(l)[j]'(by rw [show l.length = l.length from rfl]; omega), List.getElem?_eq_getElem (by rw [show l.length = l.length from rfl]; omega)⟩
          have Hy := Lib.hid hy
          clear hy
          cases hjy : Sp.joins y with
          | false =>
            have Hjy := Lib.hid hjy
            clear hjy
            go_wp2_with (first
              | (go_at_call 36; have tk := tokC; clear tokC; refine Hck.out.mono ?_; rw [Hc.out]; rintro e w3 ⟨rfl, hbx⟩; have hBc := bjoin hB2 hB2.size hbx; have Lc := (hbx.block _ (lt_of_blk HL2.out)).trans HL2.out; have Ic := HI2.out.later hbx; have tokB : Nat := 0; clear hbx; clear d0 d1 d2; have d0 := cell_of_blk Lc 0; have d1 := cell_of_blk Lc 1; have d2 := cell_of_blk Lc 2)
              | (go_at_call 72; have tk := tokB; clear tokB; refine (bw_byte _ _ bt 32 _ rfl _ Ic (by have := Hbl.out; omega) (Nat.le_refl _)).mono ?_; rintro e w4 ⟨rfl, I', hbx, hox⟩; replace Ic := I'; clear I'; replace hBc := hBc.trans hbx; replace Lc := box_kept hox Hne.out Lc; have tokY : Nat := 0; clear hbx hox; clear d0 d1 d2; have d0 := cell_of_blk Lc 0; have d1 := cell_of_blk Lc 1; have d2 := cell_of_blk Lc 2; obtain ⟨p0, p1, p2⟩ := (H1.later hBc) j y Hy.out)
              | (go_at_call 73; have tk := tokY; clear tokY; refine (joins_k _ _ _ _).mono ?_; rw [jk_eq y, Hjy.out]; rintro e w5 ⟨rfl, hbx⟩; replace Ic := Ic.later hbx; replace hBc := bjoin hBc hBc.size hbx; replace Lc := (hbx.block _ (lt_of_blk Lc)).trans Lc; have tokX : Nat := 0; clear hbx; clear d0 d1 d2; have d0 := cell_of_blk Lc 0; have d1 := cell_of_blk Lc 1; have d2 := cell_of_blk Lc 2)
              | (go_at_call 75; have tk := tokX; clear tokX; refine (Hwr.out Hc.out _ (hM1.later hBc)).mono ?_; rintro e w8 ⟨rfl, hbx⟩; replace Ic := Ic.later hbx; replace hBc := bjoin hBc hBc.size hbx; have tokS : Nat := 0; clear hbx; clear Lc d0 d1 d2)
              | (go_at_call 74; have tk := tokS; clear tokS; refine (bw_str _ _ (bt ++ [32]) (wt) _ rfl _ Ic (by (try simp only [List.length_append, List.length_cons, List.length_nil]); have := Hbl.out; omega) (by have := Hwl.out; omega) (Nat.le_refl _)).mono ?_; rintro e w9 ⟨rfl, I', hbx, hox⟩; replace Ic := I'; replace hBc := hBc.trans hbx; clear hbx hox))
            go_roundw
            case rel =>
              refine ⟨j + 1 + 1, bt ++ [32] ++ wt, by omega, by go_num, hBc, Ic, by simp only [List.length_append, List.length_cons, List.length_nil]; have := Hbt.out; have := Hwl.out; omega, Lib.hid ?_⟩
              rw [hh.out, Hdr.out, Hbody.out, Sp.glue_glue]
              have es : Sp.sep (prev (l) (j + 1)) x = [32] := by
                rw [show prev (l) (j + 1) = some y from Hy.out]
                unfold Sp.sep
                dsimp only
                rw [Hjy.out, Bool.false_and]
                rfl
              rw [es, show prev (l) (j + 1 + 1) = some x from Hx.out]
              congr 1
              simp only [List.append_assoc, List.cons_append, List.nil_append]
            case measure => simp [intOf] <;> omega
          | true =>
            cases hjx : Sp.joins x with
            | false =>
              have Hjy := Lib.hid hjy
              have Hjx := Lib.hid hjx
              clear hjy hjx
              go_wp2_with (first
                | (go_at_call 36; have tk := tokC; clear tokC; refine Hck.out.mono ?_; rw [Hc.out]; rintro e w3 ⟨rfl, hbx⟩; have hBc := bjoin hB2 hB2.size hbx; have Lc := (hbx.block _ (lt_of_blk HL2.out)).trans HL2.out; have Ic := HI2.out.later hbx; have tokB : Nat := 0; clear hbx; clear d0 d1 d2; have d0 := cell_of_blk Lc 0; have d1 := cell_of_blk Lc 1; have d2 := cell_of_blk Lc 2)
                | (go_at_call 72; have tk := tokB; clear tokB; refine (bw_byte _ _ bt 32 _ rfl _ Ic (by have := Hbl.out; omega) (Nat.le_refl _)).mono ?_; rintro e w4 ⟨rfl, I', hbx, hox⟩; replace Ic := I'; clear I'; replace hBc := hBc.trans hbx; replace Lc := box_kept hox Hne.out Lc; have tokY : Nat := 0; clear hbx hox; clear d0 d1 d2; have d0 := cell_of_blk Lc 0; have d1 := cell_of_blk Lc 1; have d2 := cell_of_blk Lc 2; obtain ⟨p0, p1, p2⟩ := (H1.later hBc) j y Hy.out)
                | (go_at_call 73; have tk := tokY; clear tokY; refine (joins_k _ _ _ _).mono ?_; rw [jk_eq y, Hjy.out]; rintro e w5 ⟨rfl, hbx⟩; replace Ic := Ic.later hbx; replace hBc := bjoin hBc hBc.size hbx; replace Lc := (hbx.block _ (lt_of_blk Lc)).trans Lc; have tokX : Nat := 0; clear hbx; clear d0 d1 d2; have d0 := cell_of_blk Lc 0; have d1 := cell_of_blk Lc 1; have d2 := cell_of_blk Lc 2)
                | (go_at_call 73; have tk := tokX; clear tokX; refine (joins_k _ _ _ _).mono ?_; rw [jk_eq x, Hjx.out]; rintro e w5 ⟨rfl, hbx⟩; replace Ic := Ic.later hbx; replace hBc := bjoin hBc hBc.size hbx; replace Lc := (hbx.block _ (lt_of_blk Lc)).trans Lc; have tokW : Nat := 0; clear hbx; clear d0 d1 d2; have d0 := cell_of_blk Lc 0; have d1 := cell_of_blk Lc 1; have d2 := cell_of_blk Lc 2)
                | (go_at_call 75; have tk := tokW; clear tokW; refine (Hwr.out Hc.out _ (hM1.later hBc)).mono ?_; rintro e w8 ⟨rfl, hbx⟩; replace Ic := Ic.later hbx; replace hBc := bjoin hBc hBc.size hbx; have tokS : Nat := 0; clear hbx; clear Lc d0 d1 d2)
                | (go_at_call 74; have tk := tokS; clear tokS; refine (bw_str _ _ (bt ++ [32]) (wt) _ rfl _ Ic (by (try simp only [List.length_append, List.length_cons, List.length_nil]); have := Hbl.out; omega) (by have := Hwl.out; omega) (Nat.le_refl _)).mono ?_; rintro e w9 ⟨rfl, I', hbx, hox⟩; replace Ic := I'; replace hBc := hBc.trans hbx; clear hbx hox))
              go_roundw
              case rel =>
                refine ⟨j + 1 + 1, bt ++ [32] ++ wt, by omega, by go_num, hBc, Ic, by simp only [List.length_append, List.length_cons, List.length_nil]; have := Hbt.out; have := Hwl.out; omega, Lib.hid ?_⟩
                rw [hh.out, Hdr.out, Hbody.out, Sp.glue_glue]
                have es : Sp.sep (prev (l) (j + 1)) x = [32] := by
                  rw [show prev (l) (j + 1) = some y from Hy.out]
                  unfold Sp.sep
                  dsimp only
                  rw [Hjy.out, Hjx.out]
                  rfl
                rw [es, show prev (l) (j + 1 + 1) = some x from Hx.out]
                congr 1
                simp only [List.append_assoc, List.cons_append, List.nil_append]
              case measure => simp [intOf] <;> omega
            | true =>
              have Hjy := Lib.hid hjy
              have Hjx := Lib.hid hjx
              clear hjy hjx
              go_wp2_with (first
                | (go_at_call 36; have tk := tokC; clear tokC; refine Hck.out.mono ?_; rw [Hc.out]; rintro e w3 ⟨rfl, hbx⟩; have hBc := bjoin hB2 hB2.size hbx; have Lc := (hbx.block _ (lt_of_blk HL2.out)).trans HL2.out; have Ic := HI2.out.later hbx; have tokB : Nat := 0; clear hbx; clear d0 d1 d2; have d0 := cell_of_blk Lc 0; have d1 := cell_of_blk Lc 1; have d2 := cell_of_blk Lc 2)
                | (go_at_call 72; have tk := tokB; clear tokB; refine (bw_byte _ _ bt 32 _ rfl _ Ic (by have := Hbl.out; omega) (Nat.le_refl _)).mono ?_; rintro e w4 ⟨rfl, I', hbx, hox⟩; replace Ic := I'; clear I'; replace hBc := hBc.trans hbx; replace Lc := box_kept hox Hne.out Lc; have tokY : Nat := 0; clear hbx hox; clear d0 d1 d2; have d0 := cell_of_blk Lc 0; have d1 := cell_of_blk Lc 1; have d2 := cell_of_blk Lc 2; obtain ⟨p0, p1, p2⟩ := (H1.later hBc) j y Hy.out)
                | (go_at_call 73; have tk := tokY; clear tokY; refine (joins_k _ _ _ _).mono ?_; rw [jk_eq y, Hjy.out]; rintro e w5 ⟨rfl, hbx⟩; replace Ic := Ic.later hbx; replace hBc := bjoin hBc hBc.size hbx; replace Lc := (hbx.block _ (lt_of_blk Lc)).trans Lc; have tokX : Nat := 0; clear hbx; clear d0 d1 d2; have d0 := cell_of_blk Lc 0; have d1 := cell_of_blk Lc 1; have d2 := cell_of_blk Lc 2)
                | (go_at_call 73; have tk := tokX; clear tokX; refine (joins_k _ _ _ _).mono ?_; rw [jk_eq x, Hjx.out]; rintro e w5 ⟨rfl, hbx⟩; replace Ic := Ic.later hbx; replace hBc := bjoin hBc hBc.size hbx; replace Lc := (hbx.block _ (lt_of_blk Lc)).trans Lc; have tokH : Nat := 0; clear hbx; clear d0 d1 d2; have d0 := cell_of_blk Lc 0; have d1 := cell_of_blk Lc 1; have d2 := cell_of_blk Lc 2)
                | (go_at_call 74; have tk := tokH; clear tokH; refine (bw_str _ _ (bt ++ [32]) [35, 35, 32] _ rfl _ Ic (by rw [List.length_append]; have := Hbl.out; simp; omega) (by decide) (Nat.le_refl _)).mono ?_; rintro e w7 ⟨rfl, I', hbx, hox⟩; replace Ic := I'; clear I'; replace hBc := hBc.trans hbx; replace Lc := box_kept hox Hne.out Lc; have tokW : Nat := 0; clear hbx hox; clear d0 d1 d2; have d0 := cell_of_blk Lc 0; have d1 := cell_of_blk Lc 1; have d2 := cell_of_blk Lc 2)
                | (go_at_call 75; have tk := tokW; clear tokW; refine (Hwr.out Hc.out _ (hM1.later hBc)).mono ?_; rintro e w8 ⟨rfl, hbx⟩; replace Ic := Ic.later hbx; replace hBc := bjoin hBc hBc.size hbx; have tokS : Nat := 0; clear hbx; clear Lc d0 d1 d2)
                | (go_at_call 74; have tk := tokS; clear tokS; refine (bw_str _ _ (bt ++ [32] ++ [35, 35, 32]) (wt) _ rfl _ Ic (by (try simp only [List.length_append, List.length_cons, List.length_nil]); have := Hbl.out; omega) (by have := Hwl.out; omega) (Nat.le_refl _)).mono ?_; rintro e w9 ⟨rfl, I', hbx, hox⟩; replace Ic := I'; replace hBc := hBc.trans hbx; clear hbx hox))
              go_roundw
              case rel =>
                refine ⟨j + 1 + 1, bt ++ [32] ++ [35, 35, 32] ++ wt, by omega, by go_num, hBc, Ic, by simp only [List.length_append, List.length_cons, List.length_nil]; have := Hbt.out; have := Hwl.out; omega, Lib.hid ?_⟩
                rw [hh.out, Hdr.out, Hbody.out, Sp.glue_glue]
                have es : Sp.sep (prev (l) (j + 1)) x = [32, 35, 35, 32] := by
                  rw [show prev (l) (j + 1) = some y from Hy.out]
                  unfold Sp.sep
                  dsimp only
                  rw [Hjy.out, Hjx.out]
                  rfl
                rw [es, show prev (l) (j + 1 + 1) = some x from Hx.out]
                congr 1
                simp only [List.append_assoc, List.cons_append, List.nil_append]
              case measure => simp [intOf] <;> omega
      · have hc1 : (Sp.check x != 0) = true := by rw [bne_iff_ne]; exact hc
        have Hc := Lib.hid hc
        clear hc
        go_wp2_with (first
            | (go_at_call 36; refine Hck.out.mono ?_; rintro e w3 ⟨rfl, hb3⟩; have hB3 := bjoin hB2 hB2.size hb3))
        go_ret2
        have hfin : X = .error (Sp.check x) := by rw [hh.out, Hdr.out, Sp.body_bad _ _ _ _ Hc.out]; rfl
        rw [HT.out, hfin]
        exact ⟨rfl, (hb1.trans (hB3.mono hb1.size))⟩
    · have hfin : X = .ok bt := by
        rw [hh.out, List.drop_of_length_le (by rw [show l.length = l.length from rfl]; omega)]
        simp [Sp.body, Sp.glue]
      have Hfin := Lib.hid hfin
      clear hfin
      by_cases hbl : 65536 < bt.length
      · have hlen : decide (65536 < (bt.length : Int)) = true := by simp; omega
        go_wp2_with (first | (go_at_call 76; refine (b_len _ _ bt _ hI).mono ?_; rintro e w2 ⟨rfl, rfl⟩))
        go_ret2
        rw [HT.out, Hfin.out]
        refine ⟨?_, hb1.trans (hB.mono hb1.size)⟩
        unfold Sp.finish
        dsimp only
        rw [if_pos hbl]
        rfl
      · have hlen : decide (65536 < (bt.length : Int)) = false := by simp; omega
        go_wp2_with (first 
          | (go_at_call 76; refine (b_len _ _ bt _ hI).mono ?_; rintro e w2 ⟨rfl, rfl⟩)
          | (go_at_call 77; refine (b_string _ _ bt _ hI (Nat.le_refl _)).mono ?_; rintro e w3 ⟨rfl, hb3⟩))
        go_ret2
        rw [HT.out, Hfin.out]
        refine ⟨?_, hb1.trans ((hB.trans hb3).mono hb1.size)⟩
        unfold Sp.finish
        dsimp only
        rw [if_neg hbl]
        rfl
end Go.Proofs.YtjghijeblddijaaGreatDoor
set_option linter.unusedVariables false
namespace Go.Proofs.YtjghijeblddijaaGreatDoor
open Go.RowKit

set_option maxRecDepth 100000 in
set_option maxHeartbeats 16000000 in
theorem text_right (g o c : Nat) (l : List Sp.Sym) (hl : l.length ≤ 100000) (hlc : l.length ≤ c) (hs : Small l) (r : Nat) (hr : r ≤ 2) (w : World) (H : Row w g o l) (hS : SignsIn w) (hM : MaxIn w) (i : Nat) (z : Sp.Sym) (hi : idx (fun x => x.kind == 0) l = (i : Int)) (hz : l[i]? = some z) (hcz : Sp.check z = 0) :
    Calls Tryz.prog 38 #[.slice (some ⟨g, o, none⟩) l.length c, .int .i64 (r : Int)] w (TextPost w (Sp.text l (r : Int))) := by
  have hfi : l.findIdx? (fun x => x.kind == 0) = some i := by
    unfold idx at hi
    cases hf : l.findIdx? (fun x => x.kind == 0) with
    | none => rw [hf] at hi; simp only at hi; omega
    | some i' => rw [hf] at hi; simp only at hi; congr 1; omega
  have hup : Sp.upto l = l.take i := by
    unfold Sp.upto
    rw [hfi]
    dsimp only
    rw [hz]
    dsimp only
    rw [if_pos hcz]
  have hil : i < l.length := (List.getElem?_eq_some_iff.1 hz).1
  have hLlen : (l.take i).length = i := by rw [List.length_take]; omega
  obtain ⟨z0, z1, z2⟩ := H i z hz
  have hzs := hs z (List.mem_of_getElem? hz)
  have hsL : Small (l.take i) := fun x hx => hs x (List.mem_of_mem_take hx)
  have hck0 := fun W hS hM => check_any z hzs.1 trivial W hS hM
  have HL := Lib.hid (H.take (i))
  have Hck0 := Lib.hid hck0
  have Hi := Lib.hid hi
  have Hs := Lib.hid hsL
  have Hz := Lib.hid hz
  have Hcz := Lib.hid hcz
  clear hi hs hfi hz hzs hsL hck0 hcz
  have hT : Sp.text l (r : Int) = Sp.finish (Sp.body r none (l.take i)) := by
    unfold Sp.text
    rw [if_neg (by omega), hup, Int.toNat_natCast]
  generalize hX : Sp.body r none (l.take i) = X at hT
  have HT := Lib.hid hT
  have HX := Lib.hid hX
  have hTT := text1_tells w
  have e1 : decide ((r : Int) < 0) = false := by simp
  have e2 : decide ((2 : Int) < (r : Int)) = false := by simp; omega
  have e3 : decide (2 < r) = false := by simp; omega
  clear hT hX hup
  go_enter Tryz.func38, Tryz.ntmps38
  go_wp2_with (first
    | (go_at_call 21; refine (indexFunc_c g o c l (by omega) _ _ _ w H hTT).mono ?_; rw [Hi.out]; rintro e w0 ⟨rfl, hb0⟩; have hS0 := hS.later hb0; have hM0 := hM.later hb0; obtain ⟨y0, y1, y2⟩ := (H.later hb0) i z Hz.out)
    | (go_at_call 36; refine (Hck0.out _ hS0 hM0).mono ?_; rw [Hcz.out]; rintro e w1 ⟨rfl, hb1'⟩; have hb1 := bjoin hb0 hb0.size hb1'; have hS1 := hS.later hb1; have hM1 := hM.later hb1; have H1 := HL.out.later hb1))
  have hB0 : Below w1.heap.size w1 (w1.alloc (.cells #[.pointer none, .slice none 0 0] 106)) := below_alloc0 (Below.refl _ _) _
  have hI0 := BIs.fresh w1
  generalize (w1.alloc (.cells #[.pointer none, .slice none 0 0] 106)) = W0 at *
  go_loopw [38] (fun t wr => ∃ (k : Nat) (bt : List UInt8), k ≤ i ∧ t = .int .i64 k ∧ Below w1.heap.size w1 wr ∧ BIs w1.heap.size w1.heap.size bt wr ∧ bt.length ≤ k * 200010 ∧ Hid (X = Sp.glue bt (Sp.body r (prev (l.take i) k) ((l.take i).drop k)))) (fun t _ => i - (intOf t).toNat)
  case atStart => exact ⟨0, [], by omega, rfl, hB0, hI0, by simp, Lib.hid (by rw [Sp.glue_nil, List.drop_zero]; exact HX.out.symm)⟩
  case round =>
    obtain ⟨k, bt, hk, rfl, hB, hI, hbt, hh⟩ := hrel
    clear hB0 hI0
    by_cases hlt : k < i
    · obtain ⟨x, hx⟩ : ∃ x, (l.take i)[k]? = some x := ⟨(l.take i)[k]'(by rw [hLlen]; exact hlt), List.getElem?_eq_getElem (by rw [hLlen]; exact hlt)⟩
      obtain ⟨q0, q1, q2⟩ := (H1.later hB) k x hx
      have hxs := Hs.out x (List.mem_of_getElem? hx)
      have hdr : (l.take i).drop k = x :: (l.take i).drop (k + 1) := by
        obtain ⟨hlt', he⟩ := List.getElem?_eq_some_iff.1 hx
        rw [← he]; exact List.drop_eq_getElem_cons hlt'
      have hblt := hI.lt
      have hB2 : Below w1.heap.size w1 (wr.alloc (.cells #[.int .i64 x.kind, .string ⟨x.text.toArray⟩, .int .i64 x.pos] 28)) := bjoin hB hB.size (below_alloc0 (Below.refl _ _) _)
      have hI2 := hI.later (below_alloc0 (Below.refl _ wr) (.cells #[.int .i64 x.kind, .string ⟨x.text.toArray⟩, .int .i64 x.pos] 28))
      have L2 := heap_alloc_new wr (.cells #[.int .i64 x.kind, .string ⟨x.text.toArray⟩, .int .i64 x.pos] 28)
      have hne : wr.heap.size ≠ w1.heap.size := by omega
      have hwl := written_len x r hxs.1
      have hck := check_any x hxs.1 trivial _ (hS1.later hB2) (hM1.later hB2)
      have hwr := fun (h0 : Sp.check x = 0) W hM => written_c x r hr hxs.1 (hxs.2 h0) W hM
      have d0 := cell_of_blk L2 0
      have d1 := cell_of_blk L2 1
      have d2 := cell_of_blk L2 2
      have Hck := Lib.hid hck
      have Hwr := Lib.hid hwr
      have Hx := Lib.hid hx
      have Hdr := Lib.hid hdr
      have Hne := Lib.hid hne
      have Hbt := Lib.hid hbt
      have Hbl : Hid (bt.length ≤ 90000000000) := Lib.hid (by omega)
      have tokC : Nat := 0
      clear hck hwr hx hxs hdr hne hbt
      by_cases hc : Sp.check x = 0
      · have Hc := Lib.hid hc
        clear hc
        have hbody := Sp.body_cons r (prev (l.take i) k) x ((l.take i).drop (k + 1)) Hc.out
        generalize Sp.written x r = wt at hbody hwl Hwr
        have Hbody := Lib.hid hbody
        have HI2 := Lib.hid hI2
        have HL2 := Lib.hid L2
        have Hwl := Lib.hid hwl
        have Hblt := Lib.hid hblt
        have HI := Lib.hid hI
        clear hbody hI2 L2 hwl hblt hI
        cases k with
        | zero =>
          rw [Nat.zero_mul, Nat.add_zero] at q0 q1 q2
          go_wp2_with (first
            | (go_at_call 36; have tk := tokC; clear tokC; refine Hck.out.mono ?_; rw [Hc.out]; rintro e w3 ⟨rfl, hbx⟩; have hBc := bjoin hB2 hB2.size hbx; have Lc := (hbx.block _ (lt_of_blk HL2.out)).trans HL2.out; have Ic := HI2.out.later hbx; have tokB : Nat := 0; clear hbx; clear d0 d1 d2; have d0 := cell_of_blk Lc 0; have d1 := cell_of_blk Lc 1; have d2 := cell_of_blk Lc 2)
            | (go_at_call 75; have tk := tokB; clear tokB; refine (Hwr.out Hc.out _ (hM1.later hBc)).mono ?_; rintro e w8 ⟨rfl, hbx⟩; replace Ic := Ic.later hbx; replace hBc := bjoin hBc hBc.size hbx; have tokS : Nat := 0; clear hbx; clear Lc d0 d1 d2)
            | (go_at_call 74; have tk := tokS; clear tokS; refine (bw_str _ _ (bt) (wt) _ rfl _ Ic (by (try simp only [List.length_append, List.length_cons, List.length_nil]); have := Hbl.out; omega) (by have := Hwl.out; omega) (Nat.le_refl _)).mono ?_; rintro e w9 ⟨rfl, I', hbx, hox⟩; replace Ic := I'; replace hBc := hBc.trans hbx; clear hbx hox))
          go_roundw
          case rel =>
            refine ⟨1, bt ++ wt, by omega, by go_num, hBc, Ic, by rw [List.length_append]; have := Hbt.out; have := Hwl.out; omega, Lib.hid ?_⟩
            rw [hh.out, Hdr.out, Hbody.out, Sp.glue_glue]
            show Sp.glue (bt ++ ([] ++ wt)) (Sp.body r (some x) _) = Sp.glue (bt ++ wt) (Sp.body r ((l.take i)[0]?) _)
            rw [List.nil_append, Hx.out]
          case measure => simp [intOf] <;> omega
        | succ j =>
          obtain ⟨y, hy⟩ : ∃ y, (l.take i)[j]? = some y := ⟨(l.take i)[j]'(by rw [hLlen]; omega), List.getElem?_eq_getElem (by rw [hLlen]; omega)⟩
          have Hy := Lib.hid hy
          clear hy
          cases hjy : Sp.joins y with
          | false =>
            have Hjy := Lib.hid hjy
            clear hjy
            go_wp2_with (first
              | (go_at_call 36; have tk := tokC; clear tokC; refine Hck.out.mono ?_; rw [Hc.out]; rintro e w3 ⟨rfl, hbx⟩; have hBc := bjoin hB2 hB2.size hbx; have Lc := (hbx.block _ (lt_of_blk HL2.out)).trans HL2.out; have Ic := HI2.out.later hbx; have tokB : Nat := 0; clear hbx; clear d0 d1 d2; have d0 := cell_of_blk Lc 0; have d1 := cell_of_blk Lc 1; have d2 := cell_of_blk Lc 2)
              | (go_at_call 72; have tk := tokB; clear tokB; refine (bw_byte _ _ bt 32 _ rfl _ Ic (by have := Hbl.out; omega) (Nat.le_refl _)).mono ?_; rintro e w4 ⟨rfl, I', hbx, hox⟩; replace Ic := I'; clear I'; replace hBc := hBc.trans hbx; replace Lc := box_kept hox Hne.out Lc; have tokY : Nat := 0; clear hbx hox; clear d0 d1 d2; have d0 := cell_of_blk Lc 0; have d1 := cell_of_blk Lc 1; have d2 := cell_of_blk Lc 2; obtain ⟨p0, p1, p2⟩ := (H1.later hBc) j y Hy.out)
              | (go_at_call 73; have tk := tokY; clear tokY; refine (joins_k _ _ _ _).mono ?_; rw [jk_eq y, Hjy.out]; rintro e w5 ⟨rfl, hbx⟩; replace Ic := Ic.later hbx; replace hBc := bjoin hBc hBc.size hbx; replace Lc := (hbx.block _ (lt_of_blk Lc)).trans Lc; have tokX : Nat := 0; clear hbx; clear d0 d1 d2; have d0 := cell_of_blk Lc 0; have d1 := cell_of_blk Lc 1; have d2 := cell_of_blk Lc 2)
              | (go_at_call 75; have tk := tokX; clear tokX; refine (Hwr.out Hc.out _ (hM1.later hBc)).mono ?_; rintro e w8 ⟨rfl, hbx⟩; replace Ic := Ic.later hbx; replace hBc := bjoin hBc hBc.size hbx; have tokS : Nat := 0; clear hbx; clear Lc d0 d1 d2)
              | (go_at_call 74; have tk := tokS; clear tokS; refine (bw_str _ _ (bt ++ [32]) (wt) _ rfl _ Ic (by (try simp only [List.length_append, List.length_cons, List.length_nil]); have := Hbl.out; omega) (by have := Hwl.out; omega) (Nat.le_refl _)).mono ?_; rintro e w9 ⟨rfl, I', hbx, hox⟩; replace Ic := I'; replace hBc := hBc.trans hbx; clear hbx hox))
            go_roundw
            case rel =>
              refine ⟨j + 1 + 1, bt ++ [32] ++ wt, by omega, by go_num, hBc, Ic, by simp only [List.length_append, List.length_cons, List.length_nil]; have := Hbt.out; have := Hwl.out; omega, Lib.hid ?_⟩
              rw [hh.out, Hdr.out, Hbody.out, Sp.glue_glue]
              have es : Sp.sep (prev (l.take i) (j + 1)) x = [32] := by
                rw [show prev (l.take i) (j + 1) = some y from Hy.out]
                unfold Sp.sep
                dsimp only
                rw [Hjy.out, Bool.false_and]
                rfl
              rw [es, show prev (l.take i) (j + 1 + 1) = some x from Hx.out]
              congr 1
              simp only [List.append_assoc, List.cons_append, List.nil_append]
            case measure => simp [intOf] <;> omega
          | true =>
            cases hjx : Sp.joins x with
            | false =>
              have Hjy := Lib.hid hjy
              have Hjx := Lib.hid hjx
              clear hjy hjx
              go_wp2_with (first
                | (go_at_call 36; have tk := tokC; clear tokC; refine Hck.out.mono ?_; rw [Hc.out]; rintro e w3 ⟨rfl, hbx⟩; have hBc := bjoin hB2 hB2.size hbx; have Lc := (hbx.block _ (lt_of_blk HL2.out)).trans HL2.out; have Ic := HI2.out.later hbx; have tokB : Nat := 0; clear hbx; clear d0 d1 d2; have d0 := cell_of_blk Lc 0; have d1 := cell_of_blk Lc 1; have d2 := cell_of_blk Lc 2)
                | (go_at_call 72; have tk := tokB; clear tokB; refine (bw_byte _ _ bt 32 _ rfl _ Ic (by have := Hbl.out; omega) (Nat.le_refl _)).mono ?_; rintro e w4 ⟨rfl, I', hbx, hox⟩; replace Ic := I'; clear I'; replace hBc := hBc.trans hbx; replace Lc := box_kept hox Hne.out Lc; have tokY : Nat := 0; clear hbx hox; clear d0 d1 d2; have d0 := cell_of_blk Lc 0; have d1 := cell_of_blk Lc 1; have d2 := cell_of_blk Lc 2; obtain ⟨p0, p1, p2⟩ := (H1.later hBc) j y Hy.out)
                | (go_at_call 73; have tk := tokY; clear tokY; refine (joins_k _ _ _ _).mono ?_; rw [jk_eq y, Hjy.out]; rintro e w5 ⟨rfl, hbx⟩; replace Ic := Ic.later hbx; replace hBc := bjoin hBc hBc.size hbx; replace Lc := (hbx.block _ (lt_of_blk Lc)).trans Lc; have tokX : Nat := 0; clear hbx; clear d0 d1 d2; have d0 := cell_of_blk Lc 0; have d1 := cell_of_blk Lc 1; have d2 := cell_of_blk Lc 2)
                | (go_at_call 73; have tk := tokX; clear tokX; refine (joins_k _ _ _ _).mono ?_; rw [jk_eq x, Hjx.out]; rintro e w5 ⟨rfl, hbx⟩; replace Ic := Ic.later hbx; replace hBc := bjoin hBc hBc.size hbx; replace Lc := (hbx.block _ (lt_of_blk Lc)).trans Lc; have tokW : Nat := 0; clear hbx; clear d0 d1 d2; have d0 := cell_of_blk Lc 0; have d1 := cell_of_blk Lc 1; have d2 := cell_of_blk Lc 2)
                | (go_at_call 75; have tk := tokW; clear tokW; refine (Hwr.out Hc.out _ (hM1.later hBc)).mono ?_; rintro e w8 ⟨rfl, hbx⟩; replace Ic := Ic.later hbx; replace hBc := bjoin hBc hBc.size hbx; have tokS : Nat := 0; clear hbx; clear Lc d0 d1 d2)
                | (go_at_call 74; have tk := tokS; clear tokS; refine (bw_str _ _ (bt ++ [32]) (wt) _ rfl _ Ic (by (try simp only [List.length_append, List.length_cons, List.length_nil]); have := Hbl.out; omega) (by have := Hwl.out; omega) (Nat.le_refl _)).mono ?_; rintro e w9 ⟨rfl, I', hbx, hox⟩; replace Ic := I'; replace hBc := hBc.trans hbx; clear hbx hox))
              go_roundw
              case rel =>
                refine ⟨j + 1 + 1, bt ++ [32] ++ wt, by omega, by go_num, hBc, Ic, by simp only [List.length_append, List.length_cons, List.length_nil]; have := Hbt.out; have := Hwl.out; omega, Lib.hid ?_⟩
                rw [hh.out, Hdr.out, Hbody.out, Sp.glue_glue]
                have es : Sp.sep (prev (l.take i) (j + 1)) x = [32] := by
                  rw [show prev (l.take i) (j + 1) = some y from Hy.out]
                  unfold Sp.sep
                  dsimp only
                  rw [Hjy.out, Hjx.out]
                  rfl
                rw [es, show prev (l.take i) (j + 1 + 1) = some x from Hx.out]
                congr 1
                simp only [List.append_assoc, List.cons_append, List.nil_append]
              case measure => simp [intOf] <;> omega
            | true =>
              have Hjy := Lib.hid hjy
              have Hjx := Lib.hid hjx
              clear hjy hjx
              go_wp2_with (first
                | (go_at_call 36; have tk := tokC; clear tokC; refine Hck.out.mono ?_; rw [Hc.out]; rintro e w3 ⟨rfl, hbx⟩; have hBc := bjoin hB2 hB2.size hbx; have Lc := (hbx.block _ (lt_of_blk HL2.out)).trans HL2.out; have Ic := HI2.out.later hbx; have tokB : Nat := 0; clear hbx; clear d0 d1 d2; have d0 := cell_of_blk Lc 0; have d1 := cell_of_blk Lc 1; have d2 := cell_of_blk Lc 2)
                | (go_at_call 72; have tk := tokB; clear tokB; refine (bw_byte _ _ bt 32 _ rfl _ Ic (by have := Hbl.out; omega) (Nat.le_refl _)).mono ?_; rintro e w4 ⟨rfl, I', hbx, hox⟩; replace Ic := I'; clear I'; replace hBc := hBc.trans hbx; replace Lc := box_kept hox Hne.out Lc; have tokY : Nat := 0; clear hbx hox; clear d0 d1 d2; have d0 := cell_of_blk Lc 0; have d1 := cell_of_blk Lc 1; have d2 := cell_of_blk Lc 2; obtain ⟨p0, p1, p2⟩ := (H1.later hBc) j y Hy.out)
                | (go_at_call 73; have tk := tokY; clear tokY; refine (joins_k _ _ _ _).mono ?_; rw [jk_eq y, Hjy.out]; rintro e w5 ⟨rfl, hbx⟩; replace Ic := Ic.later hbx; replace hBc := bjoin hBc hBc.size hbx; replace Lc := (hbx.block _ (lt_of_blk Lc)).trans Lc; have tokX : Nat := 0; clear hbx; clear d0 d1 d2; have d0 := cell_of_blk Lc 0; have d1 := cell_of_blk Lc 1; have d2 := cell_of_blk Lc 2)
                | (go_at_call 73; have tk := tokX; clear tokX; refine (joins_k _ _ _ _).mono ?_; rw [jk_eq x, Hjx.out]; rintro e w5 ⟨rfl, hbx⟩; replace Ic := Ic.later hbx; replace hBc := bjoin hBc hBc.size hbx; replace Lc := (hbx.block _ (lt_of_blk Lc)).trans Lc; have tokH : Nat := 0; clear hbx; clear d0 d1 d2; have d0 := cell_of_blk Lc 0; have d1 := cell_of_blk Lc 1; have d2 := cell_of_blk Lc 2)
                | (go_at_call 74; have tk := tokH; clear tokH; refine (bw_str _ _ (bt ++ [32]) [35, 35, 32] _ rfl _ Ic (by rw [List.length_append]; have := Hbl.out; simp; omega) (by decide) (Nat.le_refl _)).mono ?_; rintro e w7 ⟨rfl, I', hbx, hox⟩; replace Ic := I'; clear I'; replace hBc := hBc.trans hbx; replace Lc := box_kept hox Hne.out Lc; have tokW : Nat := 0; clear hbx hox; clear d0 d1 d2; have d0 := cell_of_blk Lc 0; have d1 := cell_of_blk Lc 1; have d2 := cell_of_blk Lc 2)
                | (go_at_call 75; have tk := tokW; clear tokW; refine (Hwr.out Hc.out _ (hM1.later hBc)).mono ?_; rintro e w8 ⟨rfl, hbx⟩; replace Ic := Ic.later hbx; replace hBc := bjoin hBc hBc.size hbx; have tokS : Nat := 0; clear hbx; clear Lc d0 d1 d2)
                | (go_at_call 74; have tk := tokS; clear tokS; refine (bw_str _ _ (bt ++ [32] ++ [35, 35, 32]) (wt) _ rfl _ Ic (by (try simp only [List.length_append, List.length_cons, List.length_nil]); have := Hbl.out; omega) (by have := Hwl.out; omega) (Nat.le_refl _)).mono ?_; rintro e w9 ⟨rfl, I', hbx, hox⟩; replace Ic := I'; replace hBc := hBc.trans hbx; clear hbx hox))
              go_roundw
              case rel =>
                refine ⟨j + 1 + 1, bt ++ [32] ++ [35, 35, 32] ++ wt, by omega, by go_num, hBc, Ic, by simp only [List.length_append, List.length_cons, List.length_nil]; have := Hbt.out; have := Hwl.out; omega, Lib.hid ?_⟩
                rw [hh.out, Hdr.out, Hbody.out, Sp.glue_glue]
                have es : Sp.sep (prev (l.take i) (j + 1)) x = [32, 35, 35, 32] := by
                  rw [show prev (l.take i) (j + 1) = some y from Hy.out]
                  unfold Sp.sep
                  dsimp only
                  rw [Hjy.out, Hjx.out]
                  rfl
                rw [es, show prev (l.take i) (j + 1 + 1) = some x from Hx.out]
                congr 1
                simp only [List.append_assoc, List.cons_append, List.nil_append]
              case measure => simp [intOf] <;> omega
      · have hc1 : (Sp.check x != 0) = true := by rw [bne_iff_ne]; exact hc
        have Hc := Lib.hid hc
        clear hc
        go_wp2_with (first
            | (go_at_call 36; refine Hck.out.mono ?_; rintro e w3 ⟨rfl, hb3⟩; have hB3 := bjoin hB2 hB2.size hb3))
        go_ret2
        have hfin : X = .error (Sp.check x) := by rw [hh.out, Hdr.out, Sp.body_bad _ _ _ _ Hc.out]; rfl
        rw [HT.out, hfin]
        exact ⟨rfl, (hb1.trans (hB3.mono hb1.size))⟩
    · have hfin : X = .ok bt := by
        rw [hh.out, List.drop_of_length_le (by rw [hLlen]; omega)]
        simp [Sp.body, Sp.glue]
      have Hfin := Lib.hid hfin
      clear hfin
      by_cases hbl : 65536 < bt.length
      · have hlen : decide (65536 < (bt.length : Int)) = true := by simp; omega
        go_wp2_with (first | (go_at_call 76; refine (b_len _ _ bt _ hI).mono ?_; rintro e w2 ⟨rfl, rfl⟩))
        go_ret2
        rw [HT.out, Hfin.out]
        refine ⟨?_, hb1.trans (hB.mono hb1.size)⟩
        unfold Sp.finish
        dsimp only
        rw [if_pos hbl]
        rfl
      · have hlen : decide (65536 < (bt.length : Int)) = false := by simp; omega
        go_wp2_with (first 
          | (go_at_call 76; refine (b_len _ _ bt _ hI).mono ?_; rintro e w2 ⟨rfl, rfl⟩)
          | (go_at_call 77; refine (b_string _ _ bt _ hI (Nat.le_refl _)).mono ?_; rintro e w3 ⟨rfl, hb3⟩))
        go_ret2
        rw [HT.out, Hfin.out]
        refine ⟨?_, hb1.trans ((hB.trans hb3).mono hb1.size)⟩
        unfold Sp.finish
        dsimp only
        rw [if_neg hbl]
        rfl
set_option maxRecDepth 100000 in
set_option maxHeartbeats 16000000 in
theorem text_wrong (g o c : Nat) (l : List Sp.Sym) (hl : l.length ≤ 100000) (hlc : l.length ≤ c) (hs : Small l) (r : Nat) (hr : r ≤ 2) (w : World) (H : Row w g o l) (hS : SignsIn w) (hM : MaxIn w) (i : Nat) (z : Sp.Sym) (hi : idx (fun x => x.kind == 0) l = (i : Int)) (hz : l[i]? = some z) (hcz : Sp.check z ≠ 0) :
    Calls Tryz.prog 38 #[.slice (some ⟨g, o, none⟩) l.length c, .int .i64 (r : Int)] w (TextPost w (Sp.text l (r : Int))) := by
  have hfi : l.findIdx? (fun x => x.kind == 0) = some i := by
    unfold idx at hi
    cases hf : l.findIdx? (fun x => x.kind == 0) with
    | none => rw [hf] at hi; simp only at hi; omega
    | some i' => rw [hf] at hi; simp only at hi; congr 1; omega
  have hup : Sp.upto l = l.take (i + 1) := by
    unfold Sp.upto
    rw [hfi]
    dsimp only
    rw [hz]
    dsimp only
    rw [if_neg hcz]
  have hil : i < l.length := (List.getElem?_eq_some_iff.1 hz).1
  have hLlen : (l.take (i + 1)).length = (i + 1) := by rw [List.length_take]; omega
  obtain ⟨z0, z1, z2⟩ := H i z hz
  have hzs := hs z (List.mem_of_getElem? hz)
  have hsL : Small (l.take (i + 1)) := fun x hx => hs x (List.mem_of_mem_take hx)
  have hck0 := fun W hS hM => check_any z hzs.1 trivial W hS hM
  have HL := Lib.hid (H.take ((i + 1)))
  have Hck0 := Lib.hid hck0
  have Hi := Lib.hid hi
  have Hs := Lib.hid hsL
  have Hz := Lib.hid hz
  have Hcz := Lib.hid hcz
  have hcz1 : (Sp.check z != 0) = true := by rw [bne_iff_ne]; exact hcz
  clear hi hs hfi hz hzs hsL hck0 hcz
  have hT : Sp.text l (r : Int) = Sp.finish (Sp.body r none (l.take (i + 1))) := by
    unfold Sp.text
    rw [if_neg (by omega), hup, Int.toNat_natCast]
  generalize hX : Sp.body r none (l.take (i + 1)) = X at hT
  have HT := Lib.hid hT
  have HX := Lib.hid hX
  have hTT := text1_tells w
  have e1 : decide ((r : Int) < 0) = false := by simp
  have e2 : decide ((2 : Int) < (r : Int)) = false := by simp; omega
  have e3 : decide (2 < r) = false := by simp; omega
  clear hT hX hup
  go_enter Tryz.func38, Tryz.ntmps38
  go_wp2_with (first
    | (go_at_call 21; refine (indexFunc_c g o c l (by omega) _ _ _ w H hTT).mono ?_; rw [Hi.out]; rintro e w0 ⟨rfl, hb0⟩; have hS0 := hS.later hb0; have hM0 := hM.later hb0; obtain ⟨y0, y1, y2⟩ := (H.later hb0) i z Hz.out)
    | (go_at_call 36; refine (Hck0.out _ hS0 hM0).mono ?_; rintro e w1 ⟨rfl, hb1'⟩; have hb1 := bjoin hb0 hb0.size hb1'; have hS1 := hS.later hb1; have hM1 := hM.later hb1; have H1 := HL.out.later hb1))
  have hB0 : Below w1.heap.size w1 (w1.alloc (.cells #[.pointer none, .slice none 0 0] 106)) := below_alloc0 (Below.refl _ _) _
  have hI0 := BIs.fresh w1
  generalize (w1.alloc (.cells #[.pointer none, .slice none 0 0] 106)) = W0 at *
  go_loopw [38] (fun t wr => ∃ (k : Nat) (bt : List UInt8), k ≤ (i + 1) ∧ t = .int .i64 k ∧ Below w1.heap.size w1 wr ∧ BIs w1.heap.size w1.heap.size bt wr ∧ bt.length ≤ k * 200010 ∧ Hid (X = Sp.glue bt (Sp.body r (prev (l.take (i + 1)) k) ((l.take (i + 1)).drop k)))) (fun t _ => (i + 1) - (intOf t).toNat)
  case atStart => exact ⟨0, [], by omega, rfl, hB0, hI0, by simp, Lib.hid (by rw [Sp.glue_nil, List.drop_zero]; exact HX.out.symm)⟩
  case round =>
    obtain ⟨k, bt, hk, rfl, hB, hI, hbt, hh⟩ := hrel
    clear hB0 hI0
    by_cases hlt : k < (i + 1)
    · obtain ⟨x, hx⟩ : ∃ x, (l.take (i + 1))[k]? = some x := ⟨(l.take (i + 1))[k]'(by rw [hLlen]; exact hlt), List.getElem?_eq_getElem (by rw [hLlen]; exact hlt)⟩
      obtain ⟨q0, q1, q2⟩ := (H1.later hB) k x hx
      have hxs := Hs.out x (List.mem_of_getElem? hx)
      have hdr : (l.take (i + 1)).drop k = x :: (l.take (i + 1)).drop (k + 1) := by
        obtain ⟨hlt', he⟩ := List.getElem?_eq_some_iff.1 hx
        rw [← he]; exact List.drop_eq_getElem_cons hlt'
      have hblt := hI.lt
      have hB2 : Below w1.heap.size w1 (wr.alloc (.cells #[.int .i64 x.kind, .string ⟨x.text.toArray⟩, .int .i64 x.pos] 28)) := bjoin hB hB.size (below_alloc0 (Below.refl _ _) _)
      have hI2 := hI.later (below_alloc0 (Below.refl _ wr) (.cells #[.int .i64 x.kind, .string ⟨x.text.toArray⟩, .int .i64 x.pos] 28))
      have L2 := heap_alloc_new wr (.cells #[.int .i64 x.kind, .string ⟨x.text.toArray⟩, .int .i64 x.pos] 28)
      have hne : wr.heap.size ≠ w1.heap.size := by omega
      have hwl := written_len x r hxs.1
      have hck := check_any x hxs.1 trivial _ (hS1.later hB2) (hM1.later hB2)
      have hwr := fun (h0 : Sp.check x = 0) W hM => written_c x r hr hxs.1 (hxs.2 h0) W hM
      have d0 := cell_of_blk L2 0
      have d1 := cell_of_blk L2 1
      have d2 := cell_of_blk L2 2
      have Hck := Lib.hid hck
      have Hwr := Lib.hid hwr
      have Hx := Lib.hid hx
      have Hdr := Lib.hid hdr
      have Hne := Lib.hid hne
      have Hbt := Lib.hid hbt
      have Hbl : Hid (bt.length ≤ 90000000000) := Lib.hid (by omega)
      have tokC : Nat := 0
      clear hck hwr hx hxs hdr hne hbt
      by_cases hc : Sp.check x = 0
      · have Hc := Lib.hid hc
        clear hc
        have hbody := Sp.body_cons r (prev (l.take (i + 1)) k) x ((l.take (i + 1)).drop (k + 1)) Hc.out
        generalize Sp.written x r = wt at hbody hwl Hwr
        have Hbody := Lib.hid hbody
        have HI2 := Lib.hid hI2
        have HL2 := Lib.hid L2
        have Hwl := Lib.hid hwl
        have Hblt := Lib.hid hblt
        have HI := Lib.hid hI
        clear hbody hI2 L2 hwl hblt hI
        cases k with
        | zero =>
          rw [Nat.zero_mul, Nat.add_zero] at q0 q1 q2
          go_wp2_with (first
            | (go_at_call 36; have tk := tokC; clear tokC; refine Hck.out.mono ?_; rw [Hc.out]; rintro e w3 ⟨rfl, hbx⟩; have hBc := bjoin hB2 hB2.size hbx; have Lc := (hbx.block _ (lt_of_blk HL2.out)).trans HL2.out; have Ic := HI2.out.later hbx; have tokB : Nat := 0; clear hbx; clear d0 d1 d2; have d0 := cell_of_blk Lc 0; have d1 := cell_of_blk Lc 1; have d2 := cell_of_blk Lc 2)
            | (go_at_call 75; have tk := tokB; clear tokB; refine (Hwr.out Hc.out _ (hM1.later hBc)).mono ?_; rintro e w8 ⟨rfl, hbx⟩; replace Ic := Ic.later hbx; replace hBc := bjoin hBc hBc.size hbx; have tokS : Nat := 0; clear hbx; clear Lc d0 d1 d2)
            | (go_at_call 74; have tk := tokS; clear tokS; refine (bw_str _ _ (bt) (wt) _ rfl _ Ic (by (try simp only [List.length_append, List.length_cons, List.length_nil]); have := Hbl.out; omega) (by have := Hwl.out; omega) (Nat.le_refl _)).mono ?_; rintro e w9 ⟨rfl, I', hbx, hox⟩; replace Ic := I'; replace hBc := hBc.trans hbx; clear hbx hox))
          go_roundw
          case rel =>
            refine ⟨1, bt ++ wt, by omega, by go_num, hBc, Ic, by rw [List.length_append]; have := Hbt.out; have := Hwl.out; omega, Lib.hid ?_⟩
            rw [hh.out, Hdr.out, Hbody.out, Sp.glue_glue]
            show Sp.glue (bt ++ ([] ++ wt)) (Sp.body r (some x) _) = Sp.glue (bt ++ wt) (Sp.body r ((l.take (i + 1))[0]?) _)
            rw [List.nil_append, Hx.out]
          case measure => simp [intOf] <;> omega
        | succ j =>
          obtain ⟨y, hy⟩ : ∃ y, (l.take (i + 1))[j]? = some y := ⟨(l.take (i + 1))[j]'(by rw [hLlen]; omega), List.getElem?_eq_getElem (by rw [hLlen]; omega)⟩
          have Hy := Lib.hid hy
          clear hy
          cases hjy : Sp.joins y with
          | false =>
            have Hjy := Lib.hid hjy
            clear hjy
            go_wp2_with (first
              | (go_at_call 36; have tk := tokC; clear tokC; refine Hck.out.mono ?_; rw [Hc.out]; rintro e w3 ⟨rfl, hbx⟩; have hBc := bjoin hB2 hB2.size hbx; have Lc := (hbx.block _ (lt_of_blk HL2.out)).trans HL2.out; have Ic := HI2.out.later hbx; have tokB : Nat := 0; clear hbx; clear d0 d1 d2; have d0 := cell_of_blk Lc 0; have d1 := cell_of_blk Lc 1; have d2 := cell_of_blk Lc 2)
              | (go_at_call 72; have tk := tokB; clear tokB; refine (bw_byte _ _ bt 32 _ rfl _ Ic (by have := Hbl.out; omega) (Nat.le_refl _)).mono ?_; rintro e w4 ⟨rfl, I', hbx, hox⟩; replace Ic := I'; clear I'; replace hBc := hBc.trans hbx; replace Lc := box_kept hox Hne.out Lc; have tokY : Nat := 0; clear hbx hox; clear d0 d1 d2; have d0 := cell_of_blk Lc 0; have d1 := cell_of_blk Lc 1; have d2 := cell_of_blk Lc 2; obtain ⟨p0, p1, p2⟩ := (H1.later hBc) j y Hy.out)
              | (go_at_call 73; have tk := tokY; clear tokY; refine (joins_k _ _ _ _).mono ?_; rw [jk_eq y, Hjy.out]; rintro e w5 ⟨rfl, hbx⟩; replace Ic := Ic.later hbx; replace hBc := bjoin hBc hBc.size hbx; replace Lc := (hbx.block _ (lt_of_blk Lc)).trans Lc; have tokX : Nat := 0; clear hbx; clear d0 d1 d2; have d0 := cell_of_blk Lc 0; have d1 := cell_of_blk Lc 1; have d2 := cell_of_blk Lc 2)
              | (go_at_call 75; have tk := tokX; clear tokX; refine (Hwr.out Hc.out _ (hM1.later hBc)).mono ?_; rintro e w8 ⟨rfl, hbx⟩; replace Ic := Ic.later hbx; replace hBc := bjoin hBc hBc.size hbx; have tokS : Nat := 0; clear hbx; clear Lc d0 d1 d2)
              | (go_at_call 74; have tk := tokS; clear tokS; refine (bw_str _ _ (bt ++ [32]) (wt) _ rfl _ Ic (by (try simp only [List.length_append, List.length_cons, List.length_nil]); have := Hbl.out; omega) (by have := Hwl.out; omega) (Nat.le_refl _)).mono ?_; rintro e w9 ⟨rfl, I', hbx, hox⟩; replace Ic := I'; replace hBc := hBc.trans hbx; clear hbx hox))
            go_roundw
            case rel =>
              refine ⟨j + 1 + 1, bt ++ [32] ++ wt, by omega, by go_num, hBc, Ic, by simp only [List.length_append, List.length_cons, List.length_nil]; have := Hbt.out; have := Hwl.out; omega, Lib.hid ?_⟩
              rw [hh.out, Hdr.out, Hbody.out, Sp.glue_glue]
              have es : Sp.sep (prev (l.take (i + 1)) (j + 1)) x = [32] := by
                rw [show prev (l.take (i + 1)) (j + 1) = some y from Hy.out]
                unfold Sp.sep
                dsimp only
                rw [Hjy.out, Bool.false_and]
                rfl
              rw [es, show prev (l.take (i + 1)) (j + 1 + 1) = some x from Hx.out]
              congr 1
              simp only [List.append_assoc, List.cons_append, List.nil_append]
            case measure => simp [intOf] <;> omega
          | true =>
            cases hjx : Sp.joins x with
            | false =>
              have Hjy := Lib.hid hjy
              have Hjx := Lib.hid hjx
              clear hjy hjx
              go_wp2_with (first
                | (go_at_call 36; have tk := tokC; clear tokC; refine Hck.out.mono ?_; rw [Hc.out]; rintro e w3 ⟨rfl, hbx⟩; have hBc := bjoin hB2 hB2.size hbx; have Lc := (hbx.block _ (lt_of_blk HL2.out)).trans HL2.out; have Ic := HI2.out.later hbx; have tokB : Nat := 0; clear hbx; clear d0 d1 d2; have d0 := cell_of_blk Lc 0; have d1 := cell_of_blk Lc 1; have d2 := cell_of_blk Lc 2)
                | (go_at_call 72; have tk := tokB; clear tokB; refine (bw_byte _ _ bt 32 _ rfl _ Ic (by have := Hbl.out; omega) (Nat.le_refl _)).mono ?_; rintro e w4 ⟨rfl, I', hbx, hox⟩; replace Ic := I'; clear I'; replace hBc := hBc.trans hbx; replace Lc := box_kept hox Hne.out Lc; have tokY : Nat := 0; clear hbx hox; clear d0 d1 d2; have d0 := cell_of_blk Lc 0; have d1 := cell_of_blk Lc 1; have d2 := cell_of_blk Lc 2; obtain ⟨p0, p1, p2⟩ := (H1.later hBc) j y Hy.out)
                | (go_at_call 73; have tk := tokY; clear tokY; refine (joins_k _ _ _ _).mono ?_; rw [jk_eq y, Hjy.out]; rintro e w5 ⟨rfl, hbx⟩; replace Ic := Ic.later hbx; replace hBc := bjoin hBc hBc.size hbx; replace Lc := (hbx.block _ (lt_of_blk Lc)).trans Lc; have tokX : Nat := 0; clear hbx; clear d0 d1 d2; have d0 := cell_of_blk Lc 0; have d1 := cell_of_blk Lc 1; have d2 := cell_of_blk Lc 2)
                | (go_at_call 73; have tk := tokX; clear tokX; refine (joins_k _ _ _ _).mono ?_; rw [jk_eq x, Hjx.out]; rintro e w5 ⟨rfl, hbx⟩; replace Ic := Ic.later hbx; replace hBc := bjoin hBc hBc.size hbx; replace Lc := (hbx.block _ (lt_of_blk Lc)).trans Lc; have tokW : Nat := 0; clear hbx; clear d0 d1 d2; have d0 := cell_of_blk Lc 0; have d1 := cell_of_blk Lc 1; have d2 := cell_of_blk Lc 2)
                | (go_at_call 75; have tk := tokW; clear tokW; refine (Hwr.out Hc.out _ (hM1.later hBc)).mono ?_; rintro e w8 ⟨rfl, hbx⟩; replace Ic := Ic.later hbx; replace hBc := bjoin hBc hBc.size hbx; have tokS : Nat := 0; clear hbx; clear Lc d0 d1 d2)
                | (go_at_call 74; have tk := tokS; clear tokS; refine (bw_str _ _ (bt ++ [32]) (wt) _ rfl _ Ic (by (try simp only [List.length_append, List.length_cons, List.length_nil]); have := Hbl.out; omega) (by have := Hwl.out; omega) (Nat.le_refl _)).mono ?_; rintro e w9 ⟨rfl, I', hbx, hox⟩; replace Ic := I'; replace hBc := hBc.trans hbx; clear hbx hox))
              go_roundw
              case rel =>
                refine ⟨j + 1 + 1, bt ++ [32] ++ wt, by omega, by go_num, hBc, Ic, by simp only [List.length_append, List.length_cons, List.length_nil]; have := Hbt.out; have := Hwl.out; omega, Lib.hid ?_⟩
                rw [hh.out, Hdr.out, Hbody.out, Sp.glue_glue]
                have es : Sp.sep (prev (l.take (i + 1)) (j + 1)) x = [32] := by
                  rw [show prev (l.take (i + 1)) (j + 1) = some y from Hy.out]
                  unfold Sp.sep
                  dsimp only
                  rw [Hjy.out, Hjx.out]
                  rfl
                rw [es, show prev (l.take (i + 1)) (j + 1 + 1) = some x from Hx.out]
                congr 1
                simp only [List.append_assoc, List.cons_append, List.nil_append]
              case measure => simp [intOf] <;> omega
            | true =>
              have Hjy := Lib.hid hjy
              have Hjx := Lib.hid hjx
              clear hjy hjx
              go_wp2_with (first
                | (go_at_call 36; have tk := tokC; clear tokC; refine Hck.out.mono ?_; rw [Hc.out]; rintro e w3 ⟨rfl, hbx⟩; have hBc := bjoin hB2 hB2.size hbx; have Lc := (hbx.block _ (lt_of_blk HL2.out)).trans HL2.out; have Ic := HI2.out.later hbx; have tokB : Nat := 0; clear hbx; clear d0 d1 d2; have d0 := cell_of_blk Lc 0; have d1 := cell_of_blk Lc 1; have d2 := cell_of_blk Lc 2)
                | (go_at_call 72; have tk := tokB; clear tokB; refine (bw_byte _ _ bt 32 _ rfl _ Ic (by have := Hbl.out; omega) (Nat.le_refl _)).mono ?_; rintro e w4 ⟨rfl, I', hbx, hox⟩; replace Ic := I'; clear I'; replace hBc := hBc.trans hbx; replace Lc := box_kept hox Hne.out Lc; have tokY : Nat := 0; clear hbx hox; clear d0 d1 d2; have d0 := cell_of_blk Lc 0; have d1 := cell_of_blk Lc 1; have d2 := cell_of_blk Lc 2; obtain ⟨p0, p1, p2⟩ := (H1.later hBc) j y Hy.out)
                | (go_at_call 73; have tk := tokY; clear tokY; refine (joins_k _ _ _ _).mono ?_; rw [jk_eq y, Hjy.out]; rintro e w5 ⟨rfl, hbx⟩; replace Ic := Ic.later hbx; replace hBc := bjoin hBc hBc.size hbx; replace Lc := (hbx.block _ (lt_of_blk Lc)).trans Lc; have tokX : Nat := 0; clear hbx; clear d0 d1 d2; have d0 := cell_of_blk Lc 0; have d1 := cell_of_blk Lc 1; have d2 := cell_of_blk Lc 2)
                | (go_at_call 73; have tk := tokX; clear tokX; refine (joins_k _ _ _ _).mono ?_; rw [jk_eq x, Hjx.out]; rintro e w5 ⟨rfl, hbx⟩; replace Ic := Ic.later hbx; replace hBc := bjoin hBc hBc.size hbx; replace Lc := (hbx.block _ (lt_of_blk Lc)).trans Lc; have tokH : Nat := 0; clear hbx; clear d0 d1 d2; have d0 := cell_of_blk Lc 0; have d1 := cell_of_blk Lc 1; have d2 := cell_of_blk Lc 2)
                | (go_at_call 74; have tk := tokH; clear tokH; refine (bw_str _ _ (bt ++ [32]) [35, 35, 32] _ rfl _ Ic (by rw [List.length_append]; have := Hbl.out; simp; omega) (by decide) (Nat.le_refl _)).mono ?_; rintro e w7 ⟨rfl, I', hbx, hox⟩; replace Ic := I'; clear I'; replace hBc := hBc.trans hbx; replace Lc := box_kept hox Hne.out Lc; have tokW : Nat := 0; clear hbx hox; clear d0 d1 d2; have d0 := cell_of_blk Lc 0; have d1 := cell_of_blk Lc 1; have d2 := cell_of_blk Lc 2)
                | (go_at_call 75; have tk := tokW; clear tokW; refine (Hwr.out Hc.out _ (hM1.later hBc)).mono ?_; rintro e w8 ⟨rfl, hbx⟩; replace Ic := Ic.later hbx; replace hBc := bjoin hBc hBc.size hbx; have tokS : Nat := 0; clear hbx; clear Lc d0 d1 d2)
                | (go_at_call 74; have tk := tokS; clear tokS; refine (bw_str _ _ (bt ++ [32] ++ [35, 35, 32]) (wt) _ rfl _ Ic (by (try simp only [List.length_append, List.length_cons, List.length_nil]); have := Hbl.out; omega) (by have := Hwl.out; omega) (Nat.le_refl _)).mono ?_; rintro e w9 ⟨rfl, I', hbx, hox⟩; replace Ic := I'; replace hBc := hBc.trans hbx; clear hbx hox))
              go_roundw
              case rel =>
                refine ⟨j + 1 + 1, bt ++ [32] ++ [35, 35, 32] ++ wt, by omega, by go_num, hBc, Ic, by simp only [List.length_append, List.length_cons, List.length_nil]; have := Hbt.out; have := Hwl.out; omega, Lib.hid ?_⟩
                rw [hh.out, Hdr.out, Hbody.out, Sp.glue_glue]
                have es : Sp.sep (prev (l.take (i + 1)) (j + 1)) x = [32, 35, 35, 32] := by
                  rw [show prev (l.take (i + 1)) (j + 1) = some y from Hy.out]
                  unfold Sp.sep
                  dsimp only
                  rw [Hjy.out, Hjx.out]
                  rfl
                rw [es, show prev (l.take (i + 1)) (j + 1 + 1) = some x from Hx.out]
                congr 1
                simp only [List.append_assoc, List.cons_append, List.nil_append]
              case measure => simp [intOf] <;> omega
      · have hc1 : (Sp.check x != 0) = true := by rw [bne_iff_ne]; exact hc
        have Hc := Lib.hid hc
        clear hc
        go_wp2_with (first
            | (go_at_call 36; refine Hck.out.mono ?_; rintro e w3 ⟨rfl, hb3⟩; have hB3 := bjoin hB2 hB2.size hb3))
        go_ret2
        have hfin : X = .error (Sp.check x) := by rw [hh.out, Hdr.out, Sp.body_bad _ _ _ _ Hc.out]; rfl
        rw [HT.out, hfin]
        exact ⟨rfl, (hb1.trans (hB3.mono hb1.size))⟩
    · have hfin : X = .ok bt := by
        rw [hh.out, List.drop_of_length_le (by rw [hLlen]; omega)]
        simp [Sp.body, Sp.glue]
      have Hfin := Lib.hid hfin
      clear hfin
      by_cases hbl : 65536 < bt.length
      · have hlen : decide (65536 < (bt.length : Int)) = true := by simp; omega
        go_wp2_with (first | (go_at_call 76; refine (b_len _ _ bt _ hI).mono ?_; rintro e w2 ⟨rfl, rfl⟩))
        go_ret2
        rw [HT.out, Hfin.out]
        refine ⟨?_, hb1.trans (hB.mono hb1.size)⟩
        unfold Sp.finish
        dsimp only
        rw [if_pos hbl]
        rfl
      · have hlen : decide (65536 < (bt.length : Int)) = false := by simp; omega
        go_wp2_with (first 
          | (go_at_call 76; refine (b_len _ _ bt _ hI).mono ?_; rintro e w2 ⟨rfl, rfl⟩)
          | (go_at_call 77; refine (b_string _ _ bt _ hI (Nat.le_refl _)).mono ?_; rintro e w3 ⟨rfl, hb3⟩))
        go_ret2
        rw [HT.out, Hfin.out]
        refine ⟨?_, hb1.trans ((hB.trans hb3).mono hb1.size)⟩
        unfold Sp.finish
        dsimp only
        rw [if_neg hbl]
        rfl
end Go.Proofs.YtjghijeblddijaaGreatDoor
