/- Walks: Text. -/
import Derived.Test.YtjghijeblddijaaGreatDoorStropText
set_option linter.unusedVariables false
namespace Go.Proofs.YtjghijeblddijaaGreatDoor
open Go.RowKit

@[irreducible] def jk (k : Int) : Bool := k == 2 || k == 3 || k == 4 || k == 5
theorem jk_eq (x : Sp.Sym) : jk x.kind = Sp.joins x := by unfold jk; rfl
theorem joins_k (k : Int) (t : ByteArray) (p : Int) (w : World) :
    Calls Tryz.prog 73 #[.agg #[.int .i64 k, .string t, .int .i64 p]] w fun e w' => e = .returned (.bool (jk k)) ∧ Below w.heap.size w w' := by
  have h := joins_c ⟨k, bs t, p⟩ w
  unfold symV at h
  dsimp only at h
  rw [of_bs, ← jk_eq] at h
  exact h
def prev (l : List Sp.Sym) : Nat → Option Sp.Sym
  | 0 => none
  | k + 1 => l[k]?
def Small (l : List Sp.Sym) : Prop := ∀ x ∈ l, x.text.length ≤ 100000 ∧ ∀ c ∈ x.text, c.toNat < 128
def TextPost (w : World) (r : List UInt8 × Int) (e : Ending) (w' : World) : Prop := e = .returned (.tuple #[.string ⟨r.1.toArray⟩, .int .i64 r.2]) ∧ Below w.heap.size w w'
theorem written_len (x : Sp.Sym) (r : Nat) (h : x.text.length ≤ 100000) : (Sp.written x r).length ≤ 200002 := by
  have h2 := Sp.dq_len x.text
  unfold Sp.written Sp.asText
  split
  · split
    · omega
    · split <;> simp <;> omega
  · split
    · simp; omega
    · split
      · simp; omega
      · omega
theorem box_kept {b kb : Nat} {cs : Array Value} {w w' : World} (h : Others b w w') (hne : kb ≠ b) (hk : w.heap[kb]? = some (.cells cs 28 (0, 0))) : w'.heap[kb]? = some (.cells cs 28 (0, 0)) :=
  h kb _ hk (fun e => hne (Option.some.inj e)) (fun c fz e => by injection e with _ e2 _; exact absurd e2 (by decide))

set_option maxRecDepth 100000 in
set_option maxHeartbeats 16000000 in
theorem text_none (g o c : Nat) (l : List Sp.Sym) (hl : l.length ≤ 100000) (hlc : l.length ≤ c) (hs : Small l) (r : Nat) (hr : r ≤ 2) (w : World) (H : Row w g o l) (hS : SignsIn w) (hM : MaxIn w) (hi : idx (fun x => x.kind == 0) l = -1) :
    Calls Tryz.prog 38 #[.slice (some ⟨g, o, none⟩) l.length c, .int .i64 (r : Int)] w (TextPost w (Sp.text l (r : Int))) := by
  have hup : Sp.upto l = l := by
    unfold Sp.upto
    unfold idx at hi
    cases hf : l.findIdx? (fun x => x.kind == 0) with
    | none => rfl
    | some i => rw [hf] at hi; simp only at hi; omega
  have Hi := Lib.hid hi
  have Hs := Lib.hid hs
  clear hi hs
  have hT : Sp.text l (r : Int) = Sp.finish (Sp.body r none (l)) := by
    unfold Sp.text
    rw [if_neg (by omega), hup, Int.toNat_natCast]
  generalize hX : Sp.body r none (l) = X at hT
  have HT := Lib.hid hT
  have HX := Lib.hid hX
  have hTT := text1_tells w
  have e1 : decide ((r : Int) < 0) = false := by simp
  have e2 : decide ((2 : Int) < (r : Int)) = false := by simp; omega
  have e3 : decide (2 < r) = false := by simp; omega
  clear hT hX hup
  go_enter Tryz.func38, Tryz.ntmps38
  go_wp2_with (first
    | (go_at_call 21; refine (indexFunc_c g o c l (by omega) _ _ _ w H hTT).mono ?_; rw [Hi.out]; rintro e w1 ⟨rfl, hb1⟩; have hS1 := hS.later hb1; have hM1 := hM.later hb1; have H1 := H.later hb1))
  have hB0 : Below w1.heap.size w1 (w1.alloc (.cells #[.pointer none, .slice none 0 0] 106)) := below_alloc0 (Below.refl _ _) _
  have hI0 := BIs.fresh w1
  generalize (w1.alloc (.cells #[.pointer none, .slice none 0 0] 106)) = W0 at *
  go_loopw [38] (fun t wr => ∃ (k : Nat) (bt : List UInt8), k ≤ l.length ∧ t = .int .i64 k ∧ Below w1.heap.size w1 wr ∧ BIs w1.heap.size w1.heap.size bt wr ∧ bt.length ≤ k * 200010 ∧ Hid (X = Sp.glue bt (Sp.body r (prev (l) k) ((l).drop k)))) (fun t _ => l.length - (intOf t).toNat)
  case atStart => exact ⟨0, [], by omega, rfl, hB0, hI0, by simp, Lib.hid (by rw [Sp.glue_nil, List.drop_zero]; exact HX.out.symm)⟩
  case round =>
    obtain ⟨k, bt, hk, rfl, hB, hI, hbt, hh⟩ := hrel
    clear hB0 hI0
    by_cases hlt : k < l.length
    · obtain ⟨x, hx⟩ : ∃ x, (l)[k]? = some x := ⟨(l)[k]'(by rw [show l.length = l.length from rfl]; exact hlt), List.getElem?_eq_getElem (by rw [show l.length = l.length from rfl]; exact hlt)⟩
      obtain ⟨q0, q1, q2⟩ := (H1.later hB) k x hx
      have hxs := Hs.out x (List.mem_of_getElem? hx)
      have hdr : (l).drop k = x :: (l).drop (k + 1) := by
        obtain ⟨hlt', he⟩ := List.getElem?_eq_some_iff.1 hx
        rw [← he]; exact List.drop_eq_getElem_cons hlt'
      have hblt := hI.lt
      have hB2 : Below w1.heap.size w1 (wr.alloc (.cells #[.int .i64 x.kind, .string ⟨x.text.toArray⟩, .int .i64 x.pos] 28)) := bjoin hB hB.size (below_alloc0 (Below.refl _ _) _)
      have hI2 := hI.later (below_alloc0 (Below.refl _ wr) (.cells #[.int .i64 x.kind, .string ⟨x.text.toArray⟩, .int .i64 x.pos] 28))
      have L2 := heap_alloc_new wr (.cells #[.int .i64 x.kind, .string ⟨x.text.toArray⟩, .int .i64 x.pos] 28)
      have hne : wr.heap.size ≠ w1.heap.size := by omega
      have hwl := written_len x r hxs.1
      have hck := check_c x hxs.1 hxs.2 _ (hS1.later hB2) (hM1.later hB2)
      have hwr := fun W hM => written_c x r hr hxs.1 hxs.2 W hM
      have d0 := cell_of_blk L2 0
      have d1 := cell_of_blk L2 1
      have d2 := cell_of_blk L2 2
      have Hck := Lib.hid hck
      have Hwr := Lib.hid hwr
      have Hx := Lib.hid hx
      have Hdr := Lib.hid hdr
      have Hne := Lib.hid hne
      have Hbt := Lib.hid hbt
      have Hbl : Hid (bt.length ≤ 90000000000) := Lib.hid (by omega)
      have tokC : Nat := 0
      clear hck hwr hx hxs hdr hne hbt
      by_cases hc : Sp.check x = 0
      · have Hc := Lib.hid hc
        clear hc
        have hbody := Sp.body_cons r (prev (l) k) x ((l).drop (k + 1)) Hc.out
        generalize Sp.written x r = wt at hbody hwl Hwr
        have Hbody := Lib.hid hbody
        have HI2 := Lib.hid hI2
        have HL2 := Lib.hid L2
        have Hwl := Lib.hid hwl
        have Hblt := Lib.hid hblt
        have HI := Lib.hid hI
        clear hbody hI2 L2 hwl hblt hI
        cases k with
        | zero =>
          rw [Nat.zero_mul, Nat.add_zero] at q0 q1 q2
          go_wp2_with (first
            | (go_at_call 36; have tk := tokC; clear tokC; refine Hck.out.mono ?_; rw [Hc.out]; rintro e w3 ⟨rfl, hbx⟩; have hBc := bjoin hB2 hB2.size hbx; have Lc := (hbx.block _ (lt_of_blk HL2.out)).trans HL2.out; have Ic := HI2.out.later hbx; have tokB : Nat := 0; clear hbx; clear d0 d1 d2; have d0 := cell_of_blk Lc 0; have d1 := cell_of_blk Lc 1; have d2 := cell_of_blk Lc 2)
            | (go_at_call 75; have tk := tokB; clear tokB; refine (Hwr.out _ (hM1.later hBc)).mono ?_; rintro e w8 ⟨rfl, hbx⟩; replace Ic := Ic.later hbx; replace hBc := bjoin hBc hBc.size hbx; have tokS : Nat := 0; clear hbx; clear Lc d0 d1 d2)
            | (go_at_call 74; have tk := tokS; clear tokS; refine (bw_str _ _ (bt) (wt) _ rfl _ Ic (by (try simp only [List.length_append, List.length_cons, List.length_nil]); have := Hbl.out; omega) (by have := Hwl.out; omega) (Nat.le_refl _)).mono ?_; rintro e w9 ⟨rfl, I', hbx, hox⟩; replace Ic := I'; replace hBc := hBc.trans hbx; clear hbx hox))
          go_roundw
          case rel =>
            refine ⟨1, bt ++ wt, by omega, by go_num, hBc, Ic, by rw [List.length_append]; have := Hbt.out; have := Hwl.out; omega, Lib.hid ?_⟩
            rw [hh.out, Hdr.out, Hbody.out, Sp.glue_glue]
            show Sp.glue (bt ++ ([] ++ wt)) (Sp.body r (some x) _) = Sp.glue (bt ++ wt) (Sp.body r ((l)[0]?) _)
            rw [List.nil_append, Hx.out]
          case measure => simp [intOf] <;> omega
        | succ j =>
          obtain ⟨y, hy⟩ : ∃ y, (l)[j]? = some y := ⟨(l)[j]'(by rw [show l.length = l.length from rfl]; omega), List.getElem?_eq_getElem (by rw [show l.length = l.length from rfl]; omega)⟩
          have Hy := Lib.hid hy
          clear hy
          cases hjy : Sp.joins y with
          | false =>
            have Hjy := Lib.hid hjy
            clear hjy
            go_wp2_with (first
              | (go_at_call 36; have tk := tokC; clear tokC; refine Hck.out.mono ?_; rw [Hc.out]; rintro e w3 ⟨rfl, hbx⟩; have hBc := bjoin hB2 hB2.size hbx; have Lc := (hbx.block _ (lt_of_blk HL2.out)).trans HL2.out; have Ic := HI2.out.later hbx; have tokB : Nat := 0; clear hbx; clear d0 d1 d2; have d0 := cell_of_blk Lc 0; have d1 := cell_of_blk Lc 1; have d2 := cell_of_blk Lc 2)
              | (go_at_call 72; have tk := tokB; clear tokB; refine (bw_byte _ _ bt 32 _ rfl _ Ic (by have := Hbl.out; omega) (Nat.le_refl _)).mono ?_; rintro e w4 ⟨rfl, I', hbx, hox⟩; replace Ic := I'; clear I'; replace hBc := hBc.trans hbx; replace Lc := box_kept hox Hne.out Lc; have tokY : Nat := 0; clear hbx hox; clear d0 d1 d2; have d0 := cell_of_blk Lc 0; have d1 := cell_of_blk Lc 1; have d2 := cell_of_blk Lc 2; obtain ⟨p0, p1, p2⟩ := (H1.later hBc) j y Hy.out)
              | (go_at_call 73; have tk := tokY; clear tokY; refine (joins_k _ _ _ _).mono ?_; rw [jk_eq y, Hjy.out]; rintro e w5 ⟨rfl, hbx⟩; replace Ic := Ic.later hbx; replace hBc := bjoin hBc hBc.size hbx; replace Lc := (hbx.block _ (lt_of_blk Lc)).trans Lc; have tokX : Nat := 0; clear hbx; clear d0 d1 d2; have d0 := cell_of_blk Lc 0; have d1 := cell_of_blk Lc 1; have d2 := cell_of_blk Lc 2)
              | (go_at_call 75; have tk := tokX; clear tokX; refine (Hwr.out _ (hM1.later hBc)).mono ?_; rintro e w8 ⟨rfl, hbx⟩; replace Ic := Ic.later hbx; replace hBc := bjoin hBc hBc.size hbx; have tokS : Nat := 0; clear hbx; clear Lc d0 d1 d2)
              | (go_at_call 74; have tk := tokS; clear tokS; refine (bw_str _ _ (bt ++ [32]) (wt) _ rfl _ Ic (by (try simp only [List.length_append, List.length_cons, List.length_nil]); have := Hbl.out; omega) (by have := Hwl.out; omega) (Nat.le_refl _)).mono ?_; rintro e w9 ⟨rfl, I', hbx, hox⟩; replace Ic := I'; replace hBc := hBc.trans hbx; clear hbx hox))
            go_roundw
            case rel =>
              refine ⟨j + 1 + 1, bt ++ [32] ++ wt, by omega, by go_num, hBc, Ic, by simp only [List.length_append, List.length_cons, List.length_nil]; have := Hbt.out; have := Hwl.out; omega, Lib.hid ?_⟩
              rw [hh.out, Hdr.out, Hbody.out, Sp.glue_glue]
              have es : Sp.sep (prev (l) (j + 1)) x = [32] := by
                rw [show prev (l) (j + 1) = some y from Hy.out]
                unfold Sp.sep
                dsimp only
                rw [Hjy.out, Bool.false_and]
                rfl
              rw [es, show prev (l) (j + 1 + 1) = some x from Hx.out]
              congr 1
              simp only [List.append_assoc, List.cons_append, List.nil_append]
            case measure => simp [intOf] <;> omega
          | true =>
            cases hjx : Sp.joins x with
            | false =>
              have Hjy := Lib.hid hjy
              have Hjx := Lib.hid hjx
              clear hjy hjx
              go_wp2_with (first
                | (go_at_call 36; have tk := tokC; clear tokC; refine Hck.out.mono ?_; rw [Hc.out]; rintro e w3 ⟨rfl, hbx⟩; have hBc := bjoin hB2 hB2.size hbx; have Lc := (hbx.block _ (lt_of_blk HL2.out)).trans HL2.out; have Ic := HI2.out.later hbx; have tokB : Nat := 0; clear hbx; clear d0 d1 d2; have d0 := cell_of_blk Lc 0; have d1 := cell_of_blk Lc 1; have d2 := cell_of_blk Lc 2)
                | (go_at_call 72; have tk := tokB; clear tokB; refine (bw_byte _ _ bt 32 _ rfl _ Ic (by have := Hbl.out; omega) (Nat.le_refl _)).mono ?_; rintro e w4 ⟨rfl, I', hbx, hox⟩; replace Ic := I'; clear I'; replace hBc := hBc.trans hbx; replace Lc := box_kept hox Hne.out Lc; have tokY : Nat := 0; clear hbx hox; clear d0 d1 d2; have d0 := cell_of_blk Lc 0; have d1 := cell_of_blk Lc 1; have d2 := cell_of_blk Lc 2; obtain ⟨p0, p1, p2⟩ := (H1.later hBc) j y Hy.out)
                | (go_at_call 73; have tk := tokY; clear tokY; refine (joins_k _ _ _ _).mono ?_; rw [jk_eq y, Hjy.out]; rintro e w5 ⟨rfl, hbx⟩; replace Ic := Ic.later hbx; replace hBc := bjoin hBc hBc.size hbx; replace Lc := (hbx.block _ (lt_of_blk Lc)).trans Lc; have tokX : Nat := 0; clear hbx; clear d0 d1 d2; have d0 := cell_of_blk Lc 0; have d1 := cell_of_blk Lc 1; have d2 := cell_of_blk Lc 2)
                | (go_at_call 73; have tk := tokX; clear tokX; refine (joins_k _ _ _ _).mono ?_; rw [jk_eq x, Hjx.out]; rintro e w5 ⟨rfl, hbx⟩; replace Ic := Ic.later hbx; replace hBc := bjoin hBc hBc.size hbx; replace Lc := (hbx.block _ (lt_of_blk Lc)).trans Lc; have tokW : Nat := 0; clear hbx; clear d0 d1 d2; have d0 := cell_of_blk Lc 0; have d1 := cell_of_blk Lc 1; have d2 := cell_of_blk Lc 2)
                | (go_at_call 75; have tk := tokW; clear tokW; refine (Hwr.out _ (hM1.later hBc)).mono ?_; rintro e w8 ⟨rfl, hbx⟩; replace Ic := Ic.later hbx; replace hBc := bjoin hBc hBc.size hbx; have tokS : Nat := 0; clear hbx; clear Lc d0 d1 d2)
                | (go_at_call 74; have tk := tokS; clear tokS; refine (bw_str _ _ (bt ++ [32]) (wt) _ rfl _ Ic (by (try simp only [List.length_append, List.length_cons, List.length_nil]); have := Hbl.out; omega) (by have := Hwl.out; omega) (Nat.le_refl _)).mono ?_; rintro e w9 ⟨rfl, I', hbx, hox⟩; replace Ic := I'; replace hBc := hBc.trans hbx; clear hbx hox))
              go_roundw
              case rel =>
                refine ⟨j + 1 + 1, bt ++ [32] ++ wt, by omega, by go_num, hBc, Ic, by simp only [List.length_append, List.length_cons, List.length_nil]; have := Hbt.out; have := Hwl.out; omega, Lib.hid ?_⟩
                rw [hh.out, Hdr.out, Hbody.out, Sp.glue_glue]
                have es : Sp.sep (prev (l) (j + 1)) x = [32] := by
                  rw [show prev (l) (j + 1) = some y from Hy.out]
                  unfold Sp.sep
                  dsimp only
                  rw [Hjy.out, Hjx.out]
                  rfl
                rw [es, show prev (l) (j + 1 + 1) = some x from Hx.out]
                congr 1
                simp only [List.append_assoc, List.cons_append, List.nil_append]
              case measure => simp [intOf] <;> omega
            | true =>
              have Hjy := Lib.hid hjy
              have Hjx := Lib.hid hjx
              clear hjy hjx
              go_wp2_with (first
                | (go_at_call 36; have tk := tokC; clear tokC; refine Hck.out.mono ?_; rw [Hc.out]; rintro e w3 ⟨rfl, hbx⟩; have hBc := bjoin hB2 hB2.size hbx; have Lc := (hbx.block _ (lt_of_blk HL2.out)).trans HL2.out; have Ic := HI2.out.later hbx; have tokB : Nat := 0; clear hbx; clear d0 d1 d2; have d0 := cell_of_blk Lc 0; have d1 := cell_of_blk Lc 1; have d2 := cell_of_blk Lc 2)
                | (go_at_call 72; have tk := tokB; clear tokB; refine (bw_byte _ _ bt 32 _ rfl _ Ic (by have := Hbl.out; omega) (Nat.le_refl _)).mono ?_; rintro e w4 ⟨rfl, I', hbx, hox⟩; replace Ic := I'; clear I'; replace hBc := hBc.trans hbx; replace Lc := box_kept hox Hne.out Lc; have tokY : Nat := 0; clear hbx hox; clear d0 d1 d2; have d0 := cell_of_blk Lc 0; have d1 := cell_of_blk Lc 1; have d2 := cell_of_blk Lc 2; obtain ⟨p0, p1, p2⟩ := (H1.later hBc) j y Hy.out)
                | (go_at_call 73; have tk := tokY; clear tokY; refine (joins_k _ _ _ _).mono ?_; rw [jk_eq y, Hjy.out]; rintro e w5 ⟨rfl, hbx⟩; replace Ic := Ic.later hbx; replace hBc := bjoin hBc hBc.size hbx; replace Lc := (hbx.block _ (lt_of_blk Lc)).trans Lc; have tokX : Nat := 0; clear hbx; clear d0 d1 d2; have d0 := cell_of_blk Lc 0; have d1 := cell_of_blk Lc 1; have d2 := cell_of_blk Lc 2)
                | (go_at_call 73; have tk := tokX; clear tokX; refine (joins_k _ _ _ _).mono ?_; rw [jk_eq x, Hjx.out]; rintro e w5 ⟨rfl, hbx⟩; replace Ic := Ic.later hbx; replace hBc := bjoin hBc hBc.size hbx; replace Lc := (hbx.block _ (lt_of_blk Lc)).trans Lc; have tokH : Nat := 0; clear hbx; clear d0 d1 d2; have d0 := cell_of_blk Lc 0; have d1 := cell_of_blk Lc 1; have d2 := cell_of_blk Lc 2)
                | (go_at_call 74; have tk := tokH; clear tokH; refine (bw_str _ _ (bt ++ [32]) [35, 35, 32] _ rfl _ Ic (by rw [List.length_append]; have := Hbl.out; simp; omega) (by decide) (Nat.le_refl _)).mono ?_; rintro e w7 ⟨rfl, I', hbx, hox⟩; replace Ic := I'; clear I'; replace hBc := hBc.trans hbx; replace Lc := box_kept hox Hne.out Lc; have tokW : Nat := 0; clear hbx hox; clear d0 d1 d2; have d0 := cell_of_blk Lc 0; have d1 := cell_of_blk Lc 1; have d2 := cell_of_blk Lc 2)
                | (go_at_call 75; have tk := tokW; clear tokW; refine (Hwr.out _ (hM1.later hBc)).mono ?_; rintro e w8 ⟨rfl, hbx⟩; replace Ic := Ic.later hbx; replace hBc := bjoin hBc hBc.size hbx; have tokS : Nat := 0; clear hbx; clear Lc d0 d1 d2)
                | (go_at_call 74; have tk := tokS; clear tokS; refine (bw_str _ _ (bt ++ [32] ++ [35, 35, 32]) (wt) _ rfl _ Ic (by (try simp only [List.length_append, List.length_cons, List.length_nil]); have := Hbl.out; omega) (by have := Hwl.out; omega) (Nat.le_refl _)).mono ?_; rintro e w9 ⟨rfl, I', hbx, hox⟩; replace Ic := I'; replace hBc := hBc.trans hbx; clear hbx hox))
              go_roundw
              case rel =>
                refine ⟨j + 1 + 1, bt ++ [32] ++ [35, 35, 32] ++ wt, by omega, by go_num, hBc, Ic, by simp only [List.length_append, List.length_cons, List.length_nil]; have := Hbt.out; have := Hwl.out; omega, Lib.hid ?_⟩
                rw [hh.out, Hdr.out, Hbody.out, Sp.glue_glue]
                have es : Sp.sep (prev (l) (j + 1)) x = [32, 35, 35, 32] := by
                  rw [show prev (l) (j + 1) = some y from Hy.out]
                  unfold Sp.sep
                  dsimp only
                  rw [Hjy.out, Hjx.out]
                  rfl
                rw [es, show prev (l) (j + 1 + 1) = some x from Hx.out]
                congr 1
                simp only [List.append_assoc, List.cons_append, List.nil_append]
              case measure => simp [intOf] <;> omega
      · have hc1 : (Sp.check x != 0) = true := by rw [bne_iff_ne]; exact hc
        have Hc := Lib.hid hc
        clear hc
        go_wp2_with (first
            | (go_at_call 36; refine Hck.out.mono ?_; rintro e w3 ⟨rfl, hb3⟩; have hB3 := bjoin hB2 hB2.size hb3))
        go_ret2
        have hfin : X = .error (Sp.check x) := by rw [hh.out, Hdr.out, Sp.body_bad _ _ _ _ Hc.out]; rfl
        rw [HT.out, hfin]
        exact ⟨rfl, (hb1.trans (hB3.mono hb1.size))⟩
    · have hfin : X = .ok bt := by
        rw [hh.out, List.drop_of_length_le (by rw [show l.length = l.length from rfl]; omega)]
        simp [Sp.body, Sp.glue]
      have Hfin := Lib.hid hfin
      clear hfin
      by_cases hbl : 65536 < bt.length
      · have hlen : decide (65536 < (bt.length : Int)) = true := by simp; omega
        go_wp2_with (first | (go_at_call 76; refine (b_len _ _ bt _ hI).mono ?_; rintro e w2 ⟨rfl, rfl⟩))
        go_ret2
        rw [HT.out, Hfin.out]
        refine ⟨?_, hb1.trans (hB.mono hb1.size)⟩
        unfold Sp.finish
        dsimp only
        rw [if_pos hbl]
        rfl
      · have hlen : decide (65536 < (bt.length : Int)) = false := by simp; omega
        go_wp2_with (first 
          | (go_at_call 76; refine (b_len _ _ bt _ hI).mono ?_; rintro e w2 ⟨rfl, rfl⟩)
          | (go_at_call 77; refine (b_string _ _ bt _ hI (Nat.le_refl _)).mono ?_; rintro e w3 ⟨rfl, hb3⟩))
        go_ret2
        rw [HT.out, Hfin.out]
        refine ⟨?_, hb1.trans ((hB.trans hb3).mono hb1.size)⟩
        unfold Sp.finish
        dsimp only
        rw [if_neg hbl]
        rfl
end Go.Proofs.YtjghijeblddijaaGreatDoor
