/- Walks of the reference of chapter 04: joined, written. Walks of the reference of chapter 04: Check. Walks of the reference of chapter 04: Text. -/
import Derived.Test.YtjghijeblddijaaGreatDoorRefWalkJ
import Derived.Test.YtjghijeblddijaaGreatDoorStropCheck
import Derived.Test.YtjghijeblddijaaGreatDoorRefWalkL
import Derived.Test.YtjghijeblddijaaGreatDoorStropSame
import Derived.BigQuiet
import Derived.Test.YtjghijeblddijaaGreatDoorStropTextW
set_option linter.unusedVariables false
namespace Go.Proofs.YtjghijeblddijaaGreatDoor
open Go.RowKit
set_option maxRecDepth 100000 in
set_option maxHeartbeats 4000000 in
theorem rjoined_c (x : Sp.Sym) (w : World) :
    Calls Tryz.prog 78 #[symV x] w fun e w' => e = .returned (.bool (Sp.joins x)) ∧ Below w.heap.size w w' := by
  obtain ⟨k, t, p⟩ := x
  unfold symV Sp.joins
  dsimp only
  go_enter Tryz.func78, Tryz.ntmps78
  go_wp2
  all_goals (go_ret; exact ⟨ret_bool (by simp [*]), below_alloc0 (Below.refl _ _) _⟩)
/-- What the reference's written leaves. -/
def RW (w : World) (txt : ByteArray) (k p : Int) (r : Nat) (e : Ending) (w' : World) : Prop := e = .returned (.string ⟨(Sp.written ⟨k, bs txt, p⟩ r).toArray⟩) ∧ Below w.heap.size w w'
set_option maxRecDepth 100000 in
set_option maxHeartbeats 4000000 in
theorem rwritten_bold0 (txt : ByteArray) (p : Int) (w : World) :
    Calls Tryz.prog 70 #[.agg #[.int .i64 1, .string txt, .int .i64 p], .int .i64 0] w (RW w txt 1 p 0) := by
  have hfin : (⟨(Sp.written ⟨1, bs txt, p⟩ 0).toArray⟩ : ByteArray) = txt := by unfold Sp.written; simp [of_bs]
  unfold RW
  rw [hfin]
  clear hfin
  go_enter Tryz.func70, Tryz.ntmps70
  go_wp2
  all_goals (go_ret; exact ⟨rfl, below_alloc0 (Below.refl _ _) _⟩)
set_option maxRecDepth 100000 in
set_option maxHeartbeats 4000000 in
theorem rwritten_bold (txt : ByteArray) (p : Int) (r : Nat) (hr : r = 1 ∨ r = 2) (ht : txt.size ≤ 100000) (w : World) :
    Calls Tryz.prog 70 #[.agg #[.int .i64 1, .string txt, .int .i64 p], .int .i64 (r : Int)] w (RW w txt 1 p r) := by
  have L1 := heap_alloc_new w (.cells #[.int .i64 1, .string txt, .int .i64 p] 28)
  have hB1 : Below w.heap.size w (w.alloc (.cells #[.int .i64 1, .string txt, .int .i64 p] 28)) := below_alloc0 (Below.refl _ _) _
  have e0 : ((r : Int) == 0) = false := by rw [beq_eq_false_iff_ne]; omega
  unfold RW
  have tk : Nat := 0
  go_enter Tryz.func70, Tryz.ntmps70
  go_wp2
  generalize w.alloc (.cells #[.int .i64 1, .string txt, .int .i64 p] 28) = W at *
  go_loopw [5, 6] (fun x t wr => ∃ (k : Nat) (l : List UInt8), k ≤ txt.size ∧ t = .int .i64 k ∧ x = .string ⟨l.toArray⟩ ∧ l.length ≤ k ∧ Below W.heap.size W wr ∧ Hid (l = ((bs txt).take k).map Sp.low)) (fun _ t _ => txt.size - (intOf t).toNat)
  case atStart => exact ⟨0, [], by omega, rfl, rfl, by simp, Below.refl _ _, Lib.hid rfl⟩
  case round =>
    obtain ⟨k, l, hk, rfl, rfl, hll, hB, hh⟩ := hrel
    have q1 := cell_later hB (cell_of_blk L1 1)
    by_cases hlt : k < txt.size
    · have hcv := one_byte wr _ (Sp.low txt[k]) rfl
      have hcat := Lib.hid (bcat l [Sp.low txt[k]])
      have hts := Lib.hid (take_snoc txt k hlt)
      have hxs : l.length + 1 ≤ 9223372036854775807 := by omega
      go_wp2_with (go_at_call 128; refine (rlower_c _ _).mono ?_; rintro e w' ⟨rfl, rfl⟩)
      go_roundw
      case rel =>
        refine ⟨k + 1, l ++ [Sp.low txt[k]], by omega, by go_num, by rw [hcat.out], by simp; omega, below_alloc0 hB _, Lib.hid ?_⟩
        rw [hts.out, List.map_append, ← hh.out]; rfl
      case measure => simp [intOf]; omega
    · have hh2 : l = (bs txt).map Sp.low := by have h := hh.out; rw [List.take_of_length_le (by rw [bs_length]; omega)] at h; exact h
      have hs1 : 1 + l.length ≤ 9223372036854775807 := by omega
      have hs2 : 1 + l.length + 1 ≤ 9223372036854775807 := by omega
      have hBf := bjoin hB1 hB1.size hB
      rcases hr with rfl | rfl
      · have hfin : (⟨#[46]⟩ : ByteArray) ++ ⟨l.toArray⟩ = ⟨(Sp.written ⟨1, bs txt, p⟩ 1).toArray⟩ := by
          rw [show (⟨#[46]⟩ : ByteArray) = ⟨([46] : List UInt8).toArray⟩ from rfl, bcat, hh2]; rfl
        have Hfin := Lib.hid hfin
        clear hfin hh2 hh
        go_wp2
        go_ret
        exact ⟨by rw [Hfin.out]; rfl, hBf⟩
      · have hfin : (⟨#[39]⟩ : ByteArray) ++ ⟨l.toArray⟩ ++ ⟨#[39]⟩ = ⟨(Sp.written ⟨1, bs txt, p⟩ 2).toArray⟩ := by
          rw [show (⟨#[39]⟩ : ByteArray) = ⟨([39] : List UInt8).toArray⟩ from rfl, bcat, bcat, hh2]; rfl
        have Hfin := Lib.hid hfin
        clear hfin hh2 hh
        go_wp2
        go_ret
        exact ⟨by rw [Hfin.out]; rfl, hBf⟩
theorem Sp.dq_snoc (l : List UInt8) (c : UInt8) : Sp.dq (l ++ [c]) = Sp.dq l ++ (if c = 34 then [34, 34] else [c]) := by
  unfold Sp.dq
  rw [List.flatMap_append]; simp
set_option maxRecDepth 100000 in
set_option maxHeartbeats 4000000 in
theorem rwritten_str (txt : ByteArray) (p : Int) (r : Nat) (ht : txt.size ≤ 100000) (w : World) :
    Calls Tryz.prog 70 #[.agg #[.int .i64 6, .string txt, .int .i64 p], .int .i64 (r : Int)] w (RW w txt 6 p r) := by
  have L1 := heap_alloc_new w (.cells #[.int .i64 6, .string txt, .int .i64 p] 28)
  have hB1 : Below w.heap.size w (w.alloc (.cells #[.int .i64 6, .string txt, .int .i64 p] 28)) := below_alloc0 (Below.refl _ _) _
  unfold RW
  go_enter Tryz.func70, Tryz.ntmps70
  go_wp2
  generalize w.alloc (.cells #[.int .i64 6, .string txt, .int .i64 p] 28) = W at *
  have q1 := cell_of_blk L1 1
  go_loop [7, 8] (fun x t => ∃ (k : Nat) (l : List UInt8), k ≤ txt.size ∧ t = .int .i64 k ∧ x = .string ⟨l.toArray⟩ ∧ l.length ≤ 2 * k ∧ Hid (l = Sp.dq ((bs txt).take k))) (fun _ t => txt.size - (intOf t).toNat)
  case atStart => exact ⟨0, [], by omega, rfl, rfl, by simp, Lib.hid rfl⟩
  case round =>
    obtain ⟨k, l, hk, rfl, rfl, hll, hh⟩ := hrel
    by_cases hlt : k < txt.size
    · have hex := Lib.hid (extract_bat txt k hlt)
      have hb := Lib.hid (bat_in txt k hlt)
      have hts := Lib.hid (take_snoc txt k hlt)
      have hxs : l.length + 1 ≤ 9223372036854775807 := by omega
      have hxs2 : l.length + 1 + 1 ≤ 9223372036854775807 := by omega
      by_cases hq : txt[k] = 34
      · have e34 : ((txt[k].toNat : Int) == 34) = true := by rw [hq]; rfl
        have hc1 := Lib.hid (bcat l [34])
        have hc2 := Lib.hid (bcat (l ++ [34]) [bat txt k])
        have Hq := Lib.hid hq
        clear hq
        go_wp2
        go_round
        case rel =>
          refine ⟨k + 1, l ++ [34] ++ [bat txt k], by omega, by go_num, ?_, by simp; omega, Lib.hid ?_⟩
          · rw [← hc2.out, ← hc1.out, ← hex.out]
          · rw [hts.out, Sp.dq_snoc, if_pos Hq.out, ← hh.out, hb.out, Hq.out]; simp
        case measure => simp [intOf]; omega
      · have e34 := byte_isnt _ 34 34 rfl hq
        have hc1 := Lib.hid (bcat l [bat txt k])
        have Hq : Hid (txt[k] ≠ 34) := Lib.hid hq
        clear hq
        go_wp2
        go_round
        case rel =>
          refine ⟨k + 1, l ++ [bat txt k], by omega, by go_num, ?_, by simp; omega, Lib.hid ?_⟩
          · rw [← hc1.out, ← hex.out]
          · rw [hts.out, Sp.dq_snoc, if_neg Hq.out, ← hh.out, hb.out]
        case measure => simp [intOf]; omega
    · have hh2 : l = Sp.dq (bs txt) := by have h := hh.out; rw [List.take_of_length_le (by rw [bs_length]; omega)] at h; exact h
      have hs1 : 1 + l.length ≤ 9223372036854775807 := by omega
      have hs2 : 1 + l.length + 1 ≤ 9223372036854775807 := by omega
      have hfin : (⟨#[34]⟩ : ByteArray) ++ ⟨l.toArray⟩ ++ ⟨#[34]⟩ = ⟨(Sp.written ⟨6, bs txt, p⟩ r).toArray⟩ := by
        rw [show (⟨#[34]⟩ : ByteArray) = ⟨([34] : List UInt8).toArray⟩ from rfl, bcat, bcat, hh2]; rfl
      have Hfin := Lib.hid hfin
      clear hfin hh2 hh
      go_wp2
      go_ret
      exact ⟨by rw [Hfin.out]; rfl, hB1⟩
set_option maxRecDepth 100000 in
set_option maxHeartbeats 4000000 in
theorem rwritten_fmt (txt : ByteArray) (p : Int) (r : Nat) (ht : txt.size ≤ 100000) (w : World) :
    Calls Tryz.prog 70 #[.agg #[.int .i64 7, .string txt, .int .i64 p], .int .i64 (r : Int)] w (RW w txt 7 p r) := by
  have hs1 : 1 + txt.size ≤ 9223372036854775807 := by omega
  have hs2 : 1 + txt.size + 1 ≤ 9223372036854775807 := by omega
  have hfin : (⟨#[36]⟩ : ByteArray) ++ txt ++ ⟨#[36]⟩ = ⟨(Sp.written ⟨7, bs txt, p⟩ r).toArray⟩ := by
    rw [show (⟨#[36]⟩ : ByteArray) = ⟨([36] : List UInt8).toArray⟩ from rfl]
    conv => lhs; rw [← of_bs txt]
    rw [bcat, bcat]; rfl
  have Hfin := Lib.hid hfin
  clear hfin
  unfold RW
  go_enter Tryz.func70, Tryz.ntmps70
  go_wp2
  all_goals (go_ret; exact ⟨by rw [Hfin.out]; rfl, below_alloc0 (Below.refl _ _) _⟩)
set_option maxRecDepth 100000 in
set_option maxHeartbeats 4000000 in
theorem rwritten_any (txt : ByteArray) (k p : Int) (h1 : k ≠ 1) (h6 : k ≠ 6) (h7 : k ≠ 7) (r : Nat) (w : World) :
    Calls Tryz.prog 70 #[.agg #[.int .i64 k, .string txt, .int .i64 p], .int .i64 (r : Int)] w (RW w txt k p r) := by
  have hfin : (⟨(Sp.written ⟨k, bs txt, p⟩ r).toArray⟩ : ByteArray) = txt := by
    unfold Sp.written Sp.asText
    dsimp only
    rw [if_neg h1, if_neg h6, if_neg h7, of_bs]
  have e1 : (k == 1) = false := beq_eq_false_iff_ne.2 h1
  have e6 : (k == 6) = false := beq_eq_false_iff_ne.2 h6
  have e7 : (k == 7) = false := beq_eq_false_iff_ne.2 h7
  unfold RW
  rw [hfin]
  clear hfin h1 h6 h7
  go_enter Tryz.func70, Tryz.ntmps70
  go_wp2
  all_goals (go_ret; exact ⟨rfl, below_alloc0 (Below.refl _ _) _⟩)
theorem rwritten_c (txt : ByteArray) (k p : Int) (r : Nat) (hr : r ≤ 2) (ht : txt.size ≤ 100000) (w : World) :
    Calls Tryz.prog 70 #[.agg #[.int .i64 k, .string txt, .int .i64 p], .int .i64 (r : Int)] w (RW w txt k p r) := by
  by_cases h1 : k = 1
  · subst h1
    by_cases h0 : r = 0
    · subst h0; exact rwritten_bold0 txt p w
    · exact rwritten_bold txt p r (by omega) ht w
  by_cases h6 : k = 6
  · subst h6; exact rwritten_str txt p r ht w
  by_cases h7 : k = 7
  · subst h7; exact rwritten_fmt txt p r ht w
  exact rwritten_any txt k p h1 h6 h7 r w
end Go.Proofs.YtjghijeblddijaaGreatDoor
set_option linter.unusedVariables false
namespace Go.Proofs.YtjghijeblddijaaGreatDoor
open Go.RowKit
theorem Sp.plain_iff (c : UInt8) : Sp.plainC c = true ↔ (32 ≤ c.toNat ∧ c.toNat ≤ 126) :=
  Sp.ascii256 (P := fun c => Sp.plainC c = true ↔ (32 ≤ c.toNat ∧ c.toNat ≤ 126)) (by decide +kernel) c
/-- What the reference's Check leaves. -/
def RC (w : World) (k : Int) (txt : ByteArray) (p : Int) (e : Ending) (w' : World) : Prop := e = .returned (.int .i64 (Sp.rcheck ⟨k, bs txt, p⟩)) ∧ Below w.heap.size w w'
set_option maxRecDepth 100000 in
set_option maxHeartbeats 4000000 in
theorem rcheck_kind (k : Int) (txt : ByteArray) (p : Int) (h : k < 0 ∨ 8 < k) (w : World) :
    Calls Tryz.prog 37 #[.agg #[.int .i64 k, .string txt, .int .i64 p]] w (RC w k txt p) := by
  have hfin : Sp.rcheck ⟨k, bs txt, p⟩ = 13 := by unfold Sp.rcheck; rw [if_pos h]
  unfold RC
  rw [hfin]
  clear hfin
  go_enter Tryz.func37, Tryz.ntmps37
  go_wp2
  all_goals (go_ret; exact ⟨rfl, below_alloc0 (Below.refl _ _) _⟩)
set_option maxRecDepth 100000 in
set_option maxHeartbeats 4000000 in
theorem rcheck_end (t : List UInt8) (p : Int) (w : World) :
    Calls Tryz.prog 37 #[.agg #[.int .i64 0, .string ⟨t.toArray⟩, .int .i64 p]] w (RC w 0 ⟨t.toArray⟩ p) := by
  have hfin : Sp.rcheck ⟨0, bs ⟨t.toArray⟩, p⟩ = if t.isEmpty = true then 0 else 2 := by
    unfold Sp.rcheck
    rw [bs_of]
    dsimp only
    rw [if_neg (by omega), if_pos rfl]
    cases t <;> rfl
  unfold RC
  rw [hfin]
  clear hfin
  cases ht : t.isEmpty with
  | true =>
    rw [if_pos rfl]
    go_enter Tryz.func37, Tryz.ntmps37
    go_wp2
    all_goals (go_ret; exact ⟨rfl, below_alloc0 (Below.refl _ _) _⟩)
  | false =>
    rw [if_neg (by decide)]
    go_enter Tryz.func37, Tryz.ntmps37
    go_wp2
    all_goals (go_ret; exact ⟨rfl, below_alloc0 (Below.refl _ _) _⟩)
set_option maxRecDepth 100000 in
set_option maxHeartbeats 4000000 in
theorem rcheck_str (txt : ByteArray) (p : Int) (ht : txt.size ≤ 30000) (w : World) :
    Calls Tryz.prog 37 #[.agg #[.int .i64 6, .string txt, .int .i64 p]] w (RC w 6 txt p) := by
  have hfin : Sp.rcheck ⟨6, bs txt, p⟩ = if (bs txt).all Sp.plainC = true then 0 else 2 := rfl
  have L1 := heap_alloc_new w (.cells #[.int .i64 6, .string txt, .int .i64 p] 28)
  have hB1 : Below w.heap.size w (w.alloc (.cells #[.int .i64 6, .string txt, .int .i64 p] 28)) := below_alloc0 (Below.refl _ _) _
  unfold RC
  rw [hfin]
  clear hfin
  generalize hz : (if (bs txt).all Sp.plainC = true then (0 : Int) else 2) = z
  have HZ := Lib.hid hz
  clear hz
  go_enter Tryz.func37, Tryz.ntmps37
  go_wp2
  generalize w.alloc (.cells #[.int .i64 6, .string txt, .int .i64 p] 28) = W at *
  have q1 := cell_of_blk L1 1
  go_loop [3, 4] (fun n t => ∃ k m : Nat, k ≤ txt.size ∧ t = .int .i64 k ∧ n = .int .i64 m ∧ m ≤ 2 + 2 * k ∧ Hid (((bs txt).take k).all Sp.plainC = true)) (fun _ t => txt.size - (intOf t).toNat)
  case atStart => exact ⟨0, 2, by omega, rfl, rfl, by omega, Lib.hid rfl⟩
  case round =>
    obtain ⟨k, m, hk, rfl, rfl, hm, hh⟩ := hrel
    by_cases hlt : k < txt.size
    · have hts := Lib.hid (take_snoc txt k hlt)
      have hmem : txt[k] ∈ bs txt := List.getElem_mem (l := bs txt) (n := k) (by simpa using hlt)
      have Hmem := Lib.hid hmem
      clear hmem
      by_cases hp : Sp.plainC txt[k] = true
      · have hp2 := (Sp.plain_iff _).1 hp
        have e1 : decide ((txt[k].toNat : Int) < 32) = false := decide_eq_false (by omega)
        have e2 : decide (126 < (txt[k].toNat : Int)) = false := decide_eq_false (by omega)
        have Hp := Lib.hid hp
        clear hp hp2
        go_wp2
        all_goals go_round
        case rel =>
          refine ⟨k + 1, m + 1 + 1, by omega, by go_num, by go_num, by omega, Lib.hid ?_⟩
          rw [hts.out, List.all_append, hh.out]; simp [Hp.out]
        case measure => simp [intOf]; omega
        case rel =>
          refine ⟨k + 1, m + 1, by omega, by go_num, by go_num, by omega, Lib.hid ?_⟩
          rw [hts.out, List.all_append, hh.out]; simp [Hp.out]
        case measure => simp [intOf]; omega
      · have hp2 : (txt[k].toNat : Int) < 32 ∨ ¬ (txt[k].toNat : Int) < 32 ∧ 126 < (txt[k].toNat : Int) := by
          have := mt (Sp.plain_iff _).2 hp
          omega
        have hall : ¬ (bs txt).all Sp.plainC = true := fun h => hp (List.all_eq_true.1 h _ Hmem.out)
        have hz2 : z = 2 := by rw [← HZ.out, if_neg hall]
        clear hp hall
        rcases hp2 with e1 | ⟨e0, e1⟩
        · have e1' := decide_eq_true e1
          clear e1
          go_wp2
          go_ret
          exact ⟨rfl, hB1⟩
        · have e1' := decide_eq_true e1
          have e0' := decide_eq_false e0
          clear e1 e0
          go_wp2
          go_ret
          exact ⟨rfl, hB1⟩
    · have hh2 : (bs txt).all Sp.plainC = true := by have h := hh.out; rw [List.take_of_length_le (by rw [bs_length]; omega)] at h; exact h
      have hz0 : z = 0 := by rw [← HZ.out, if_pos hh2]
      have e1 : decide ((65536 : Int) < (m : Int)) = false := decide_eq_false (by omega)
      have e2 : decide (65536 < m) = false := decide_eq_false (by omega)
      clear hh2 hh
      go_wp2
      go_ret
      exact ⟨rfl, hB1⟩
/-- The other kinds: the text is read again. -/
theorem rcheck_again (k : Int) (txt : ByteArray) (p : Int) (h1 : 0 < k) (h8 : k ≤ 8) (h6 : k ≠ 6) (X : Except (Int × Int) (List Sp.Sym)) (hX : Sp.symbols (Sp.asText k (bs txt)) 0 = X) : Sp.rcheck ⟨k, bs txt, p⟩ = if Sp.lone k (bs txt) X = true then 0 else 2 := by
  unfold Sp.rcheck
  dsimp only
  rw [if_neg (by omega), if_neg (by omega), if_neg h6, hX]
theorem rwritten_z (txt : ByteArray) (k p : Int) (ht : txt.size ≤ 100000) (w : World) :
    Calls Tryz.prog 70 #[.agg #[.int .i64 k, .string txt, .int .i64 p], .int .i64 0] w fun e w' => e = .returned (.string ⟨(Sp.asText k (bs txt)).toArray⟩) ∧ Below w.heap.size w w' := by
  have h := rwritten_c txt k p 0 (by decide) ht w
  unfold RW at h
  rw [Sp.written_zero] at h
  exact h
set_option maxRecDepth 100000 in
set_option maxHeartbeats 8000000 in
theorem rcheck_err (k : Int) (txt : ByteArray) (p : Int) (h1 : 0 < k) (h8 : k ≤ 8) (h6 : k ≠ 6) (ht : txt.size ≤ 30000) (f : Int × Int) (hX : Sp.symbols (Sp.asText k (bs txt)) 0 = .error f) (w : World) :
    Calls Tryz.prog 37 #[.agg #[.int .i64 k, .string txt, .int .i64 p]] w (RC w k txt p) := by
  have hfin : Sp.rcheck ⟨k, bs txt, p⟩ = 2 := rcheck_again k txt p h1 h8 h6 _ hX
  have L1 := heap_alloc_new w (.cells #[.int .i64 k, .string txt, .int .i64 p] 28)
  have hB1 : Below w.heap.size w (w.alloc (.cells #[.int .i64 k, .string txt, .int .i64 p] 28)) := below_alloc0 (Below.refl _ _) _
  have e1 : decide (k < 0) = false := decide_eq_false (by omega)
  have e2 : decide (8 < k) = false := decide_eq_false (by omega)
  have e3 : (k == 0) = false := beq_eq_false_iff_ne.2 (by omega)
  have e4 : (k == 6) = false := beq_eq_false_iff_ne.2 h6
  have e5 : decide ((65536 : Int) < (txt.size : Int) + 2) = false := decide_eq_false (by omega)
  have e6 : decide (65536 < txt.size + 2) = false := decide_eq_false (by omega)
  have hfc : (f.2 != 0) = true := bne_iff_ne.2 (Sp.symbols_fault _ _ _ hX).2.2
  have HX := Lib.hid hX
  unfold RC
  rw [hfin]
  clear hfin hX h1 h8 h6
  go_enter Tryz.func37, Tryz.ntmps37
  go_wp2_with (first
    | (go_at_call 70; refine (rwritten_z txt k p (by omega) _).mono ?_; rintro e w2 ⟨rfl, hb2⟩; have hB2 := bjoin hB1 hB1.size hb2)
    | (go_at_call 41; refine (rsymbols_bad _ _ rfl 0 f HX.out _).mono ?_; rintro e w3 ⟨rfl, hb3⟩; have hB3 := bjoin hB2 hB2.size hb3))
  have hA := below_alloc0 (Below.refl _ w3) (.cells #[.int .i64 f.1, .int .i64 f.2] 35)
  have M1 := ((bjoin (bjoin hb2 hb2.size hb3) (bjoin hb2 hb2.size hb3).size hA).block _ (lt_of_blk L1)).trans L1
  have LF := heap_alloc_new w3 (.cells #[.int .i64 f.1, .int .i64 f.2] 35)
  have hBF := bjoin hB3 hB3.size hA
  have m0 := cell_of_blk M1 0
  have m1 := cell_of_blk M1 1
  have d1 := cell_of_blk LF 1
  have tk : Nat := 0
  generalize w3.alloc (.cells #[.int .i64 f.1, .int .i64 f.2] 35) = W3 at *
  have HBF := Lib.hid hBF
  clear hb2 hb3 hB2 hB3 hA M1 LF hBF L1 hB1
  go_quiet (fail)
  go_wp2
  go_ret
  exact ⟨rfl, bdrewN HBF.out _⟩
set_option maxRecDepth 100000 in
set_option maxHeartbeats 8000000 in
theorem rcheck_ne (k : Int) (txt : ByteArray) (p : Int) (h1 : 0 < k) (h8 : k ≤ 8) (h6 : k ≠ 6) (ht : txt.size ≤ 30000) (l : List Sp.Sym) (hl : l.length ≠ 2) (hX : Sp.symbols (Sp.asText k (bs txt)) 0 = .ok l) (w : World) :
    Calls Tryz.prog 37 #[.agg #[.int .i64 k, .string txt, .int .i64 p]] w (RC w k txt p) := by
  have hfin : Sp.rcheck ⟨k, bs txt, p⟩ = 2 := by
    rw [rcheck_again k txt p h1 h8 h6 _ hX]
    have hlone : Sp.lone k (bs txt) (.ok l) = false := by
      match l, hl with
      | [], _ => rfl
      | [_], _ => rfl
      | _ :: _ :: _ :: _, _ => rfl
    rw [if_neg (by rw [hlone]; decide)]
  have L1 := heap_alloc_new w (.cells #[.int .i64 k, .string txt, .int .i64 p] 28)
  have hB1 : Below w.heap.size w (w.alloc (.cells #[.int .i64 k, .string txt, .int .i64 p] 28)) := below_alloc0 (Below.refl _ _) _
  have e1 : decide (k < 0) = false := decide_eq_false (by omega)
  have e2 : decide (8 < k) = false := decide_eq_false (by omega)
  have e3 : (k == 0) = false := beq_eq_false_iff_ne.2 (by omega)
  have e4 : (k == 6) = false := beq_eq_false_iff_ne.2 h6
  have e5 : decide ((65536 : Int) < (txt.size : Int) + 2) = false := decide_eq_false (by omega)
  have e6 : decide (65536 < txt.size + 2) = false := decide_eq_false (by omega)
  have hn : ((l.length : Int) != 2) = true := by rw [bne_iff_ne]; omega
  have hn2 : (l.length != 2) = true := by rw [bne_iff_ne]; exact hl
  clear hl
  have HX := Lib.hid hX
  unfold RC
  rw [hfin]
  clear hfin hX h1 h8 h6
  go_enter Tryz.func37, Tryz.ntmps37
  go_wp2_with (first
    | (go_at_call 70; refine (rwritten_z txt k p (by omega) _).mono ?_; rintro e w2 ⟨rfl, hb2⟩; have hB2 := bjoin hB1 hB1.size hb2)
    | (go_at_call 41; refine (rsymbols_ok _ _ rfl 0 l _ rfl HX.out _).mono ?_; rintro e w3 ⟨A, c, rfl, hb3, hown⟩; have hB3 := bjoin hB2 hB2.size hb3))
  have hA := below_alloc0 (Below.refl _ w3) (.cells #[.int .i64 0, .int .i64 0] 35)
  have M1 := ((bjoin (bjoin hb2 hb2.size hb3) (bjoin hb2 hb2.size hb3).size hA).block _ (lt_of_blk L1)).trans L1
  have LF := heap_alloc_new w3 (.cells #[.int .i64 0, .int .i64 0] 35)
  have hBF := bjoin hB3 hB3.size hA
  have m0 := cell_of_blk M1 0
  have m1 := cell_of_blk M1 1
  have d1 := cell_of_blk LF 1
  clear hown
  generalize w3.alloc (.cells #[.int .i64 0, .int .i64 0] 35) = W3 at *
  have HBF := Lib.hid hBF
  clear hb2 hb3 hB2 hB3 hA M1 LF hBF L1 hB1
  go_quiet (fail)
  go_wp2
  go_ret
  exact ⟨rfl, bdrewN HBF.out _⟩
set_option maxRecDepth 100000 in
set_option maxHeartbeats 8000000 in
theorem rcheck_kind2 (k : Int) (txt : ByteArray) (p : Int) (h1 : 0 < k) (h8 : k ≤ 8) (h6 : k ≠ 6) (ht : txt.size ≤ 30000) (x y : Sp.Sym) (hX : Sp.symbols (Sp.asText k (bs txt)) 0 = .ok [x, y]) (hk : x.kind ≠ k) (w : World) :
    Calls Tryz.prog 37 #[.agg #[.int .i64 k, .string txt, .int .i64 p]] w (RC w k txt p) := by
  have hfin : Sp.rcheck ⟨k, bs txt, p⟩ = 2 := by
    rw [rcheck_again k txt p h1 h8 h6 _ hX]
    rw [show Sp.lone k (bs txt) (.ok [x, y]) = (x.kind == k && x.text == bs txt) from rfl]
    rw [if_neg (by rw [beq_eq_false_iff_ne.2 hk, Bool.false_and]; decide)]  -- another kind
  have L1 := heap_alloc_new w (.cells #[.int .i64 k, .string txt, .int .i64 p] 28)
  have hB1 : Below w.heap.size w (w.alloc (.cells #[.int .i64 k, .string txt, .int .i64 p] 28)) := below_alloc0 (Below.refl _ _) _
  have e1 : decide (k < 0) = false := decide_eq_false (by omega)
  have e2 : decide (8 < k) = false := decide_eq_false (by omega)
  have e3 : (k == 0) = false := beq_eq_false_iff_ne.2 (by omega)
  have e4 : (k == 6) = false := beq_eq_false_iff_ne.2 h6
  have e5 : decide ((65536 : Int) < (txt.size : Int) + 2) = false := decide_eq_false (by omega)
  have e6 : decide (65536 < txt.size + 2) = false := decide_eq_false (by omega)
  have hkn : (x.kind != k) = true := bne_iff_ne.2 hk
  clear hk
  have HX := Lib.hid hX
  unfold RC
  rw [hfin]
  clear hfin hX h1 h8 h6
  go_enter Tryz.func37, Tryz.ntmps37
  go_wp2_with (first
    | (go_at_call 70; refine (rwritten_z txt k p (by omega) _).mono ?_; rintro e w2 ⟨rfl, hb2⟩; have hB2 := bjoin hB1 hB1.size hb2)
    | (go_at_call 41; refine (rsymbols_ok _ _ rfl 0 [x, y] 2 rfl HX.out _).mono ?_; rintro e w3 ⟨A, c, rfl, hb3, hown⟩; have hB3 := bjoin hB2 hB2.size hb3))
  have hA := below_alloc0 (Below.refl _ w3) (.cells #[.int .i64 0, .int .i64 0] 35)
  have M1 := ((bjoin (bjoin hb2 hb2.size hb3) (bjoin hb2 hb2.size hb3).size hA).block _ (lt_of_blk L1)).trans L1
  have LF := heap_alloc_new w3 (.cells #[.int .i64 0, .int .i64 0] 35)
  have hBF := bjoin hB3 hB3.size hA
  have m0 := cell_of_blk M1 0
  have m1 := cell_of_blk M1 1
  have d1 := cell_of_blk LF 1
  obtain ⟨g, rfl, hg, q0, q1, q2⟩ := row_cells hown 0 x rfl
  replace q0 : w3.cell? ⟨g, 0, none⟩ = some (.int .i64 x.kind) := q0
  replace q1 : w3.cell? ⟨g, 1, none⟩ = some (.string ⟨x.text.toArray⟩) := q1
  replace q0 := cell_later hA q0
  replace q1 := cell_later hA q1
  clear hown q2
  generalize w3.alloc (.cells #[.int .i64 0, .int .i64 0] 35) = W3 at *
  have HBF := Lib.hid hBF
  clear hb2 hb3 hB2 hB3 hA M1 LF hBF L1 hB1
  go_quiet (fail)
  go_wp2
  go_ret
  exact ⟨rfl, bdrewN HBF.out _⟩
set_option maxRecDepth 100000 in
set_option maxHeartbeats 8000000 in
theorem rcheck_text (k : Int) (txt : ByteArray) (p : Int) (h1 : 0 < k) (h8 : k ≤ 8) (h6 : k ≠ 6) (ht : txt.size ≤ 30000) (x y : Sp.Sym) (hX : Sp.symbols (Sp.asText k (bs txt)) 0 = .ok [x, y]) (hk : x.kind = k) (hx : x.text ≠ bs txt) (w : World) :
    Calls Tryz.prog 37 #[.agg #[.int .i64 k, .string txt, .int .i64 p]] w (RC w k txt p) := by
  have hfin : Sp.rcheck ⟨k, bs txt, p⟩ = 2 := by
    rw [rcheck_again k txt p h1 h8 h6 _ hX]
    rw [show Sp.lone k (bs txt) (.ok [x, y]) = (x.kind == k && x.text == bs txt) from rfl]
    rw [if_neg (by rw [beq_eq_false_iff_ne.2 hx, Bool.and_false]; decide)]
  have L1 := heap_alloc_new w (.cells #[.int .i64 k, .string txt, .int .i64 p] 28)
  have hB1 : Below w.heap.size w (w.alloc (.cells #[.int .i64 k, .string txt, .int .i64 p] 28)) := below_alloc0 (Below.refl _ _) _
  have e1 : decide (k < 0) = false := decide_eq_false (by omega)
  have e2 : decide (8 < k) = false := decide_eq_false (by omega)
  have e3 : (k == 0) = false := beq_eq_false_iff_ne.2 (by omega)
  have e4 : (k == 6) = false := beq_eq_false_iff_ne.2 h6
  have e5 : decide ((65536 : Int) < (txt.size : Int) + 2) = false := decide_eq_false (by omega)
  have e6 : decide (65536 < txt.size + 2) = false := decide_eq_false (by omega)
  have hkn : (x.kind != k) = false := by rw [bne_eq_false_iff_eq]; exact hk
  have hxn : (x.text == txt.toList) = false := by rw [beq_eq_false_iff_ne, toList_bs]; exact hx
  clear hk hx
  have HX := Lib.hid hX
  unfold RC
  rw [hfin]
  clear hfin hX h1 h8 h6
  go_enter Tryz.func37, Tryz.ntmps37
  go_wp2_with (first
    | (go_at_call 70; refine (rwritten_z txt k p (by omega) _).mono ?_; rintro e w2 ⟨rfl, hb2⟩; have hB2 := bjoin hB1 hB1.size hb2)
    | (go_at_call 41; refine (rsymbols_ok _ _ rfl 0 [x, y] 2 rfl HX.out _).mono ?_; rintro e w3 ⟨A, c, rfl, hb3, hown⟩; have hB3 := bjoin hB2 hB2.size hb3))
  have hA := below_alloc0 (Below.refl _ w3) (.cells #[.int .i64 0, .int .i64 0] 35)
  have M1 := ((bjoin (bjoin hb2 hb2.size hb3) (bjoin hb2 hb2.size hb3).size hA).block _ (lt_of_blk L1)).trans L1
  have LF := heap_alloc_new w3 (.cells #[.int .i64 0, .int .i64 0] 35)
  have hBF := bjoin hB3 hB3.size hA
  have m0 := cell_of_blk M1 0
  have m1 := cell_of_blk M1 1
  have d1 := cell_of_blk LF 1
  obtain ⟨g, rfl, hg, q0, q1, q2⟩ := row_cells hown 0 x rfl
  replace q0 : w3.cell? ⟨g, 0, none⟩ = some (.int .i64 x.kind) := q0
  replace q1 : w3.cell? ⟨g, 1, none⟩ = some (.string ⟨x.text.toArray⟩) := q1
  replace q0 := cell_later hA q0
  replace q1 := cell_later hA q1
  clear hown q2
  generalize w3.alloc (.cells #[.int .i64 0, .int .i64 0] 35) = W3 at *
  have HBF := Lib.hid hBF
  clear hb2 hb3 hB2 hB3 hA M1 LF hBF L1 hB1
  go_quiet (fail)
  go_wp2
  go_ret
  exact ⟨rfl, bdrewN HBF.out _⟩
set_option maxRecDepth 100000 in
set_option maxHeartbeats 8000000 in
theorem rcheck_right (k : Int) (txt : ByteArray) (p : Int) (h1 : 0 < k) (h8 : k ≤ 8) (h6 : k ≠ 6) (ht : txt.size ≤ 30000) (x y : Sp.Sym) (hX : Sp.symbols (Sp.asText k (bs txt)) 0 = .ok [x, y]) (hk : x.kind = k) (hx : x.text = bs txt) (w : World) :
    Calls Tryz.prog 37 #[.agg #[.int .i64 k, .string txt, .int .i64 p]] w (RC w k txt p) := by
  have hfin : Sp.rcheck ⟨k, bs txt, p⟩ = 0 := by
    rw [rcheck_again k txt p h1 h8 h6 _ hX]
    rw [show Sp.lone k (bs txt) (.ok [x, y]) = (x.kind == k && x.text == bs txt) from rfl]
    rw [if_pos (by rw [hk, hx]; simp)]
  have L1 := heap_alloc_new w (.cells #[.int .i64 k, .string txt, .int .i64 p] 28)
  have hB1 : Below w.heap.size w (w.alloc (.cells #[.int .i64 k, .string txt, .int .i64 p] 28)) := below_alloc0 (Below.refl _ _) _
  have e1 : decide (k < 0) = false := decide_eq_false (by omega)
  have e2 : decide (8 < k) = false := decide_eq_false (by omega)
  have e3 : (k == 0) = false := beq_eq_false_iff_ne.2 (by omega)
  have e4 : (k == 6) = false := beq_eq_false_iff_ne.2 h6
  have e5 : decide ((65536 : Int) < (txt.size : Int) + 2) = false := decide_eq_false (by omega)
  have e6 : decide (65536 < txt.size + 2) = false := decide_eq_false (by omega)
  have hkn : (x.kind != k) = false := by rw [bne_eq_false_iff_eq]; exact hk
  have hxn : (x.text == txt.toList) = true := by rw [beq_iff_eq, toList_bs]; exact hx
  clear hk hx
  have HX := Lib.hid hX
  unfold RC
  rw [hfin]
  clear hfin hX h1 h8 h6
  go_enter Tryz.func37, Tryz.ntmps37
  go_wp2_with (first
    | (go_at_call 70; refine (rwritten_z txt k p (by omega) _).mono ?_; rintro e w2 ⟨rfl, hb2⟩; have hB2 := bjoin hB1 hB1.size hb2)
    | (go_at_call 41; refine (rsymbols_ok _ _ rfl 0 [x, y] 2 rfl HX.out _).mono ?_; rintro e w3 ⟨A, c, rfl, hb3, hown⟩; have hB3 := bjoin hB2 hB2.size hb3))
  have hA := below_alloc0 (Below.refl _ w3) (.cells #[.int .i64 0, .int .i64 0] 35)
  have M1 := ((bjoin (bjoin hb2 hb2.size hb3) (bjoin hb2 hb2.size hb3).size hA).block _ (lt_of_blk L1)).trans L1
  have LF := heap_alloc_new w3 (.cells #[.int .i64 0, .int .i64 0] 35)
  have hBF := bjoin hB3 hB3.size hA
  have m0 := cell_of_blk M1 0
  have m1 := cell_of_blk M1 1
  have d1 := cell_of_blk LF 1
  obtain ⟨g, rfl, hg, q0, q1, q2⟩ := row_cells hown 0 x rfl
  replace q0 : w3.cell? ⟨g, 0, none⟩ = some (.int .i64 x.kind) := q0
  replace q1 : w3.cell? ⟨g, 1, none⟩ = some (.string ⟨x.text.toArray⟩) := q1
  replace q0 := cell_later hA q0
  replace q1 := cell_later hA q1
  clear hown q2
  generalize w3.alloc (.cells #[.int .i64 0, .int .i64 0] 35) = W3 at *
  have HBF := Lib.hid hBF
  clear hb2 hb3 hB2 hB3 hA M1 LF hBF L1 hB1
  go_quiet (fail)
  go_wp2
  go_ret
  exact ⟨rfl, bdrewN HBF.out _⟩
theorem rcheck_x (k : Int) (txt : ByteArray) (p : Int) (ht : txt.size ≤ 30000) (w : World) :
    Calls Tryz.prog 37 #[.agg #[.int .i64 k, .string txt, .int .i64 p]] w (RC w k txt p) := by
  by_cases h : k < 0 ∨ 8 < k
  · exact rcheck_kind k txt p h w
  by_cases h0 : k = 0
  · subst h0
    have := rcheck_end (bs txt) p w
    rw [of_bs] at this
    exact this
  by_cases h6 : k = 6
  · subst h6; exact rcheck_str txt p ht w
  cases hX : Sp.symbols (Sp.asText k (bs txt)) 0 with
  | error f => exact rcheck_err k txt p (by omega) (by omega) h6 ht f hX w
  | ok l =>
    by_cases hl : l.length = 2
    · match l, hl, hX with
      | [x, y], _, hX =>
        by_cases hk : x.kind = k
        · by_cases hx : x.text = bs txt
          · exact rcheck_right k txt p (by omega) (by omega) h6 ht x y hX hk hx w
          · exact rcheck_text k txt p (by omega) (by omega) h6 ht x y hX hk hx w
        · exact rcheck_kind2 k txt p (by omega) (by omega) h6 ht x y hX hk w
    · exact rcheck_ne k txt p (by omega) (by omega) h6 ht l hl hX w
theorem rcheck_c (x : Sp.Sym) (hl : x.text.length ≤ 30000) (w : World) :
    Calls Tryz.prog 37 #[.agg #[.int .i64 x.kind, .string ⟨x.text.toArray⟩, .int .i64 x.pos]] w fun e w' => e = .returned (.int .i64 (Sp.check x)) ∧ Below w.heap.size w w' := by
  have h := rcheck_x x.kind ⟨x.text.toArray⟩ x.pos hl w
  unfold RC at h
  rw [bs_of, Sp.rcheck_eq _ hl] at h
  exact h
end Go.Proofs.YtjghijeblddijaaGreatDoor
set_option linter.unusedVariables false
namespace Go.Proofs.YtjghijeblddijaaGreatDoor
open Go.RowKit
theorem Sp.prev_snoc (l : List Sp.Sym) (k : Nat) (x : Sp.Sym) (r : Nat) (hx : l[k]? = some x) : Sp.bodyText r none (l.take (k + 1)) = Sp.bodyText r none (l.take k) ++ (Sp.sep (prev l k) x ++ Sp.written x r) := by
  obtain ⟨hlt, he⟩ := List.getElem?_eq_some_iff.1 hx
  rw [List.take_succ_eq_append_getElem hlt, he, Sp.bodyText_snoc]
  congr 3
  cases k with
  | zero => rfl
  | succ j =>
    have hj : j < l.length := by omega
    rw [List.take_succ_eq_append_getElem hj, List.getLast?_append, prev, List.getElem?_eq_getElem hj]
    rfl
theorem Sp.bodyText_mono (r : Nat) (l : List Sp.Sym) : ∀ (k n : Nat), k ≤ n → (Sp.bodyText r none (l.take k)).length ≤ (Sp.bodyText r none (l.take n)).length := by
  intro k n h
  induction n with
  | zero => obtain rfl : k = 0 := by omega
            exact Nat.le_refl _
  | succ n ih =>
    rcases Nat.lt_or_ge k (n + 1) with h1 | h1
    · refine Nat.le_trans (ih (by omega)) ?_
      rcases Nat.lt_or_ge n l.length with h2 | h2
      · rw [Sp.prev_snoc l n _ r (List.getElem?_eq_getElem h2), List.length_append]; omega
      · rw [List.take_of_length_le h2, List.take_of_length_le (by omega)]; exact Nat.le_refl _
    · obtain rfl : k = n + 1 := by omega
      exact Nat.le_refl _
set_option maxRecDepth 100000 in
set_option maxHeartbeats 4000000 in
theorem rtext_arg (v : Value) (r : Int) (h : r < 0 ∨ 2 < r) (l : List Sp.Sym) (w : World) :
    Calls Tryz.prog 39 #[v, .int .i64 r] w (TextPost w (Sp.text l r)) := by
  have hfin : Sp.text l r = ([], 1) := by unfold Sp.text; rw [if_pos h]
  unfold TextPost
  rw [hfin]
  clear hfin
  rcases h with h | h
  · have e1 := decide_eq_true h
    clear h
    go_enter Tryz.func39, Tryz.ntmps39
    go_wp2
    all_goals (go_ret2; exact ⟨rfl, Below.refl _ _⟩)
  · have e1 := decide_eq_true h
    have e0 : decide (r < 0) = false := decide_eq_false (by omega)
    clear h
    go_enter Tryz.func39, Tryz.ntmps39
    go_wp2
    all_goals (go_ret2; exact ⟨rfl, Below.refl _ _⟩)
theorem rjoined_k (k : Int) (t : ByteArray) (p : Int) (w : World) :
    Calls Tryz.prog 78 #[.agg #[.int .i64 k, .string t, .int .i64 p]] w fun e w' => e = .returned (.bool (jk k)) ∧ Below w.heap.size w w' := by
  have h := rjoined_c ⟨k, bs t, p⟩ w
  unfold symV at h
  dsimp only at h
  rw [of_bs, ← jk_eq] at h
  exact h
theorem rwritten_v (x : Sp.Sym) (r : Nat) (hr : r ≤ 2) (hl : x.text.length ≤ 30000) (w : World) :
    Calls Tryz.prog 70 #[.agg #[.int .i64 x.kind, .string ⟨x.text.toArray⟩, .int .i64 x.pos], .int .i64 (r : Int)] w fun e w' => e = .returned (.string ⟨(Sp.written x r).toArray⟩) ∧ Below w.heap.size w w' :=
  rwritten_c ⟨x.text.toArray⟩ x.kind x.pos r hr (by show x.text.length ≤ 100000; omega) w
set_option maxRecDepth 100000 in
set_option maxHeartbeats 16000000 in
theorem rtext_c2 (g o c : Nat) (l : List Sp.Sym) (hl : l.length ≤ 100000) (hlc : l.length ≤ c) (hs : ∀ x ∈ l, x.text.length ≤ 30000) (r : Nat) (hr : r ≤ 2) (hbt : (Sp.bodyText r none (l.take (Sp.ends l))).length ≤ 65536) (w : World) (H : Row w g o l) :
    Calls Tryz.prog 39 #[.slice (some ⟨g, o, none⟩) l.length c, .int .i64 (r : Int)] w (TextPost w (Sp.text l (r : Int))) := by
  have e1 : decide ((r : Int) < 0) = false := by simp
  have e2 : decide ((2 : Int) < (r : Int)) = false := by simp; omega
  have e3 : decide (2 < r) = false := by simp; omega
  have Hs := Lib.hid hs
  have Hbt := Lib.hid hbt
  clear hs hbt
  unfold TextPost
  go_enter Tryz.func39, Tryz.ntmps39
  go_wp2
  go_loop [6] (fun t => ∃ k : Nat, k ≤ l.length ∧ t = .int .i64 k ∧ Hid (∀ (j : Nat) x, j < k → l[j]? = some x → x.kind ≠ 0)) (fun t => l.length - (intOf t).toNat)
  case atStart => exact ⟨0, by omega, rfl, Lib.hid fun j _ hj => absurd hj (Nat.not_lt_zero j)⟩
  case round =>
    obtain ⟨n, hn, rfl, hh⟩ := hrel
    by_cases hgo : ∃ x, l[n]? = some x ∧ x.kind ≠ 0
    · obtain ⟨x, hx, hk⟩ := hgo
      obtain ⟨q0, q1, q2⟩ := H n x hx
      have hlt : n < l.length := (List.getElem?_eq_some_iff.1 hx).1
      have d1 : (x.kind != 0) = true := bne_iff_ne.2 hk
      have Hx := Lib.hid hx
      have Hk : Hid (x.kind ≠ 0) := Lib.hid hk
      clear hx hk
      go_wp2
      go_round
      case rel =>
        refine ⟨n + 1, by omega, by go_num, Lib.hid fun j y hj hy => ?_⟩
        by_cases hjn : j = n
        · subst hjn
          rw [Hx.out] at hy
          injection hy with hy
          rw [← hy]; exact Hk.out
        · exact hh.out j y (by omega) hy
      case measure => simp [intOf]; omega
    · have hends : Sp.ends l = n := Sp.ends_at l n hh.out (by
        rcases Nat.lt_or_ge n l.length with h | h
        · right
          refine ⟨l[n], List.getElem?_eq_getElem h, ?_⟩
          by_cases hk : l[n].kind = 0
          · exact hk
          · exact absurd ⟨l[n], List.getElem?_eq_getElem h, hk⟩ hgo
        · left; omega)
      have Hends := Lib.hid hends
      have Hgo := Lib.hid hgo
      clear hh hends hgo
      by_cases hstop : n < l.length
      · obtain ⟨y, hy⟩ : ∃ y, l[n]? = some y := ⟨l[n], List.getElem?_eq_getElem hstop⟩
        obtain ⟨q0, q1, q2⟩ := H n y hy
        have d1 : (y.kind != 0) = false := by
          rw [bne_eq_false_iff_eq]
          by_cases hk : y.kind = 0
          · exact hk
          · exact absurd ⟨y, hy, hk⟩ Hgo.out
        clear hy
        go_wp2
        clear q0 q1 q2 d1
        go_loopw [7] (fun t wr => ∃ k : Nat, k ≤ l.length ∧ k ≤ n + 1 ∧ t = .int .i64 k ∧ Below w.heap.size w wr ∧ Hid (∀ (j : Nat) y, j < k → l[j]? = some y → Sp.check y = 0)) (fun t _ => l.length - (intOf t).toNat)
        case atStart => exact ⟨0, by omega, by omega, rfl, Below.refl _ _, Lib.hid fun j _ hj => absurd hj (Nat.not_lt_zero j)⟩
        case round =>
          obtain ⟨k, hk, hkn, rfl, hB, hh⟩ := hrel
          by_cases hgo : k < l.length ∧ k ≤ n
          · obtain ⟨hlt, hle⟩ := hgo
            obtain ⟨x, hx⟩ : ∃ x, l[k]? = some x := ⟨l[k], List.getElem?_eq_getElem hlt⟩
            obtain ⟨q0, q1, q2⟩ := (H.later hB) k x hx
            have hxl := Hs.out x (List.mem_of_getElem? hx)
            have hck := rcheck_c x hxl
            have Hck := Lib.hid hck
            have Hx := Lib.hid hx
            clear hx hck
            by_cases hc : Sp.check x = 0
            · have Hc := Lib.hid hc
              clear hc
              go_wp2_with (first | (go_at_call 37; refine (Hck.out _).mono ?_; rw [Hc.out]; rintro e w3 ⟨rfl, hb3⟩))
              go_roundw
              case rel =>
                refine ⟨k + 1, by omega, by omega, by go_num, bjoin hB hB.size hb3, Lib.hid fun j y hj hy => ?_⟩
                by_cases hjk : j = k
                · subst hjk
                  rw [Hx.out] at hy
                  injection hy with hy
                  rw [← hy]; exact Hc.out
                · exact hh.out j y (by omega) hy
              case measure => simp [intOf]; omega
            · have hfin : Sp.text l (r : Int) = ([], Sp.check x) := Sp.text_bad l (r : Int) (by omega) (by omega) k x (by rw [Hends.out]; exact hle) Hx.out (fun j y hj hy => hh.out j y hj hy) hc
              have d1 : (Sp.check x != 0) = true := bne_iff_ne.2 hc
              have Hfin := Lib.hid hfin
              clear hfin hc
              go_wp2_with (first | (go_at_call 37; refine (Hck.out _).mono ?_; rintro e w3 ⟨rfl, hb3⟩))
              go_ret2
              rw [Hfin.out]
              exact ⟨rfl, bjoin hB hB.size hb3⟩
          · have hgood : Sp.text l (r : Int) = Sp.finish (.ok (Sp.bodyText r none (l.take n))) := by
              have h := Sp.text_good l (r : Int) (by omega) (by omega) (fun j y hj hy => hh.out j y (by
                have := (List.getElem?_eq_some_iff.1 hy).1
                rw [Hends.out] at hj
                omega) hy)
              rw [Hends.out, Int.toNat_natCast] at h
              exact h
            have hmono := fun k (hk : k ≤ n) => Nat.le_trans (Sp.bodyText_mono r l k n hk) (by have := Hbt.out; rw [Hends.out] at this; exact this)
            have Hgood := Lib.hid hgood
            have Hmono := Lib.hid hmono
            have hstop2 : ¬ ((k : Int) < (l.length : Int)) ∨ ((k : Int) < (l.length : Int) ∧ ¬ ((k : Int) ≤ (n : Int))) := by omega
            have hW := H.later hB
            clear hgood hmono hgo hh
            rcases hstop2 with hst | ⟨hst1, hst⟩
            · go_wp2
              go_loopw [9, 10] (fun v t wv => ∃ (k : Nat) (bt : List UInt8), k ≤ n ∧ t = .int .i64 k ∧ v = .string ⟨bt.toArray⟩ ∧ Below wr.heap.size wr wv ∧ Hid (bt = Sp.bodyText r none (l.take k))) (fun _ t _ => n - (intOf t).toNat)
              case atStart => exact ⟨0, [], by omega, rfl, rfl, Below.refl _ _, Lib.hid rfl⟩
              case round =>
                obtain ⟨k, bt, hk, rfl, rfl, hB2, hh⟩ := hrel
                have hbl : bt.length ≤ 65536 := by rw [hh.out]; exact Hmono.out k hk
                by_cases hlt : k < n
                · have hkl : k < l.length := by omega
                  obtain ⟨x, hx⟩ : ∃ x, l[k]? = some x := ⟨l[k], List.getElem?_eq_getElem hkl⟩
                  obtain ⟨q0, q1, q2⟩ := (hW.later hB2) k x hx
                  have hxl := Hs.out x (List.mem_of_getElem? hx)
                  have hsn := Sp.prev_snoc l k x r hx
                  have hm1 := Hmono.out (k + 1) hlt
                  rw [hsn, ← hh.out, List.length_append, List.length_append] at hm1
                  have hwr := rwritten_v x r hr hxl
                  generalize Sp.written x r = wt at hsn hm1 hwr
                  have Hwr := Lib.hid hwr
                  have Hsn := Lib.hid hsn
                  clear hwr hsn hxl
                  cases k with
                  | zero =>
                    have hm2 : bt.length + wt.length ≤ 65536 := by omega
                    have hc1 := Lib.hid (bcat bt wt)
                    rw [Nat.zero_mul, Nat.add_zero] at q0 q1 q2
                    clear hx hm1
                    go_wp2_with (first | (go_at_call 70; refine (Hwr.out _).mono ?_; rintro e w5 ⟨rfl, hb5⟩))
                    go_roundw
                    case rel =>
                      refine ⟨1, bt ++ wt, by omega, by go_num, by rw [hc1.out], bjoin hB2 hB2.size hb5, Lib.hid ?_⟩
                      rw [Hsn.out, ← hh.out]; rfl
                    case measure => simp [intOf]; omega
                  | succ j =>
                    obtain ⟨y, hy⟩ : ∃ y, l[j]? = some y := ⟨l[j]'(by omega), List.getElem?_eq_getElem (by omega)⟩
                    obtain ⟨p0, p1, p2⟩ := (hW.later hB2) j y hy
                    have hprev : prev l (j + 1) = some y := hy
                    rw [hprev] at Hsn hm1
                    have hsep : Sp.sep (some y) x = if (jk y.kind && jk x.kind) = true then [32, 35, 35, 32] else [32] := by rw [jk_eq, jk_eq]; rfl
                    rw [hsep] at Hsn hm1
                    have x7 : IntKind.i64.wrap (((j + 1 : Nat) : Int) - 1) = (j : Int) := (IntWalk.i64_in _ (by omega)).trans (by omega)
                    have x7' : IntKind.i64.wrap ((j : Int) + 1 - 1) = (j : Int) := (IntWalk.i64_in _ (by omega)).trans (by omega)
                    have hjl : j < l.length := by omega
                    have hc1 := Lib.hid (bcat bt [32])
                    have hc2 := Lib.hid (bcat (bt ++ [32]) wt)
                    have hc3 := Lib.hid (bcat (bt ++ [32]) [35, 35, 32])
                    have hc4 := Lib.hid (bcat (bt ++ [32] ++ [35, 35, 32]) wt)
                    clear hx hy hprev hsep
                    have tok1 : Nat := 0
                    cases hj1 : jk y.kind with
                    | false =>
                      rw [hj1] at Hsn hm1
                      have hm2 : bt.length + 1 + wt.length ≤ 65536 := by simp at hm1; omega
                      clear hm1
                      go_wp2_with (first
                        | (go_at_call 78; have tk := tok1; clear tok1; refine (rjoined_k _ _ _ _).mono ?_; rw [hj1]; rintro e w4 ⟨rfl, hb4⟩; replace q0 := cell_later hb4 q0; replace q1 := cell_later hb4 q1; replace q2 := cell_later hb4 q2; have hB4 := bjoin hB2 hB2.size hb4)
                        | (go_at_call 70; refine (Hwr.out _).mono ?_; rintro e w5 ⟨rfl, hb5⟩; have hB5 := bjoin hB4 hB4.size hb5))
                      go_roundw
                      case rel =>
                        refine ⟨j + 1 + 1, bt ++ [32] ++ wt, by omega, by go_num, by rw [← hc2.out, ← hc1.out], hB5, Lib.hid ?_⟩
                        rw [Hsn.out, ← hh.out]; simp
                      case measure => simp [intOf]; omega
                    | true =>
                      cases hj2 : jk x.kind with
                      | false =>
                        rw [hj1, hj2] at Hsn hm1
                        have hm2 : bt.length + 1 + wt.length ≤ 65536 := by simp at hm1; omega
                        clear hm1
                        go_wp2_with (first
                          | (go_at_call 78; have tk := tok1; clear tok1; refine (rjoined_k _ _ _ _).mono ?_; rw [hj1]; rintro e w4 ⟨rfl, hb4⟩; replace q0 := cell_later hb4 q0; replace q1 := cell_later hb4 q1; replace q2 := cell_later hb4 q2; have hB4 := bjoin hB2 hB2.size hb4; have tok2 : Nat := 0)
                          | (go_at_call 78; have tk := tok2; clear tok2; refine (rjoined_k _ _ _ _).mono ?_; rw [hj2]; rintro e w6 ⟨rfl, hb6⟩; replace q0 := cell_later hb6 q0; replace q1 := cell_later hb6 q1; replace q2 := cell_later hb6 q2; have hB6 := bjoin hB4 hB4.size hb6)
                          | (go_at_call 70; refine (Hwr.out _).mono ?_; rintro e w5 ⟨rfl, hb5⟩; have hB5 := bjoin hB6 hB6.size hb5))
                        go_roundw
                        case rel =>
                          refine ⟨j + 1 + 1, bt ++ [32] ++ wt, by omega, by go_num, by rw [← hc2.out, ← hc1.out], hB5, Lib.hid ?_⟩
                          rw [Hsn.out, ← hh.out]; simp
                        case measure => simp [intOf]; omega
                      | true =>
                        rw [hj1, hj2] at Hsn hm1
                        have hm2 : bt.length + 1 + 3 + wt.length ≤ 65536 := by simp at hm1; omega
                        clear hm1
                        go_wp2_with (first
                          | (go_at_call 78; have tk := tok1; clear tok1; refine (rjoined_k _ _ _ _).mono ?_; rw [hj1]; rintro e w4 ⟨rfl, hb4⟩; replace q0 := cell_later hb4 q0; replace q1 := cell_later hb4 q1; replace q2 := cell_later hb4 q2; have hB4 := bjoin hB2 hB2.size hb4; have tok2 : Nat := 0)
                          | (go_at_call 78; have tk := tok2; clear tok2; refine (rjoined_k _ _ _ _).mono ?_; rw [hj2]; rintro e w6 ⟨rfl, hb6⟩; replace q0 := cell_later hb6 q0; replace q1 := cell_later hb6 q1; replace q2 := cell_later hb6 q2; have hB6 := bjoin hB4 hB4.size hb6)
                          | (go_at_call 70; refine (Hwr.out _).mono ?_; rintro e w5 ⟨rfl, hb5⟩; have hB5 := bjoin hB6 hB6.size hb5))
                        go_roundw
                        case rel =>
                          refine ⟨j + 1 + 1, bt ++ [32] ++ [35, 35, 32] ++ wt, by omega, by go_num, by rw [← hc4.out, ← hc3.out, ← hc1.out], hB5, Lib.hid ?_⟩
                          rw [Hsn.out, ← hh.out]; simp
                        case measure => simp [intOf]; omega
                · obtain rfl : k = n := by omega
                  have hfin : Sp.text l (r : Int) = (bt, 0) := by
                    rw [Hgood.out, ← hh.out]
                    show (if 65536 < bt.length then ([], (3 : Int)) else (bt, 0)) = (bt, 0)
                    rw [if_neg (by omega)]
                  have Hfin := Lib.hid hfin
                  clear hfin
                  go_wp2
                  go_ret2
                  rw [Hfin.out]
                  exact ⟨rfl, bjoin hB hB.size hB2⟩
            · go_wp2
              go_loopw [9, 10] (fun v t wv => ∃ (k : Nat) (bt : List UInt8), k ≤ n ∧ t = .int .i64 k ∧ v = .string ⟨bt.toArray⟩ ∧ Below wr.heap.size wr wv ∧ Hid (bt = Sp.bodyText r none (l.take k))) (fun _ t _ => n - (intOf t).toNat)
              case atStart => exact ⟨0, [], by omega, rfl, rfl, Below.refl _ _, Lib.hid rfl⟩
              case round =>
                obtain ⟨k, bt, hk, rfl, rfl, hB2, hh⟩ := hrel
                have hbl : bt.length ≤ 65536 := by rw [hh.out]; exact Hmono.out k hk
                by_cases hlt : k < n
                · have hkl : k < l.length := by omega
                  obtain ⟨x, hx⟩ : ∃ x, l[k]? = some x := ⟨l[k], List.getElem?_eq_getElem hkl⟩
                  obtain ⟨q0, q1, q2⟩ := (hW.later hB2) k x hx
                  have hxl := Hs.out x (List.mem_of_getElem? hx)
                  have hsn := Sp.prev_snoc l k x r hx
                  have hm1 := Hmono.out (k + 1) hlt
                  rw [hsn, ← hh.out, List.length_append, List.length_append] at hm1
                  have hwr := rwritten_v x r hr hxl
                  generalize Sp.written x r = wt at hsn hm1 hwr
                  have Hwr := Lib.hid hwr
                  have Hsn := Lib.hid hsn
                  clear hwr hsn hxl
                  cases k with
                  | zero =>
                    have hm2 : bt.length + wt.length ≤ 65536 := by omega
                    have hc1 := Lib.hid (bcat bt wt)
                    rw [Nat.zero_mul, Nat.add_zero] at q0 q1 q2
                    clear hx hm1
                    go_wp2_with (first | (go_at_call 70; refine (Hwr.out _).mono ?_; rintro e w5 ⟨rfl, hb5⟩))
                    go_roundw
                    case rel =>
                      refine ⟨1, bt ++ wt, by omega, by go_num, by rw [hc1.out], bjoin hB2 hB2.size hb5, Lib.hid ?_⟩
                      rw [Hsn.out, ← hh.out]; rfl
                    case measure => simp [intOf]; omega
                  | succ j =>
                    obtain ⟨y, hy⟩ : ∃ y, l[j]? = some y := ⟨l[j]'(by omega), List.getElem?_eq_getElem (by omega)⟩
                    obtain ⟨p0, p1, p2⟩ := (hW.later hB2) j y hy
                    have hprev : prev l (j + 1) = some y := hy
                    rw [hprev] at Hsn hm1
                    have hsep : Sp.sep (some y) x = if (jk y.kind && jk x.kind) = true then [32, 35, 35, 32] else [32] := by rw [jk_eq, jk_eq]; rfl
                    rw [hsep] at Hsn hm1
                    have x7 : IntKind.i64.wrap (((j + 1 : Nat) : Int) - 1) = (j : Int) := (IntWalk.i64_in _ (by omega)).trans (by omega)
                    have x7' : IntKind.i64.wrap ((j : Int) + 1 - 1) = (j : Int) := (IntWalk.i64_in _ (by omega)).trans (by omega)
                    have hjl : j < l.length := by omega
                    have hc1 := Lib.hid (bcat bt [32])
                    have hc2 := Lib.hid (bcat (bt ++ [32]) wt)
                    have hc3 := Lib.hid (bcat (bt ++ [32]) [35, 35, 32])
                    have hc4 := Lib.hid (bcat (bt ++ [32] ++ [35, 35, 32]) wt)
                    clear hx hy hprev hsep
                    have tok1 : Nat := 0
                    cases hj1 : jk y.kind with
                    | false =>
                      rw [hj1] at Hsn hm1
                      have hm2 : bt.length + 1 + wt.length ≤ 65536 := by simp at hm1; omega
                      clear hm1
                      go_wp2_with (first
                        | (go_at_call 78; have tk := tok1; clear tok1; refine (rjoined_k _ _ _ _).mono ?_; rw [hj1]; rintro e w4 ⟨rfl, hb4⟩; replace q0 := cell_later hb4 q0; replace q1 := cell_later hb4 q1; replace q2 := cell_later hb4 q2; have hB4 := bjoin hB2 hB2.size hb4)
                        | (go_at_call 70; refine (Hwr.out _).mono ?_; rintro e w5 ⟨rfl, hb5⟩; have hB5 := bjoin hB4 hB4.size hb5))
                      go_roundw
                      case rel =>
                        refine ⟨j + 1 + 1, bt ++ [32] ++ wt, by omega, by go_num, by rw [← hc2.out, ← hc1.out], hB5, Lib.hid ?_⟩
                        rw [Hsn.out, ← hh.out]; simp
                      case measure => simp [intOf]; omega
                    | true =>
                      cases hj2 : jk x.kind with
                      | false =>
                        rw [hj1, hj2] at Hsn hm1
                        have hm2 : bt.length + 1 + wt.length ≤ 65536 := by simp at hm1; omega
                        clear hm1
                        go_wp2_with (first
                          | (go_at_call 78; have tk := tok1; clear tok1; refine (rjoined_k _ _ _ _).mono ?_; rw [hj1]; rintro e w4 ⟨rfl, hb4⟩; replace q0 := cell_later hb4 q0; replace q1 := cell_later hb4 q1; replace q2 := cell_later hb4 q2; have hB4 := bjoin hB2 hB2.size hb4; have tok2 : Nat := 0)
                          | (go_at_call 78; have tk := tok2; clear tok2; refine (rjoined_k _ _ _ _).mono ?_; rw [hj2]; rintro e w6 ⟨rfl, hb6⟩; replace q0 := cell_later hb6 q0; replace q1 := cell_later hb6 q1; replace q2 := cell_later hb6 q2; have hB6 := bjoin hB4 hB4.size hb6)
                          | (go_at_call 70; refine (Hwr.out _).mono ?_; rintro e w5 ⟨rfl, hb5⟩; have hB5 := bjoin hB6 hB6.size hb5))
                        go_roundw
                        case rel =>
                          refine ⟨j + 1 + 1, bt ++ [32] ++ wt, by omega, by go_num, by rw [← hc2.out, ← hc1.out], hB5, Lib.hid ?_⟩
                          rw [Hsn.out, ← hh.out]; simp
                        case measure => simp [intOf]; omega
                      | true =>
                        rw [hj1, hj2] at Hsn hm1
                        have hm2 : bt.length + 1 + 3 + wt.length ≤ 65536 := by simp at hm1; omega
                        clear hm1
                        go_wp2_with (first
                          | (go_at_call 78; have tk := tok1; clear tok1; refine (rjoined_k _ _ _ _).mono ?_; rw [hj1]; rintro e w4 ⟨rfl, hb4⟩; replace q0 := cell_later hb4 q0; replace q1 := cell_later hb4 q1; replace q2 := cell_later hb4 q2; have hB4 := bjoin hB2 hB2.size hb4; have tok2 : Nat := 0)
                          | (go_at_call 78; have tk := tok2; clear tok2; refine (rjoined_k _ _ _ _).mono ?_; rw [hj2]; rintro e w6 ⟨rfl, hb6⟩; replace q0 := cell_later hb6 q0; replace q1 := cell_later hb6 q1; replace q2 := cell_later hb6 q2; have hB6 := bjoin hB4 hB4.size hb6)
                          | (go_at_call 70; refine (Hwr.out _).mono ?_; rintro e w5 ⟨rfl, hb5⟩; have hB5 := bjoin hB6 hB6.size hb5))
                        go_roundw
                        case rel =>
                          refine ⟨j + 1 + 1, bt ++ [32] ++ [35, 35, 32] ++ wt, by omega, by go_num, by rw [← hc4.out, ← hc3.out, ← hc1.out], hB5, Lib.hid ?_⟩
                          rw [Hsn.out, ← hh.out]; simp
                        case measure => simp [intOf]; omega
                · obtain rfl : k = n := by omega
                  have hfin : Sp.text l (r : Int) = (bt, 0) := by
                    rw [Hgood.out, ← hh.out]
                    show (if 65536 < bt.length then ([], (3 : Int)) else (bt, 0)) = (bt, 0)
                    rw [if_neg (by omega)]
                  have Hfin := Lib.hid hfin
                  clear hfin
                  go_wp2
                  go_ret2
                  rw [Hfin.out]
                  exact ⟨rfl, bjoin hB hB.size hB2⟩
      · go_wp2
        go_loopw [7] (fun t wr => ∃ k : Nat, k ≤ l.length ∧ k ≤ n + 1 ∧ t = .int .i64 k ∧ Below w.heap.size w wr ∧ Hid (∀ (j : Nat) y, j < k → l[j]? = some y → Sp.check y = 0)) (fun t _ => l.length - (intOf t).toNat)
        case atStart => exact ⟨0, by omega, by omega, rfl, Below.refl _ _, Lib.hid fun j _ hj => absurd hj (Nat.not_lt_zero j)⟩
        case round =>
          obtain ⟨k, hk, hkn, rfl, hB, hh⟩ := hrel
          by_cases hgo : k < l.length ∧ k ≤ n
          · obtain ⟨hlt, hle⟩ := hgo
            obtain ⟨x, hx⟩ : ∃ x, l[k]? = some x := ⟨l[k], List.getElem?_eq_getElem hlt⟩
            obtain ⟨q0, q1, q2⟩ := (H.later hB) k x hx
            have hxl := Hs.out x (List.mem_of_getElem? hx)
            have hck := rcheck_c x hxl
            have Hck := Lib.hid hck
            have Hx := Lib.hid hx
            clear hx hck
            by_cases hc : Sp.check x = 0
            · have Hc := Lib.hid hc
              clear hc
              go_wp2_with (first | (go_at_call 37; refine (Hck.out _).mono ?_; rw [Hc.out]; rintro e w3 ⟨rfl, hb3⟩))
              go_roundw
              case rel =>
                refine ⟨k + 1, by omega, by omega, by go_num, bjoin hB hB.size hb3, Lib.hid fun j y hj hy => ?_⟩
                by_cases hjk : j = k
                · subst hjk
                  rw [Hx.out] at hy
                  injection hy with hy
                  rw [← hy]; exact Hc.out
                · exact hh.out j y (by omega) hy
              case measure => simp [intOf]; omega
            · have hfin : Sp.text l (r : Int) = ([], Sp.check x) := Sp.text_bad l (r : Int) (by omega) (by omega) k x (by rw [Hends.out]; exact hle) Hx.out (fun j y hj hy => hh.out j y hj hy) hc
              have d1 : (Sp.check x != 0) = true := bne_iff_ne.2 hc
              have Hfin := Lib.hid hfin
              clear hfin hc
              go_wp2_with (first | (go_at_call 37; refine (Hck.out _).mono ?_; rintro e w3 ⟨rfl, hb3⟩))
              go_ret2
              rw [Hfin.out]
              exact ⟨rfl, bjoin hB hB.size hb3⟩
          · have hgood : Sp.text l (r : Int) = Sp.finish (.ok (Sp.bodyText r none (l.take n))) := by
              have h := Sp.text_good l (r : Int) (by omega) (by omega) (fun j y hj hy => hh.out j y (by
                have := (List.getElem?_eq_some_iff.1 hy).1
                rw [Hends.out] at hj
                omega) hy)
              rw [Hends.out, Int.toNat_natCast] at h
              exact h
            have hmono := fun k (hk : k ≤ n) => Nat.le_trans (Sp.bodyText_mono r l k n hk) (by have := Hbt.out; rw [Hends.out] at this; exact this)
            have Hgood := Lib.hid hgood
            have Hmono := Lib.hid hmono
            have hstop2 : ¬ ((k : Int) < (l.length : Int)) ∨ ((k : Int) < (l.length : Int) ∧ ¬ ((k : Int) ≤ (n : Int))) := by omega
            have hW := H.later hB
            clear hgood hmono hgo hh
            rcases hstop2 with hst | ⟨hst1, hst⟩
            · go_wp2
              go_loopw [9, 10] (fun v t wv => ∃ (k : Nat) (bt : List UInt8), k ≤ n ∧ t = .int .i64 k ∧ v = .string ⟨bt.toArray⟩ ∧ Below wr.heap.size wr wv ∧ Hid (bt = Sp.bodyText r none (l.take k))) (fun _ t _ => n - (intOf t).toNat)
              case atStart => exact ⟨0, [], by omega, rfl, rfl, Below.refl _ _, Lib.hid rfl⟩
              case round =>
                obtain ⟨k, bt, hk, rfl, rfl, hB2, hh⟩ := hrel
                have hbl : bt.length ≤ 65536 := by rw [hh.out]; exact Hmono.out k hk
                by_cases hlt : k < n
                · have hkl : k < l.length := by omega
                  obtain ⟨x, hx⟩ : ∃ x, l[k]? = some x := ⟨l[k], List.getElem?_eq_getElem hkl⟩
                  obtain ⟨q0, q1, q2⟩ := (hW.later hB2) k x hx
                  have hxl := Hs.out x (List.mem_of_getElem? hx)
                  have hsn := Sp.prev_snoc l k x r hx
                  have hm1 := Hmono.out (k + 1) hlt
                  rw [hsn, ← hh.out, List.length_append, List.length_append] at hm1
                  have hwr := rwritten_v x r hr hxl
                  generalize Sp.written x r = wt at hsn hm1 hwr
                  have Hwr := Lib.hid hwr
                  have Hsn := Lib.hid hsn
                  clear hwr hsn hxl
                  cases k with
                  | zero =>
                    have hm2 : bt.length + wt.length ≤ 65536 := by omega
                    have hc1 := Lib.hid (bcat bt wt)
                    rw [Nat.zero_mul, Nat.add_zero] at q0 q1 q2
                    clear hx hm1
                    go_wp2_with (first | (go_at_call 70; refine (Hwr.out _).mono ?_; rintro e w5 ⟨rfl, hb5⟩))
                    go_roundw
                    case rel =>
                      refine ⟨1, bt ++ wt, by omega, by go_num, by rw [hc1.out], bjoin hB2 hB2.size hb5, Lib.hid ?_⟩
                      rw [Hsn.out, ← hh.out]; rfl
                    case measure => simp [intOf]; omega
                  | succ j =>
                    obtain ⟨y, hy⟩ : ∃ y, l[j]? = some y := ⟨l[j]'(by omega), List.getElem?_eq_getElem (by omega)⟩
                    obtain ⟨p0, p1, p2⟩ := (hW.later hB2) j y hy
                    have hprev : prev l (j + 1) = some y := hy
                    rw [hprev] at Hsn hm1
                    have hsep : Sp.sep (some y) x = if (jk y.kind && jk x.kind) = true then [32, 35, 35, 32] else [32] := by rw [jk_eq, jk_eq]; rfl
                    rw [hsep] at Hsn hm1
                    have x7 : IntKind.i64.wrap (((j + 1 : Nat) : Int) - 1) = (j : Int) := (IntWalk.i64_in _ (by omega)).trans (by omega)
                    have x7' : IntKind.i64.wrap ((j : Int) + 1 - 1) = (j : Int) := (IntWalk.i64_in _ (by omega)).trans (by omega)
                    have hjl : j < l.length := by omega
                    have hc1 := Lib.hid (bcat bt [32])
                    have hc2 := Lib.hid (bcat (bt ++ [32]) wt)
                    have hc3 := Lib.hid (bcat (bt ++ [32]) [35, 35, 32])
                    have hc4 := Lib.hid (bcat (bt ++ [32] ++ [35, 35, 32]) wt)
                    clear hx hy hprev hsep
                    have tok1 : Nat := 0
                    cases hj1 : jk y.kind with
                    | false =>
                      rw [hj1] at Hsn hm1
                      have hm2 : bt.length + 1 + wt.length ≤ 65536 := by simp at hm1; omega
                      clear hm1
                      go_wp2_with (first
                        | (go_at_call 78; have tk := tok1; clear tok1; refine (rjoined_k _ _ _ _).mono ?_; rw [hj1]; rintro e w4 ⟨rfl, hb4⟩; replace q0 := cell_later hb4 q0; replace q1 := cell_later hb4 q1; replace q2 := cell_later hb4 q2; have hB4 := bjoin hB2 hB2.size hb4)
                        | (go_at_call 70; refine (Hwr.out _).mono ?_; rintro e w5 ⟨rfl, hb5⟩; have hB5 := bjoin hB4 hB4.size hb5))
                      go_roundw
                      case rel =>
                        refine ⟨j + 1 + 1, bt ++ [32] ++ wt, by omega, by go_num, by rw [← hc2.out, ← hc1.out], hB5, Lib.hid ?_⟩
                        rw [Hsn.out, ← hh.out]; simp
                      case measure => simp [intOf]; omega
                    | true =>
                      cases hj2 : jk x.kind with
                      | false =>
                        rw [hj1, hj2] at Hsn hm1
                        have hm2 : bt.length + 1 + wt.length ≤ 65536 := by simp at hm1; omega
                        clear hm1
                        go_wp2_with (first
                          | (go_at_call 78; have tk := tok1; clear tok1; refine (rjoined_k _ _ _ _).mono ?_; rw [hj1]; rintro e w4 ⟨rfl, hb4⟩; replace q0 := cell_later hb4 q0; replace q1 := cell_later hb4 q1; replace q2 := cell_later hb4 q2; have hB4 := bjoin hB2 hB2.size hb4; have tok2 : Nat := 0)
                          | (go_at_call 78; have tk := tok2; clear tok2; refine (rjoined_k _ _ _ _).mono ?_; rw [hj2]; rintro e w6 ⟨rfl, hb6⟩; replace q0 := cell_later hb6 q0; replace q1 := cell_later hb6 q1; replace q2 := cell_later hb6 q2; have hB6 := bjoin hB4 hB4.size hb6)
                          | (go_at_call 70; refine (Hwr.out _).mono ?_; rintro e w5 ⟨rfl, hb5⟩; have hB5 := bjoin hB6 hB6.size hb5))
                        go_roundw
                        case rel =>
                          refine ⟨j + 1 + 1, bt ++ [32] ++ wt, by omega, by go_num, by rw [← hc2.out, ← hc1.out], hB5, Lib.hid ?_⟩
                          rw [Hsn.out, ← hh.out]; simp
                        case measure => simp [intOf]; omega
                      | true =>
                        rw [hj1, hj2] at Hsn hm1
                        have hm2 : bt.length + 1 + 3 + wt.length ≤ 65536 := by simp at hm1; omega
                        clear hm1
                        go_wp2_with (first
                          | (go_at_call 78; have tk := tok1; clear tok1; refine (rjoined_k _ _ _ _).mono ?_; rw [hj1]; rintro e w4 ⟨rfl, hb4⟩; replace q0 := cell_later hb4 q0; replace q1 := cell_later hb4 q1; replace q2 := cell_later hb4 q2; have hB4 := bjoin hB2 hB2.size hb4; have tok2 : Nat := 0)
                          | (go_at_call 78; have tk := tok2; clear tok2; refine (rjoined_k _ _ _ _).mono ?_; rw [hj2]; rintro e w6 ⟨rfl, hb6⟩; replace q0 := cell_later hb6 q0; replace q1 := cell_later hb6 q1; replace q2 := cell_later hb6 q2; have hB6 := bjoin hB4 hB4.size hb6)
                          | (go_at_call 70; refine (Hwr.out _).mono ?_; rintro e w5 ⟨rfl, hb5⟩; have hB5 := bjoin hB6 hB6.size hb5))
                        go_roundw
                        case rel =>
                          refine ⟨j + 1 + 1, bt ++ [32] ++ [35, 35, 32] ++ wt, by omega, by go_num, by rw [← hc4.out, ← hc3.out, ← hc1.out], hB5, Lib.hid ?_⟩
                          rw [Hsn.out, ← hh.out]; simp
                        case measure => simp [intOf]; omega
                · obtain rfl : k = n := by omega
                  have hfin : Sp.text l (r : Int) = (bt, 0) := by
                    rw [Hgood.out, ← hh.out]
                    show (if 65536 < bt.length then ([], (3 : Int)) else (bt, 0)) = (bt, 0)
                    rw [if_neg (by omega)]
                  have Hfin := Lib.hid hfin
                  clear hfin
                  go_wp2
                  go_ret2
                  rw [Hfin.out]
                  exact ⟨rfl, bjoin hB hB.size hB2⟩
            · exfalso; omega
end Go.Proofs.YtjghijeblddijaaGreatDoor
