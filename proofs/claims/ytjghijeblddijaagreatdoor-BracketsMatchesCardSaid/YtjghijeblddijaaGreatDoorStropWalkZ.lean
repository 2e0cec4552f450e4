/- Walks: strings.ContainsAny over three blanks, whatever the bytes of the text are. Walks: formed. Walks: formed, whole. -/
import Derived.Test.YtjghijeblddijaaGreatDoorStropWalkX
import Derived.Test.YtjghijeblddijaaGreatDoorShelfB
import Derived.Laws.RangeAny
import Derived.Lib.OthersKept
import Derived.WalkSmall
import Derived.Shelf.Strings.IndexAnyAll
import Derived.Shelf.Small.Utf8
import Derived.Shelf.Small.Strs
import Derived.Laws.Runes
import Derived.Deep.LoopGhost
import Derived.BigQuiet
import Derived.WalkMore
import Derived.Test.YtjghijeblddijaaGreatDoorStropPureB
set_option linter.unusedVariables false
namespace Go.Proofs.YtjghijeblddijaaGreatDoor
open Go.RowKit
def Low (s : ByteArray) : Prop := ∀ (i : Nat) (h : i < s.size), (s[i]'h).toNat < 128
theorem indexByte_low : ∀ (l : List UInt8) (c : UInt8), (∀ b ∈ l, b.toNat < 128) → 128 ≤ c.toNat → Lib.indexByte l c = -1 := by
  intro l
  induction l with
  | nil => intros; rfl
  | cons b t ih =>
    intro c h hc
    have hb := h b (List.mem_cons_self ..)
    have hne : (b == c) = false := beq_eq_false_iff_ne.2 (fun e => by rw [e] at hb; omega)
    rw [Lib.indexByte, hne, ih c (fun x hx => h x (List.mem_cons_of_mem _ hx)) hc]
    rfl
theorem low_extract (s : ByteArray) (h : Low s) (a b : Nat) : ∀ x ∈ (s.extract a b).data.toList, x.toNat < 128 := by
  intro x hx
  have hm := mem_extract hx
  obtain ⟨i, hi, he⟩ := List.getElem_of_mem hm
  have := h i (by simpa using hi)
  rw [← he]
  exact this
set_option maxRecDepth 100000 in
set_option maxHeartbeats 8000000 in
/-- IndexRune over ASCII text: a rune that is none. -/
theorem indexRune_bad (s : ByteArray) (hs : s.size ≤ 1000) (ha : Low s) (w : World) :
    Calls Tryz.prog 253 #[.string s, .int .i32 65533] w fun e w' => e = .returned (.int .i64 (-1)) ∧ Below w.heap.size w w' := by
  have HA := Lib.hid ha
  clear ha
  go_enter Tryz.func253, Tryz.ntmps253
  go_wp2
  go_loopg [5, 6] s.size (fun g _ _ wx => ∃ i : Nat, i + g = s.size ∧ wx = w.iter s i)
  case atStart => exact ⟨0, by omega, rfl⟩
  case round =>
    obtain ⟨i, hig, rfl⟩ := hrel
    cases gk with
    | zero =>
      obtain rfl : i = s.size := by omega
      have hnx := fun ty => run_next_end (P := Tryz.prog) w s s.size ty (by omega)
      go_wp2
      go_ret
      exact ⟨rfl, below_alloc0 (Below.refl _ _) _⟩
    | succ g =>
      have hi : i < s.size := by omega
      have hx := HA.out i hi
      have hnx := fun ty => run_next_ascii (P := Tryz.prog) w s i ty hi hx
      have hne : ((s[i].toNat : Int) == 65533) = false := beq_eq_false_iff_ne.2 (by omega)
      clear hx
      go_wp2
      go_roundg g
      case measure => omega
      case rel => exact ⟨i + 1, by omega, rfl⟩
set_option maxRecDepth 100000 in
set_option maxHeartbeats 8000000 in
theorem indexRune_high (s : ByteArray) (hs : s.size ≤ 1000) (ha : Low s) (r : Int) (h1 : 128 ≤ r) (hne : r ≠ 65533) (w : World) :
    Calls Tryz.prog 253 #[.string s, .int .i32 r] w fun e w' => e = .returned (.int .i64 (-1)) ∧ Below w.heap.size w w' := by
  have e0 : decide (0 ≤ r) = true := decide_eq_true (by omega)
  have e1 : decide (r < 128) = false := decide_eq_false (by omega)
  have e2 : (r == 65533) = false := beq_eq_false_iff_ne.2 hne
  have hvr : Calls Tryz.prog 289 #[.int .i32 r] w fun e w' => e = .returned (.bool (Lib.validRune r)) ∧ w' = w := Any.utf8_ValidRune { Tryz.lays150 with } r w
  have Hvr := Lib.hid hvr
  clear hvr
  cases hv : Lib.validRune r with
  | false =>
    clear hne
    go_enter Tryz.func253, Tryz.ntmps253
    go_wp2_with (go_at_call 289; refine Hvr.out.mono ?_; rw [hv]; rintro e w' ⟨rfl, rfl⟩)
    all_goals (go_ret; exact ⟨rfl, Below.refl _ _⟩)
  | true =>
    obtain ⟨f1, f2, f3⟩ := encode_facts r (by rw [validRune_eq]; exact hv) h1
    generalize hE : Utf8.encode r = E at f1 f2 f3
    obtain ⟨n, hn⟩ : ∃ n, E.size = n + 1 := ⟨E.size - 1, by omega⟩
    have hlast : ∀ h : n < E.size, 128 ≤ (E[n]'h).toNat := by
      intro h
      have := f3 (by omega)
      simp only [hn, Nat.add_sub_cancel] at this
      exact this
    have hlt : n < E.size := by omega
    have hn3 : n ≤ 3 := by omega
    have hl := hlast hlt
    have Hl := Lib.hid hl
    have HE := Lib.hid hE
    have HA := Lib.hid ha
    have x1 : IntKind.i64.wrap ((E.size : Int) - 1) = (n : Int) := (IntWalk.i64_in _ (by omega)).trans (by omega)
    have x2 : IntKind.i64.wrap ((n : Int) + 1 - 1) = (n : Int) := (IntWalk.i64_in _ (by omega)).trans (by omega)
    have hcv : ∀ W, (convert 21 9 (.int .i32 r)).run Tryz.prog W = .ok (.string E) W := fun W => by
      rw [run_convert_int_string W 21 9 .i32 r (by kernel_rfl) Tryz.underlying9, hE]
    clear hne f1 f2 f3 hlast hE hl ha
    go_enter Tryz.func253, Tryz.ntmps253
    go_wp2_with (go_at_call 289; refine Hvr.out.mono ?_; rw [hv]; rintro e w' ⟨rfl, rfl⟩)
    go_step3
    go_wp2
    go_loop [9, 10] (fun i _ => i = .int .i64 (n : Int)) (fun _ _ => 0)
    case atStart => exact rfl
    case round =>
      subst hrel
      by_cases h3 : n < s.size
      · have hx := HA.out n h3
        have hd : ((s[n].toNat : Int) != (E[n].toNat : Int)) = true := bne_iff_ne.2 (by have := Hl.out; omega)
        have hib : Lib.indexByte (s.extract (n + 1) s.size).data.toList ((E[n].toNat : Int)).toNat.toUInt8 = -1 := by
          have hb : ((E[n].toNat : Int)).toNat.toUInt8 = E[n] := by simp
          rw [hb]
          exact indexByte_low _ _ (low_extract s HA.out _ _) Hl.out
        have hic : ∀ W, Calls Tryz.prog 177 #[.string (s.extract (n + 1) s.size), .int .u8 (E[n].toNat : Int)] W fun e w' => e = .returned (.int .i64 (-1)) ∧ w' = W := fun W =>
          (Any.strings_IndexByte { Tryz.lays150 with } (s.extract (n + 1) s.size) (E[n].toNat : Int) W).mono (by rw [hib]; exact fun _ _ h => h)
        have Hic := Lib.hid hic
        clear hib hic hx
        go_wp2
        go_step3
        go_wp2
        have Hn := Lib.hid hn
        clear hn
        have hlt2 : n < E.size := hlt
        have x3 : IntKind.i64.wrap ((n : Int) + 1) = ((n + 1 : Nat) : Int) := (IntWalk.i64_in _ (by omega)).trans (by omega)
        have x4 : n + 1 ≤ s.size := h3
        have x5 : (n : Int) + 1 ≤ (s.size : Int) := by omega
        have x6 : (0 : Int) ≤ (n : Int) + 1 := by omega
        go_quiet (fail)
        have hBq := bdrewN (Below.refl w'.heap.size w') nq
        generalize w'.drewN nq = W5 at *
        go_wp2
        go_quiet (first | (go_at_call 177; exact Calls.quiet_of_same ((Hic.out _).mono fun _ _ h => ⟨h.1, h.2⟩)) | (go_at_call 177; exact Calls.quiet_of_same ((Hic.out _).mono fun _ _ h => ⟨h.1, h.2.symm⟩)))
        go_wp2
        show bodyPost Tryz.prog Tryz.f253 (fun e w'' => e = .returned (.int .i64 (-1)) ∧ Below w'.heap.size w' w'') Exit.ret _ _
        go_ret
        exact ⟨rfl, bdrewN hBq _⟩
      · go_wp2
        go_ret
        exact ⟨rfl, Below.refl _ _⟩
/-- IndexRune over ASCII text: a rune that is not ASCII. -/
theorem indexRune_no (s : ByteArray) (hs : s.size ≤ 1000) (ha : Low s) (r : Nat) (h : 128 ≤ r) (w : World) :
    Calls Tryz.prog 253 #[.string s, .int .i32 (r : Int)] w fun e w' => e = .returned (.int .i64 (-1)) ∧ Below w.heap.size w w' := by
  by_cases h1 : (r : Int) = 65533
  · rw [h1]; exact indexRune_bad s hs ha w
  · exact indexRune_high s hs ha r (by omega) h1 w
theorem decode_skip (s : ByteArray) (pos : Nat) (h : pos < s.size) (ha : 128 ≤ (s.get! (pos + 0)).toNat) :
    1 ≤ (Utf8.decode s pos).2 ∧ ∀ j, j < (Utf8.decode s pos).2 → pos + j < s.size ∧ 128 ≤ (s.get! (pos + j)).toNat := by
  have one : 1 ≤ 1 ∧ ∀ j, j < 1 → pos + j < s.size ∧ 128 ≤ (s.get! (pos + j)).toNat := ⟨Nat.le_refl _, fun j hj => by
    obtain rfl : j = 0 := by omega
    exact ⟨h, ha⟩⟩
  unfold Utf8.decode
  dsimp only
  rw [if_neg (by omega)]
  split
  · rename_i hc
    simp only [Bool.and_eq_true, decide_eq_true_eq, beq_iff_eq] at hc
    split
    · refine ⟨Nat.le_succ 1, fun j hj => ?_⟩
      have hj4 : j = 0 ∨ j = 1 := by simp only at hj; omega
      rcases hj4 with rfl | rfl
      · exact ⟨h, ha⟩
      · omega
    · exact one
  · split
    · rename_i hc
      simp only [Bool.and_eq_true, decide_eq_true_eq, beq_iff_eq] at hc
      split
      · refine ⟨by show 1 ≤ 3; omega, fun j hj => ?_⟩
        have hj4 : j = 0 ∨ j = 1 ∨ j = 2 := by simp only at hj; omega
        rcases hj4 with rfl | rfl | rfl
        · exact ⟨h, ha⟩
        · omega
        · omega
      · exact one
    · split
      · rename_i hc
        simp only [Bool.and_eq_true, decide_eq_true_eq, beq_iff_eq] at hc
        split
        · refine ⟨by show 1 ≤ 4; omega, fun j hj => ?_⟩
          have hj4 : j = 0 ∨ j = 1 ∨ j = 2 ∨ j = 3 := by simp only at hj; omega
          rcases hj4 with rfl | rfl | rfl | rfl
          · exact ⟨h, ha⟩
          · omega
          · omega
          · omega
        · exact one
      · exact one
theorem get_data (s : ByteArray) (i : Nat) (h : i < s.size) : s.data.toList[i]? = some (s.get! i) := by
  rw [Lib.data_getElem? s i h]
  congr 1
  exact (get_at s i h).symm
theorem noAny_skip (s chars : ByteArray) (hcl : Low chars) (i d : Nat) (hd : ∀ j, j < d → i + j < s.size ∧ 128 ≤ (s.get! (i + j)).toNat) (h : Lib.NoAny s.data.toList chars.data.toList i) : Lib.NoAny s.data.toList chars.data.toList (i + d) := by
  intro j b hj hb
  by_cases hji : j < i
  · exact h j b hji hb
  · obtain ⟨h1, h2⟩ := hd (j - i) (by omega)
    rw [show i + (j - i) = j from by omega] at h1 h2
    rw [get_data s j h1] at hb
    injection hb with hb
    rw [hb] at h2
    rw [Bool.eq_false_iff]
    intro hc
    rw [List.contains_iff_mem] at hc
    obtain ⟨k, hk, he⟩ := List.getElem_of_mem hc
    have := hcl k (by simpa using hk)
    have e : chars[k]'(by simpa using hk) = b := he
    rw [e] at this
    omega
set_option maxRecDepth 100000 in
set_option maxHeartbeats 8000000 in
theorem indexAny_short (s chars : ByteArray) (h2 : 2 ≤ chars.size) (hc : chars.size ≤ 1000) (hcl : Low chars) (h8 : s.size ≤ 8) (w : World) :
    Calls Tryz.prog 192 #[.string s, .string chars] w fun e w' => e = .returned (.int .i64 (Lib.indexAny s.data.toList chars.data.toList)) ∧ Below w.heap.size w w' := by
  have hemp : chars.toList.isEmpty = false := by
    rw [Lib.toList_data]
    cases h : chars.data.toList with
    | nil => have := Lib.size_eq chars; rw [h, List.length_nil] at this; omega
    | cons _ _ => rfl
  have hn1 : ((chars.size : Int) == 1) = false := beq_eq_false_iff_ne.2 (by omega)
  have hn2 : (chars.size == 1) = false := beq_eq_false_iff_ne.2 (by omega)
  have h8z : decide ((8 : Int) < (s.size : Int)) = false := decide_eq_false (by omega)
  have hub : ∀ W, Calls Tryz.prog 254 #[.int .i64 (s.size : Int)] W fun e w' => e = .returned (.bool false) ∧ w' = W := fun W => (Any.strings_shouldUseASCIISet { Tryz.lays150 with } (s.size : Int) W).mono (by rw [h8z]; exact fun _ _ h => h)
  have Hub := Lib.hid hub
  have HC := Lib.hid hcl
  clear hub hcl
  go_enter Tryz.func192, Tryz.ntmps192
  go_wp2_with (first | (go_at_call 254; refine (Hub.out _).mono ?_; rintro e w' ⟨rfl, rfl⟩))
  go_loopw [9, 10] (fun _ _ wx => ∃ i : Nat, i ≤ s.size ∧ wx.heap[w'.heap.size]? = some (.stringIter s i) ∧ Below w'.heap.size w' wx ∧ Hid (Lib.NoAny s.data.toList chars.data.toList i)) (fun _ _ wx => s.size - wx.iterPos w'.heap.size)
  case atStart => exact ⟨0, by omega, World.iter_heap _ _ _, below_alloc0 (Below.refl _ _) _, Lib.hid (Lib.NoAny.zero _ _)⟩
  case round =>
    obtain ⟨i, hi, hk, hB, hno⟩ := hrel
    have Hk := Lib.hid hk
    have hip := Lib.hid (iterPos_of hk)
    by_cases hlt : i < s.size
    · by_cases hx : (s[i]'hlt).toNat < 128
      · obtain ⟨x, hxe⟩ : ∃ x : UInt8, s[i]'hlt = x := ⟨_, rfl⟩
        have hxl : s.data.toList[i]? = some x := by rw [← hxe]; exact Lib.data_getElem? s i hlt
        have hnx := fun ty => Lib.run_next_ascii_at (P := Tryz.prog) wr w'.heap.size s i ty hk hlt hx
        rw [hxe] at hnx hx
        have hcon := Lib.contains_iff_indexByte chars.data.toList x
        have hback : ((x.toNat : Int)).toNat.toUInt8 = x := by simp
        have hir : ∀ W, Calls Tryz.prog 253 #[.string chars, .int .i32 (x.toNat : Int)] W fun e w' => e = .returned (.int .i64 (Lib.indexByte chars.data.toList x)) ∧ w' = W := fun W => (Any.strings_IndexRune_ascii { Tryz.lays150 with } chars (x.toNat : Int) W (by omega) (by omega)).mono (by rw [hback]; exact fun _ _ h => h)
        have Hir := Lib.hid hir
        have Hxl := Lib.hid hxl
        clear hir hxl hback hk hxe
        cases hin : chars.data.toList.contains x with
        | false =>
          rw [hin] at hcon
          have hlt2 : ¬ ((0 : Int) ≤ Lib.indexByte chars.data.toList x) := of_decide_eq_false hcon.symm
          have Hin := Lib.hid hin
          clear hcon hin
          go_wp2_with (first | (go_at_call 253; refine (Hir.out _).mono ?_; rintro e w2 ⟨rfl, rfl⟩))
          go_roundw
          case rel => exact ⟨i + 1, by omega, Lib.iterAt_heap _ _ _ _ _ Hk.out, Lib.below_iterAt hB (Nat.le_refl _) _ _, Lib.hid (hno.out.succ Hxl.out Hin.out)⟩
          case measure =>
            have := iterPos_of (Lib.iterAt_heap _ _ _ _ (i + 1) Hk.out)
            rw [this, hip.out]; omega
        | true =>
          rw [hin] at hcon
          have hge : (0 : Int) ≤ Lib.indexByte chars.data.toList x := of_decide_eq_true hcon.symm
          have hfin := Lib.hid (Lib.indexAny_hit hno.out Hxl.out hin)
          clear hcon hin
          go_wp2_with (first | (go_at_call 253; refine (Hir.out _).mono ?_; rintro e w2 ⟨rfl, rfl⟩))
          go_ret
          exact ⟨by rw [hfin.out]; rfl, Lib.below_iterAt hB (Nat.le_refl _) _ _⟩
      · have hg := get_at s i hlt
        have hsk := decode_skip s i hlt (by rw [hg]; omega)
        have hhi := decode_high s i hlt (by omega)
        have hnx := fun ty => Lib.run_next_any_at (P := Tryz.prog) wr w'.heap.size s i ty hk hlt
        have hskip := noAny_skip s chars HC.out i _ hsk.2 hno.out
        have hbound : i + (Utf8.decode s i).2 ≤ s.size := by
          have := (hsk.2 ((Utf8.decode s i).2 - 1) (by omega)).1
          omega
        have hd1 := hsk.1
        have hr1 := hhi.1
        clear hsk hhi hg hx
        generalize (Utf8.decode s i).1 = r at *
        generalize (Utf8.decode s i).2 = d at *
        have Hskip := Lib.hid hskip
        clear hskip hk
        go_wp2_with (first | (go_at_call 253; refine (indexRune_no chars hc HC.out r hr1 _).mono ?_; rintro e w2 ⟨rfl, hb2⟩))
        have hk2 := (hb2.block w'.heap.size (by rw [Lib.iterAt_size]; exact lt_of_blk Hk.out)).trans (Lib.iterAt_heap _ _ _ _ (i + d) Hk.out)
        go_roundw
        case rel => exact ⟨i + d, hbound, hk2, bjoin (Lib.below_iterAt hB (Nat.le_refl _) _ _) (Lib.below_iterAt hB (Nat.le_refl _) _ _).size hb2, Lib.hid Hskip.out⟩
        case measure =>
          rw [iterPos_of hk2, hip.out]; omega
    · have hfin : Lib.indexAny s.data.toList chars.data.toList = -1 := Lib.indexAny_none (by
        have := hno.out
        rw [show i = s.size from by omega, Lib.size_eq] at this
        exact this)
      have hnx := fun ty => Lib.run_next_end_at (P := Tryz.prog) wr w'.heap.size s i ty hk hlt
      have Hfin := Lib.hid hfin
      clear hfin hk
      go_wp2
      go_ret
      exact ⟨by rw [Hfin.out]; rfl, hB⟩
theorem indexAny_c (s chars : ByteArray) (h2 : 2 ≤ chars.size) (hc : chars.size ≤ 1000) (hcl : Low chars) (hs : s.size ≤ 1000000) (w : World) :
    Calls Tryz.prog 192 #[.string s, .string chars] w fun e w' => e = .returned (.int .i64 (Lib.indexAny s.data.toList chars.data.toList)) ∧ Below w.heap.size w w' := by
  by_cases h8 : s.size ≤ 8
  · exact indexAny_short s chars h2 hc hcl h8 w
  · have h116 : ((Tryz.prog).info? (Tryz.lays150_ren.t 116)).map (fun i => (i.zero, i.size)) = some (some (.agg (Array.replicate 256 (.bool false))), 256) := by kernel_rfl
    refine (Any.strings_IndexAny_long { Tryz.lays150 with } (zero_of_info h116).1 (zero_of_info h116).2 s chars w h2 (by omega) (by omega) (by omega) (fun j b hj => ?_)).mono ?_
    · obtain ⟨hlt, he⟩ := List.getElem?_eq_some_iff.1 hj
      have := hcl j (by simpa using hlt)
      have e : chars[j]'(by simpa using hlt) = b := he
      rw [e] at this
      exact this
    · rintro e w' ⟨rfl, hw⟩
      rw [hw]
      exact ⟨rfl, ((Below.refl _ _).alloc (Nat.le_refl _) _).alloc (by simp) _⟩
set_option maxRecDepth 100000 in
set_option maxHeartbeats 8000000 in
theorem containsAny_c (s chars : ByteArray) (h2 : 2 ≤ chars.size) (hc : chars.size ≤ 1000) (hcl : Low chars) (hs : s.size ≤ 1000000) (w : World) :
    Calls Tryz.prog 126 #[.string s, .string chars] w fun e w' => e = .returned (.bool (Lib.containsAny s.data.toList chars.data.toList)) ∧ Below w.heap.size w w' := by
  have HC := Lib.hid hcl
  clear hcl
  go_enter Tryz.func126, Tryz.ntmps126
  go_wp2_with (first | (go_at_call 192; refine (indexAny_c s chars h2 hc HC.out hs _).mono ?_; rintro e w' ⟨rfl, hb⟩))
  go_ret
  exact ⟨rfl, hb⟩
theorem contains_any (s : List UInt8) (hs : s.length ≤ 1000000) (w : World) :
    Calls Tryz.prog 126 #[.string ⟨s.toArray⟩, .string ⟨#[32, 9, 10]⟩] w fun e w' => e = .returned (.bool (Lib.containsAny s [32, 9, 10])) ∧ Below w.heap.size w w' :=
  containsAny_c ⟨s.toArray⟩ ⟨#[32, 9, 10]⟩ (by decide) (by decide) (fun i h => by
    have h3 : i < 3 := h
    have : i = 0 ∨ i = 1 ∨ i = 2 := by omega
    rcases this with rfl | rfl | rfl
    · exact (by decide : (32 : UInt8).toNat < 128)
    · exact (by decide : (9 : UInt8).toNat < 128)
    · exact (by decide : (10 : UInt8).toNat < 128)) (by rw [size_of]; exact hs) w
end Go.Proofs.YtjghijeblddijaaGreatDoor
namespace Go.Proofs.YtjghijeblddijaaGreatDoor
open Go.RowKit

/-- The machine's longest text for a quick search lies where it lies. -/
def MaxIn (w : World) : Prop := ∃ m, w.cell? ⟨1, 0, none⟩ = some (.int .i64 m)
theorem MaxIn.later {w w' : World} (h : MaxIn w) (hb : Below w.heap.size w w') : MaxIn w' := by
  obtain ⟨m, h⟩ := h
  exact ⟨m, cell_later hb h⟩
theorem contains_c (s : List UInt8) (hs : s.length ≤ 1000000) (ha : True) (w : World) :
    Calls Tryz.prog 126 #[.string ⟨s.toArray⟩, .string ⟨#[32, 9, 10]⟩] w fun e w' => e = .returned (.bool (s.any Sp.blank)) ∧ Below w.heap.size w w' := by
  refine (contains_any s hs w).mono ?_
  rintro e w' ⟨rfl, h⟩
  exact ⟨by rw [← Sp.containsAny_blank], h⟩
theorem replace_c (s : List UInt8) (hs : s.length ≤ 1000000) (w : World) (hM : MaxIn w) :
    Calls Tryz.prog 127 #[.string ⟨s.toArray⟩, .string ⟨#[34]⟩, .string ⟨#[34, 34]⟩] w fun e w' => e = .returned (.string ⟨(Sp.dq s).toArray⟩) ∧ Below w.heap.size w w' := by
  obtain ⟨m, hm⟩ := hM
  have hc := Lib.countB_le ⟨#[34]⟩ (by decide) s.length ⟨s.toArray⟩ (Nat.le_refl _)
  rw [size_of] at hc
  have h2 : (⟨#[34, 34]⟩ : ByteArray).size = 2 := rfl
  refine (Tryz.strings_ReplaceAll ⟨s.toArray⟩ ⟨#[34]⟩ ⟨#[34, 34]⟩ m w (by rw [size_of]; omega) hm (by decide) (by rw [size_of, h2]; omega)).mono ?_
  rintro e w' ⟨rfl, h⟩
  exact ⟨by rw [← Sp.replaceAll_dq], h⟩
/-- The cells of a row of symbols. -/
theorem row_cells {w : World} {B : Nat} {A : Option Addr} {c : Nat} {l : List Sp.Sym} (h : w.ownsRow B 28 3 (.slice A l.length c) l.length (l.flatMap Sp.cells)) (k : Nat) (x : Sp.Sym) (hk : l[k]? = some x) :
    ∃ g, A = some ⟨g, 0, none⟩ ∧ B ≤ g ∧ w.cell? ⟨g, 3 * k, none⟩ = some (.int .i64 x.kind) ∧ w.cell? ⟨g, 3 * k + 1, none⟩ = some (.string ⟨x.text.toArray⟩) ∧ w.cell? ⟨g, 3 * k + 2, none⟩ = some (.int .i64 x.pos) := by
  have hlt := (List.getElem?_eq_some_iff.1 hk).1
  rcases h.2 with ⟨_, h0⟩ | ⟨g, cap, cur, h1, h2, h3, h4, h5, h6, h7⟩
  · omega
  · injection h1 with e1 e2 e3
    refine ⟨g, e1, h2, ?_⟩
    have key : ∀ (l : List Sp.Sym) (k : Nat) (x : Sp.Sym), l[k]? = some x → (l.flatMap Sp.cells)[3 * k]? = some (.int .i64 x.kind) ∧ (l.flatMap Sp.cells)[3 * k + 1]? = some (.string ⟨x.text.toArray⟩) ∧ (l.flatMap Sp.cells)[3 * k + 2]? = some (.int .i64 x.pos) := by
      intro l
      induction l with
      | nil => intro k x h; simp at h
      | cons y l ih =>
        intro k x h
        cases k with
        | zero =>
          have : y = x := by simpa using h
          subst this
          exact ⟨rfl, rfl, rfl⟩
        | succ k =>
          have h' : l[k]? = some x := by simpa using h
          have hc : (Sp.cells y).length = 3 := rfl
          have := ih k x h'
          refine ⟨?_, ?_, ?_⟩ <;> rw [List.flatMap_cons, List.getElem?_append_right (by rw [hc]; omega), hc]
          · rw [show 3 * (k + 1) - 3 = 3 * k by omega]; exact this.1
          · rw [show 3 * (k + 1) + 1 - 3 = 3 * k + 1 by omega]; exact this.2.1
          · rw [show 3 * (k + 1) + 2 - 3 = 3 * k + 2 by omega]; exact this.2.2
    have hcell : ∀ (j : Nat) (v : Value), (l.flatMap Sp.cells)[j]? = some v → w.cell? ⟨g, j, none⟩ = some v := by
      intro j v hj
      rw [cell_of_blk h3, ← Array.getElem?_toList]
      rw [← h7] at hj
      rw [List.getElem?_take] at hj
      split at hj
      · exact hj
      · cases hj
    obtain ⟨k1, k2, k3⟩ := key l k x hk
    exact ⟨hcell _ _ k1, hcell _ _ k2, hcell _ _ k3⟩

set_option maxRecDepth 100000 in
set_option maxHeartbeats 4000000 in
theorem formed_early (kind : Int) (s : List UInt8) (hs : s.length ≤ 1000000) (ha : True) (h6 : kind ≠ 6) (h7 : kind ≠ 7) (hb : s.any Sp.blank = true) (w : World) :
    Calls Tryz.prog 69 #[.int .i64 kind, .string ⟨s.toArray⟩] w fun e w' => e = .returned (.bool (Sp.formed kind s)) ∧ Below w.heap.size w w' := by
  have hfin : Sp.formed kind s = false := by
    unfold Sp.formed
    rw [if_pos (by rw [hb, bne_iff_ne.2 h6, bne_iff_ne.2 h7]; rfl)]
  rw [hfin]
  have e6 : (kind != 6) = true := bne_iff_ne.2 h6
  have e7 : (kind != 7) = true := bne_iff_ne.2 h7
  have Ha := Lib.hid ha
  have Hb := Lib.hid hb
  clear ha hb hfin h6 h7
  go_enter Tryz.func69, Tryz.ntmps69
  go_wp2_with (go_at_call 126; refine (contains_c s hs Ha.out _).mono ?_; rw [Hb.out]; rintro e w1 ⟨rfl, hb1⟩)
  go_ret
  exact ⟨rfl, hb1⟩
end Go.Proofs.YtjghijeblddijaaGreatDoor
set_option linter.unusedVariables false
namespace Go.Proofs.YtjghijeblddijaaGreatDoor
open Go.RowKit

theorem symbols_ok (T : List UInt8) (text : ByteArray) (ht : text = ⟨T.toArray⟩) (r : Int) (l : List Sp.Sym) (n : Nat) (hn : l.length = n) (h : Sp.symbols T r = .ok l) (w : World) (hS : SignsIn w) :
    Calls Tryz.prog 40 #[.string text, .int .i64 r] w fun e w' => ∃ A c, e = .returned (.tuple #[.slice A n c, .agg #[.int .i64 0, .int .i64 0]]) ∧ Below w.heap.size w w' ∧ w'.ownsRow w.heap.size 28 3 (.slice A l.length c) l.length (l.flatMap Sp.cells) := by
  subst ht; subst hn
  refine (symbols_c ⟨T.toArray⟩ r w hS).mono ?_
  rw [bs_of, h]
  rintro e w' ⟨A, c, rfl, h1, h2⟩
  exact ⟨A, c, rfl, h1, h2⟩
theorem symbols_bad (T : List UInt8) (text : ByteArray) (ht : text = ⟨T.toArray⟩) (r : Int) (f : Int × Int) (h : Sp.symbols T r = .error f) (w : World) (hS : SignsIn w) :
    Calls Tryz.prog 40 #[.string text, .int .i64 r] w fun e w' => e = .returned (.tuple #[.slice none 0 0, .agg #[.int .i64 f.1, .int .i64 f.2]]) ∧ Below w.heap.size w w' := by
  subst ht
  refine (symbols_c ⟨T.toArray⟩ r w hS).mono ?_
  rw [bs_of, h]
  rintro e w' ⟨A, c, rfl, h1, h2⟩
  exact ⟨rfl, h1⟩

set_option maxRecDepth 100000 in
set_option maxHeartbeats 8000000 in
theorem formed_6true_err (kind : Int) (s : List UInt8) (hs : s.length ≤ 100000) (ha : True) (hk : kind = 6) (hb : s.any Sp.blank = true) (f : Int × Int) (hX : Sp.symbols (Sp.asText kind s) 0 = .error f) (w : World) (hS : SignsIn w) (hM : MaxIn w) :
    Calls Tryz.prog 69 #[.int .i64 kind, .string ⟨s.toArray⟩] w fun e w' => e = .returned (.bool (Sp.formed kind s)) ∧ Below w.heap.size w w' := by
  have hT : Sp.asText kind s = 34 :: Sp.dq s ++ [34] := by
    unfold Sp.asText
    rw [if_pos hk]
  have hfin : Sp.formed kind s = Sp.lone kind s (.error f) := by
    unfold Sp.formed
    rw [if_neg (by rw [hk]; simp), hX]
  rw [hfin]
  rw [hT] at hX
  have e6 : (kind != 6) = false := by rw [hk]; rfl
  have d6 : (kind == 6) = true := by rw [hk]; rfl
  have hcat : (⟨#[34]⟩ : ByteArray) ++ ⟨(Sp.dq s).toArray⟩ ++ ⟨#[34]⟩ = ⟨(34 :: Sp.dq s ++ [34]).toArray⟩ := by
    rw [show (⟨#[34]⟩ : ByteArray) = ⟨([34] : List UInt8).toArray⟩ from rfl, bcat, bcat]; rfl
  have hdl := Sp.dq_len s
  have hsum : 1 + (Sp.dq s).length ≤ 9223372036854775807 := by omega
  have hsum2 : 1 + (Sp.dq s).length + 1 ≤ 9223372036854775807 := by omega
  have hlone : Sp.lone kind s (.error f) = false := rfl
  rw [hlone]
  have HX := Lib.hid hX
  have Ha := Lib.hid ha
  have Hb := Lib.hid hb
  have Hcat := Lib.hid hcat
  have hs2 : s.length ≤ 1000000 := by omega
  clear hX ha hb hcat hfin hT hlone hk
  go_enter Tryz.func69, Tryz.ntmps69
  go_wp2_with (first
    | (go_at_call 126; refine (contains_c s hs2 Ha.out _).mono ?_; rw [Hb.out]; rintro e w1 ⟨rfl, hb1⟩)
    | (go_at_call 127; refine (replace_c s hs2 _ (hM.later hb1)).mono ?_; rintro e w2 ⟨rfl, hb2⟩; have hB2 := bjoin hb1 hb1.size hb2)
    | (go_at_call 40; refine (symbols_bad _ _ Hcat.out 0 f HX.out _ (hS.later hB2)).mono ?_; rintro e w3 ⟨rfl, hb3⟩; have hB3 := bjoin hB2 hB2.size hb3))
  all_goals (go_ret; exact ⟨rfl, hB3.alloc hB3.size _⟩)

set_option maxRecDepth 100000 in
set_option maxHeartbeats 8000000 in
theorem formed_6true_ne (kind : Int) (s : List UInt8) (hs : s.length ≤ 100000) (ha : True) (hk : kind = 6) (hb : s.any Sp.blank = true) (l : List Sp.Sym) (hl : l.length ≠ 2) (hX : Sp.symbols (Sp.asText kind s) 0 = .ok l) (w : World) (hS : SignsIn w) (hM : MaxIn w) :
    Calls Tryz.prog 69 #[.int .i64 kind, .string ⟨s.toArray⟩] w fun e w' => e = .returned (.bool (Sp.formed kind s)) ∧ Below w.heap.size w w' := by
  have hT : Sp.asText kind s = 34 :: Sp.dq s ++ [34] := by
    unfold Sp.asText
    rw [if_pos hk]
  have hfin : Sp.formed kind s = Sp.lone kind s (.ok l) := by
    unfold Sp.formed
    rw [if_neg (by rw [hk]; simp), hX]
  rw [hfin]
  rw [hT] at hX
  have e6 : (kind != 6) = false := by rw [hk]; rfl
  have d6 : (kind == 6) = true := by rw [hk]; rfl
  have hcat : (⟨#[34]⟩ : ByteArray) ++ ⟨(Sp.dq s).toArray⟩ ++ ⟨#[34]⟩ = ⟨(34 :: Sp.dq s ++ [34]).toArray⟩ := by
    rw [show (⟨#[34]⟩ : ByteArray) = ⟨([34] : List UInt8).toArray⟩ from rfl, bcat, bcat]; rfl
  have hdl := Sp.dq_len s
  have hsum : 1 + (Sp.dq s).length ≤ 9223372036854775807 := by omega
  have hsum2 : 1 + (Sp.dq s).length + 1 ≤ 9223372036854775807 := by omega
  have hn : ((l.length : Int) == 2) = false := by rw [beq_eq_false_iff_ne]; omega
  have hn2 : (l.length == 2) = false := by rw [beq_eq_false_iff_ne]; exact hl
  have hlone : Sp.lone kind s (.ok l) = false := by
    match l, hl with
    | [], _ => rfl
    | [_], _ => rfl
    | _ :: _ :: _ :: _, _ => rfl
  rw [hlone]
  have Hl := Lib.hid hl
  have HX := Lib.hid hX
  have Ha := Lib.hid ha
  have Hb := Lib.hid hb
  have Hcat := Lib.hid hcat
  have hs2 : s.length ≤ 1000000 := by omega
  clear hX ha hb hcat hfin hT hlone hk hl
  go_enter Tryz.func69, Tryz.ntmps69
  go_wp2_with (first
    | (go_at_call 126; refine (contains_c s hs2 Ha.out _).mono ?_; rw [Hb.out]; rintro e w1 ⟨rfl, hb1⟩)
    | (go_at_call 127; refine (replace_c s hs2 _ (hM.later hb1)).mono ?_; rintro e w2 ⟨rfl, hb2⟩; have hB2 := bjoin hb1 hb1.size hb2)
    | (go_at_call 40; refine (symbols_ok _ _ Hcat.out 0 l _ rfl HX.out _ (hS.later hB2)).mono ?_; rintro e w3 ⟨A, c, rfl, hb3, hown⟩; have hB3 := bjoin hB2 hB2.size hb3; clear hown))
  all_goals (go_ret; exact ⟨rfl, hB3.alloc hB3.size _⟩)

set_option maxRecDepth 100000 in
set_option maxHeartbeats 8000000 in
theorem formed_6true_two (kind : Int) (s : List UInt8) (hs : s.length ≤ 100000) (ha : True) (hk : kind = 6) (hb : s.any Sp.blank = true) (x y : Sp.Sym) (hX : Sp.symbols (Sp.asText kind s) 0 = .ok [x, y]) (w : World) (hS : SignsIn w) (hM : MaxIn w) :
    Calls Tryz.prog 69 #[.int .i64 kind, .string ⟨s.toArray⟩] w fun e w' => e = .returned (.bool (Sp.formed kind s)) ∧ Below w.heap.size w w' := by
  have hT : Sp.asText kind s = 34 :: Sp.dq s ++ [34] := by
    unfold Sp.asText
    rw [if_pos hk]
  have hfin : Sp.formed kind s = Sp.lone kind s (.ok [x, y]) := by
    unfold Sp.formed
    rw [if_neg (by rw [hk]; simp), hX]
  rw [hfin]
  rw [hT] at hX
  have e6 : (kind != 6) = false := by rw [hk]; rfl
  have d6 : (kind == 6) = true := by rw [hk]; rfl
  have hcat : (⟨#[34]⟩ : ByteArray) ++ ⟨(Sp.dq s).toArray⟩ ++ ⟨#[34]⟩ = ⟨(34 :: Sp.dq s ++ [34]).toArray⟩ := by
    rw [show (⟨#[34]⟩ : ByteArray) = ⟨([34] : List UInt8).toArray⟩ from rfl, bcat, bcat]; rfl
  have hdl := Sp.dq_len s
  have hsum : 1 + (Sp.dq s).length ≤ 9223372036854775807 := by omega
  have hsum2 : 1 + (Sp.dq s).length + 1 ≤ 9223372036854775807 := by omega
  have hlone : Sp.lone kind s (.ok [x, y]) = (x.kind == kind && x.text == s) := rfl
  rw [hlone]
  have HX := Lib.hid hX
  have Ha := Lib.hid ha
  have Hb := Lib.hid hb
  have Hcat := Lib.hid hcat
  have hs2 : s.length ≤ 1000000 := by omega
  clear hX ha hb hcat hfin hT hlone hk
  go_enter Tryz.func69, Tryz.ntmps69
  go_wp2_with (first
    | (go_at_call 126; refine (contains_c s hs2 Ha.out _).mono ?_; rw [Hb.out]; rintro e w1 ⟨rfl, hb1⟩)
    | (go_at_call 127; refine (replace_c s hs2 _ (hM.later hb1)).mono ?_; rintro e w2 ⟨rfl, hb2⟩; have hB2 := bjoin hb1 hb1.size hb2)
    | (go_at_call 40; refine (symbols_ok _ _ Hcat.out 0 [x, y] 2 rfl HX.out _ (hS.later hB2)).mono ?_; rintro e w3 ⟨A, c, rfl, hb3, hown⟩; have hB3 := bjoin hB2 hB2.size hb3; obtain ⟨g, rfl, hg, q0, q1, q2⟩ := row_cells hown 0 x rfl; clear hown; replace q0 : w3.cell? ⟨g, 0, none⟩ = some (.int .i64 x.kind) := q0; replace q1 : w3.cell? ⟨g, 1, none⟩ = some (.string ⟨x.text.toArray⟩) := q1; clear q2; have hgl : g < w3.heap.size := World.block_lt_of_cell? w3 _ q0; have hgn : ¬ g = w3.heap.size := Nat.ne_of_lt hgl))
  all_goals (go_ret; exact ⟨ret_bool (by simp [*]), hB3.alloc hB3.size _⟩)

set_option maxRecDepth 100000 in
set_option maxHeartbeats 8000000 in
theorem formed_6false_err (kind : Int) (s : List UInt8) (hs : s.length ≤ 100000) (ha : True) (hk : kind = 6) (hb : s.any Sp.blank = false) (f : Int × Int) (hX : Sp.symbols (Sp.asText kind s) 0 = .error f) (w : World) (hS : SignsIn w) (hM : MaxIn w) :
    Calls Tryz.prog 69 #[.int .i64 kind, .string ⟨s.toArray⟩] w fun e w' => e = .returned (.bool (Sp.formed kind s)) ∧ Below w.heap.size w w' := by
  have hT : Sp.asText kind s = 34 :: Sp.dq s ++ [34] := by
    unfold Sp.asText
    rw [if_pos hk]
  have hfin : Sp.formed kind s = Sp.lone kind s (.error f) := by
    unfold Sp.formed
    rw [if_neg (by rw [hk]; simp), hX]
  rw [hfin]
  rw [hT] at hX
  have e6 : (kind != 6) = false := by rw [hk]; rfl
  have d6 : (kind == 6) = true := by rw [hk]; rfl
  have hcat : (⟨#[34]⟩ : ByteArray) ++ ⟨(Sp.dq s).toArray⟩ ++ ⟨#[34]⟩ = ⟨(34 :: Sp.dq s ++ [34]).toArray⟩ := by
    rw [show (⟨#[34]⟩ : ByteArray) = ⟨([34] : List UInt8).toArray⟩ from rfl, bcat, bcat]; rfl
  have hdl := Sp.dq_len s
  have hsum : 1 + (Sp.dq s).length ≤ 9223372036854775807 := by omega
  have hsum2 : 1 + (Sp.dq s).length + 1 ≤ 9223372036854775807 := by omega
  have hlone : Sp.lone kind s (.error f) = false := rfl
  rw [hlone]
  have HX := Lib.hid hX
  have Ha := Lib.hid ha
  have Hb := Lib.hid hb
  have Hcat := Lib.hid hcat
  have hs2 : s.length ≤ 1000000 := by omega
  clear hX ha hb hcat hfin hT hlone hk
  go_enter Tryz.func69, Tryz.ntmps69
  go_wp2_with (first
    | (go_at_call 126; refine (contains_c s hs2 Ha.out _).mono ?_; rw [Hb.out]; rintro e w1 ⟨rfl, hb1⟩)
    | (go_at_call 127; refine (replace_c s hs2 _ (hM.later hb1)).mono ?_; rintro e w2 ⟨rfl, hb2⟩; have hB2 := bjoin hb1 hb1.size hb2)
    | (go_at_call 40; refine (symbols_bad _ _ Hcat.out 0 f HX.out _ (hS.later hB2)).mono ?_; rintro e w3 ⟨rfl, hb3⟩; have hB3 := bjoin hB2 hB2.size hb3))
  all_goals (go_ret; exact ⟨rfl, hB3.alloc hB3.size _⟩)

set_option maxRecDepth 100000 in
set_option maxHeartbeats 8000000 in
theorem formed_6false_ne (kind : Int) (s : List UInt8) (hs : s.length ≤ 100000) (ha : True) (hk : kind = 6) (hb : s.any Sp.blank = false) (l : List Sp.Sym) (hl : l.length ≠ 2) (hX : Sp.symbols (Sp.asText kind s) 0 = .ok l) (w : World) (hS : SignsIn w) (hM : MaxIn w) :
    Calls Tryz.prog 69 #[.int .i64 kind, .string ⟨s.toArray⟩] w fun e w' => e = .returned (.bool (Sp.formed kind s)) ∧ Below w.heap.size w w' := by
  have hT : Sp.asText kind s = 34 :: Sp.dq s ++ [34] := by
    unfold Sp.asText
    rw [if_pos hk]
  have hfin : Sp.formed kind s = Sp.lone kind s (.ok l) := by
    unfold Sp.formed
    rw [if_neg (by rw [hk]; simp), hX]
  rw [hfin]
  rw [hT] at hX
  have e6 : (kind != 6) = false := by rw [hk]; rfl
  have d6 : (kind == 6) = true := by rw [hk]; rfl
  have hcat : (⟨#[34]⟩ : ByteArray) ++ ⟨(Sp.dq s).toArray⟩ ++ ⟨#[34]⟩ = ⟨(34 :: Sp.dq s ++ [34]).toArray⟩ := by
    rw [show (⟨#[34]⟩ : ByteArray) = ⟨([34] : List UInt8).toArray⟩ from rfl, bcat, bcat]; rfl
  have hdl := Sp.dq_len s
  have hsum : 1 + (Sp.dq s).length ≤ 9223372036854775807 := by omega
  have hsum2 : 1 + (Sp.dq s).length + 1 ≤ 9223372036854775807 := by omega
  have hn : ((l.length : Int) == 2) = false := by rw [beq_eq_false_iff_ne]; omega
  have hn2 : (l.length == 2) = false := by rw [beq_eq_false_iff_ne]; exact hl
  have hlone : Sp.lone kind s (.ok l) = false := by
    match l, hl with
    | [], _ => rfl
    | [_], _ => rfl
    | _ :: _ :: _ :: _, _ => rfl
  rw [hlone]
  have Hl := Lib.hid hl
  have HX := Lib.hid hX
  have Ha := Lib.hid ha
  have Hb := Lib.hid hb
  have Hcat := Lib.hid hcat
  have hs2 : s.length ≤ 1000000 := by omega
  clear hX ha hb hcat hfin hT hlone hk hl
  go_enter Tryz.func69, Tryz.ntmps69
  go_wp2_with (first
    | (go_at_call 126; refine (contains_c s hs2 Ha.out _).mono ?_; rw [Hb.out]; rintro e w1 ⟨rfl, hb1⟩)
    | (go_at_call 127; refine (replace_c s hs2 _ (hM.later hb1)).mono ?_; rintro e w2 ⟨rfl, hb2⟩; have hB2 := bjoin hb1 hb1.size hb2)
    | (go_at_call 40; refine (symbols_ok _ _ Hcat.out 0 l _ rfl HX.out _ (hS.later hB2)).mono ?_; rintro e w3 ⟨A, c, rfl, hb3, hown⟩; have hB3 := bjoin hB2 hB2.size hb3; clear hown))
  all_goals (go_ret; exact ⟨rfl, hB3.alloc hB3.size _⟩)

set_option maxRecDepth 100000 in
set_option maxHeartbeats 8000000 in
theorem formed_6false_two (kind : Int) (s : List UInt8) (hs : s.length ≤ 100000) (ha : True) (hk : kind = 6) (hb : s.any Sp.blank = false) (x y : Sp.Sym) (hX : Sp.symbols (Sp.asText kind s) 0 = .ok [x, y]) (w : World) (hS : SignsIn w) (hM : MaxIn w) :
    Calls Tryz.prog 69 #[.int .i64 kind, .string ⟨s.toArray⟩] w fun e w' => e = .returned (.bool (Sp.formed kind s)) ∧ Below w.heap.size w w' := by
  have hT : Sp.asText kind s = 34 :: Sp.dq s ++ [34] := by
    unfold Sp.asText
    rw [if_pos hk]
  have hfin : Sp.formed kind s = Sp.lone kind s (.ok [x, y]) := by
    unfold Sp.formed
    rw [if_neg (by rw [hk]; simp), hX]
  rw [hfin]
  rw [hT] at hX
  have e6 : (kind != 6) = false := by rw [hk]; rfl
  have d6 : (kind == 6) = true := by rw [hk]; rfl
  have hcat : (⟨#[34]⟩ : ByteArray) ++ ⟨(Sp.dq s).toArray⟩ ++ ⟨#[34]⟩ = ⟨(34 :: Sp.dq s ++ [34]).toArray⟩ := by
    rw [show (⟨#[34]⟩ : ByteArray) = ⟨([34] : List UInt8).toArray⟩ from rfl, bcat, bcat]; rfl
  have hdl := Sp.dq_len s
  have hsum : 1 + (Sp.dq s).length ≤ 9223372036854775807 := by omega
  have hsum2 : 1 + (Sp.dq s).length + 1 ≤ 9223372036854775807 := by omega
  have hlone : Sp.lone kind s (.ok [x, y]) = (x.kind == kind && x.text == s) := rfl
  rw [hlone]
  have HX := Lib.hid hX
  have Ha := Lib.hid ha
  have Hb := Lib.hid hb
  have Hcat := Lib.hid hcat
  have hs2 : s.length ≤ 1000000 := by omega
  clear hX ha hb hcat hfin hT hlone hk
  go_enter Tryz.func69, Tryz.ntmps69
  go_wp2_with (first
    | (go_at_call 126; refine (contains_c s hs2 Ha.out _).mono ?_; rw [Hb.out]; rintro e w1 ⟨rfl, hb1⟩)
    | (go_at_call 127; refine (replace_c s hs2 _ (hM.later hb1)).mono ?_; rintro e w2 ⟨rfl, hb2⟩; have hB2 := bjoin hb1 hb1.size hb2)
    | (go_at_call 40; refine (symbols_ok _ _ Hcat.out 0 [x, y] 2 rfl HX.out _ (hS.later hB2)).mono ?_; rintro e w3 ⟨A, c, rfl, hb3, hown⟩; have hB3 := bjoin hB2 hB2.size hb3; obtain ⟨g, rfl, hg, q0, q1, q2⟩ := row_cells hown 0 x rfl; clear hown; replace q0 : w3.cell? ⟨g, 0, none⟩ = some (.int .i64 x.kind) := q0; replace q1 : w3.cell? ⟨g, 1, none⟩ = some (.string ⟨x.text.toArray⟩) := q1; clear q2; have hgl : g < w3.heap.size := World.block_lt_of_cell? w3 _ q0; have hgn : ¬ g = w3.heap.size := Nat.ne_of_lt hgl))
  all_goals (go_ret; exact ⟨ret_bool (by simp [*]), hB3.alloc hB3.size _⟩)

set_option maxRecDepth 100000 in
set_option maxHeartbeats 8000000 in
theorem formed_7true_err (kind : Int) (s : List UInt8) (hs : s.length ≤ 100000) (ha : True) (hk : kind = 7) (hb : s.any Sp.blank = true) (f : Int × Int) (hX : Sp.symbols (Sp.asText kind s) 0 = .error f) (w : World) (hS : SignsIn w) (hM : MaxIn w) :
    Calls Tryz.prog 69 #[.int .i64 kind, .string ⟨s.toArray⟩] w fun e w' => e = .returned (.bool (Sp.formed kind s)) ∧ Below w.heap.size w w' := by
  have hT : Sp.asText kind s = 36 :: s ++ [36] := by
    unfold Sp.asText
    rw [if_neg (by rw [hk]; decide), if_pos hk]
  have hfin : Sp.formed kind s = Sp.lone kind s (.error f) := by
    unfold Sp.formed
    rw [if_neg (by rw [hk]; simp), hX]
  rw [hfin]
  rw [hT] at hX
  have e6 : (kind != 6) = true := by rw [hk]; rfl
  have d6 : (kind == 6) = false := by rw [hk]; rfl
  have e7 : (kind != 7) = false := by rw [hk]; rfl
  have d7 : (kind == 7) = true := by rw [hk]; rfl
  have hcat : (⟨#[36]⟩ : ByteArray) ++ ⟨s.toArray⟩ ++ ⟨#[36]⟩ = ⟨(36 :: s ++ [36]).toArray⟩ := by
    rw [show (⟨#[36]⟩ : ByteArray) = ⟨([36] : List UInt8).toArray⟩ from rfl, bcat, bcat]; rfl
  have hsum : 1 + s.length ≤ 9223372036854775807 := by omega
  have hlone : Sp.lone kind s (.error f) = false := rfl
  rw [hlone]
  have HX := Lib.hid hX
  have Ha := Lib.hid ha
  have Hb := Lib.hid hb
  have Hcat := Lib.hid hcat
  have hs2 : s.length ≤ 1000000 := by omega
  clear hX ha hb hcat hfin hT hlone hk
  go_enter Tryz.func69, Tryz.ntmps69
  go_wp2_with (first
    | (go_at_call 126; refine (contains_c s hs2 Ha.out _).mono ?_; rw [Hb.out]; rintro e w1 ⟨rfl, hb1⟩)
    | (go_at_call 40; refine (symbols_bad _ _ Hcat.out 0 f HX.out _ (hS.later hb1)).mono ?_; rintro e w3 ⟨rfl, hb3⟩; have hB3 := bjoin hb1 hb1.size hb3))
  all_goals (go_ret; exact ⟨rfl, hB3.alloc hB3.size _⟩)

set_option maxRecDepth 100000 in
set_option maxHeartbeats 8000000 in
theorem formed_7true_ne (kind : Int) (s : List UInt8) (hs : s.length ≤ 100000) (ha : True) (hk : kind = 7) (hb : s.any Sp.blank = true) (l : List Sp.Sym) (hl : l.length ≠ 2) (hX : Sp.symbols (Sp.asText kind s) 0 = .ok l) (w : World) (hS : SignsIn w) (hM : MaxIn w) :
    Calls Tryz.prog 69 #[.int .i64 kind, .string ⟨s.toArray⟩] w fun e w' => e = .returned (.bool (Sp.formed kind s)) ∧ Below w.heap.size w w' := by
  have hT : Sp.asText kind s = 36 :: s ++ [36] := by
    unfold Sp.asText
    rw [if_neg (by rw [hk]; decide), if_pos hk]
  have hfin : Sp.formed kind s = Sp.lone kind s (.ok l) := by
    unfold Sp.formed
    rw [if_neg (by rw [hk]; simp), hX]
  rw [hfin]
  rw [hT] at hX
  have e6 : (kind != 6) = true := by rw [hk]; rfl
  have d6 : (kind == 6) = false := by rw [hk]; rfl
  have e7 : (kind != 7) = false := by rw [hk]; rfl
  have d7 : (kind == 7) = true := by rw [hk]; rfl
  have hcat : (⟨#[36]⟩ : ByteArray) ++ ⟨s.toArray⟩ ++ ⟨#[36]⟩ = ⟨(36 :: s ++ [36]).toArray⟩ := by
    rw [show (⟨#[36]⟩ : ByteArray) = ⟨([36] : List UInt8).toArray⟩ from rfl, bcat, bcat]; rfl
  have hsum : 1 + s.length ≤ 9223372036854775807 := by omega
  have hn : ((l.length : Int) == 2) = false := by rw [beq_eq_false_iff_ne]; omega
  have hn2 : (l.length == 2) = false := by rw [beq_eq_false_iff_ne]; exact hl
  have hlone : Sp.lone kind s (.ok l) = false := by
    match l, hl with
    | [], _ => rfl
    | [_], _ => rfl
    | _ :: _ :: _ :: _, _ => rfl
  rw [hlone]
  have Hl := Lib.hid hl
  have HX := Lib.hid hX
  have Ha := Lib.hid ha
  have Hb := Lib.hid hb
  have Hcat := Lib.hid hcat
  have hs2 : s.length ≤ 1000000 := by omega
  clear hX ha hb hcat hfin hT hlone hk hl
  go_enter Tryz.func69, Tryz.ntmps69
  go_wp2_with (first
    | (go_at_call 126; refine (contains_c s hs2 Ha.out _).mono ?_; rw [Hb.out]; rintro e w1 ⟨rfl, hb1⟩)
    | (go_at_call 40; refine (symbols_ok _ _ Hcat.out 0 l _ rfl HX.out _ (hS.later hb1)).mono ?_; rintro e w3 ⟨A, c, rfl, hb3, hown⟩; have hB3 := bjoin hb1 hb1.size hb3; clear hown))
  all_goals (go_ret; exact ⟨rfl, hB3.alloc hB3.size _⟩)

set_option maxRecDepth 100000 in
set_option maxHeartbeats 8000000 in
theorem formed_7true_two (kind : Int) (s : List UInt8) (hs : s.length ≤ 100000) (ha : True) (hk : kind = 7) (hb : s.any Sp.blank = true) (x y : Sp.Sym) (hX : Sp.symbols (Sp.asText kind s) 0 = .ok [x, y]) (w : World) (hS : SignsIn w) (hM : MaxIn w) :
    Calls Tryz.prog 69 #[.int .i64 kind, .string ⟨s.toArray⟩] w fun e w' => e = .returned (.bool (Sp.formed kind s)) ∧ Below w.heap.size w w' := by
  have hT : Sp.asText kind s = 36 :: s ++ [36] := by
    unfold Sp.asText
    rw [if_neg (by rw [hk]; decide), if_pos hk]
  have hfin : Sp.formed kind s = Sp.lone kind s (.ok [x, y]) := by
    unfold Sp.formed
    rw [if_neg (by rw [hk]; simp), hX]
  rw [hfin]
  rw [hT] at hX
  have e6 : (kind != 6) = true := by rw [hk]; rfl
  have d6 : (kind == 6) = false := by rw [hk]; rfl
  have e7 : (kind != 7) = false := by rw [hk]; rfl
  have d7 : (kind == 7) = true := by rw [hk]; rfl
  have hcat : (⟨#[36]⟩ : ByteArray) ++ ⟨s.toArray⟩ ++ ⟨#[36]⟩ = ⟨(36 :: s ++ [36]).toArray⟩ := by
    rw [show (⟨#[36]⟩ : ByteArray) = ⟨([36] : List UInt8).toArray⟩ from rfl, bcat, bcat]; rfl
  have hsum : 1 + s.length ≤ 9223372036854775807 := by omega
  have hlone : Sp.lone kind s (.ok [x, y]) = (x.kind == kind && x.text == s) := rfl
  rw [hlone]
  have HX := Lib.hid hX
  have Ha := Lib.hid ha
  have Hb := Lib.hid hb
  have Hcat := Lib.hid hcat
  have hs2 : s.length ≤ 1000000 := by omega
  clear hX ha hb hcat hfin hT hlone hk
  go_enter Tryz.func69, Tryz.ntmps69
  go_wp2_with (first
    | (go_at_call 126; refine (contains_c s hs2 Ha.out _).mono ?_; rw [Hb.out]; rintro e w1 ⟨rfl, hb1⟩)
    | (go_at_call 40; refine (symbols_ok _ _ Hcat.out 0 [x, y] 2 rfl HX.out _ (hS.later hb1)).mono ?_; rintro e w3 ⟨A, c, rfl, hb3, hown⟩; have hB3 := bjoin hb1 hb1.size hb3; obtain ⟨g, rfl, hg, q0, q1, q2⟩ := row_cells hown 0 x rfl; clear hown; replace q0 : w3.cell? ⟨g, 0, none⟩ = some (.int .i64 x.kind) := q0; replace q1 : w3.cell? ⟨g, 1, none⟩ = some (.string ⟨x.text.toArray⟩) := q1; clear q2; have hgl : g < w3.heap.size := World.block_lt_of_cell? w3 _ q0; have hgn : ¬ g = w3.heap.size := Nat.ne_of_lt hgl))
  all_goals (go_ret; exact ⟨ret_bool (by simp [*]), hB3.alloc hB3.size _⟩)

set_option maxRecDepth 100000 in
set_option maxHeartbeats 8000000 in
theorem formed_7false_err (kind : Int) (s : List UInt8) (hs : s.length ≤ 100000) (ha : True) (hk : kind = 7) (hb : s.any Sp.blank = false) (f : Int × Int) (hX : Sp.symbols (Sp.asText kind s) 0 = .error f) (w : World) (hS : SignsIn w) (hM : MaxIn w) :
    Calls Tryz.prog 69 #[.int .i64 kind, .string ⟨s.toArray⟩] w fun e w' => e = .returned (.bool (Sp.formed kind s)) ∧ Below w.heap.size w w' := by
  have hT : Sp.asText kind s = 36 :: s ++ [36] := by
    unfold Sp.asText
    rw [if_neg (by rw [hk]; decide), if_pos hk]
  have hfin : Sp.formed kind s = Sp.lone kind s (.error f) := by
    unfold Sp.formed
    rw [if_neg (by rw [hk]; simp), hX]
  rw [hfin]
  rw [hT] at hX
  have e6 : (kind != 6) = true := by rw [hk]; rfl
  have d6 : (kind == 6) = false := by rw [hk]; rfl
  have e7 : (kind != 7) = false := by rw [hk]; rfl
  have d7 : (kind == 7) = true := by rw [hk]; rfl
  have hcat : (⟨#[36]⟩ : ByteArray) ++ ⟨s.toArray⟩ ++ ⟨#[36]⟩ = ⟨(36 :: s ++ [36]).toArray⟩ := by
    rw [show (⟨#[36]⟩ : ByteArray) = ⟨([36] : List UInt8).toArray⟩ from rfl, bcat, bcat]; rfl
  have hsum : 1 + s.length ≤ 9223372036854775807 := by omega
  have hlone : Sp.lone kind s (.error f) = false := rfl
  rw [hlone]
  have HX := Lib.hid hX
  have Ha := Lib.hid ha
  have Hb := Lib.hid hb
  have Hcat := Lib.hid hcat
  have hs2 : s.length ≤ 1000000 := by omega
  clear hX ha hb hcat hfin hT hlone hk
  go_enter Tryz.func69, Tryz.ntmps69
  go_wp2_with (first
    | (go_at_call 126; refine (contains_c s hs2 Ha.out _).mono ?_; rw [Hb.out]; rintro e w1 ⟨rfl, hb1⟩)
    | (go_at_call 40; refine (symbols_bad _ _ Hcat.out 0 f HX.out _ (hS.later hb1)).mono ?_; rintro e w3 ⟨rfl, hb3⟩; have hB3 := bjoin hb1 hb1.size hb3))
  all_goals (go_ret; exact ⟨rfl, hB3.alloc hB3.size _⟩)

set_option maxRecDepth 100000 in
set_option maxHeartbeats 8000000 in
theorem formed_7false_ne (kind : Int) (s : List UInt8) (hs : s.length ≤ 100000) (ha : True) (hk : kind = 7) (hb : s.any Sp.blank = false) (l : List Sp.Sym) (hl : l.length ≠ 2) (hX : Sp.symbols (Sp.asText kind s) 0 = .ok l) (w : World) (hS : SignsIn w) (hM : MaxIn w) :
    Calls Tryz.prog 69 #[.int .i64 kind, .string ⟨s.toArray⟩] w fun e w' => e = .returned (.bool (Sp.formed kind s)) ∧ Below w.heap.size w w' := by
  have hT : Sp.asText kind s = 36 :: s ++ [36] := by
    unfold Sp.asText
    rw [if_neg (by rw [hk]; decide), if_pos hk]
  have hfin : Sp.formed kind s = Sp.lone kind s (.ok l) := by
    unfold Sp.formed
    rw [if_neg (by rw [hk]; simp), hX]
  rw [hfin]
  rw [hT] at hX
  have e6 : (kind != 6) = true := by rw [hk]; rfl
  have d6 : (kind == 6) = false := by rw [hk]; rfl
  have e7 : (kind != 7) = false := by rw [hk]; rfl
  have d7 : (kind == 7) = true := by rw [hk]; rfl
  have hcat : (⟨#[36]⟩ : ByteArray) ++ ⟨s.toArray⟩ ++ ⟨#[36]⟩ = ⟨(36 :: s ++ [36]).toArray⟩ := by
    rw [show (⟨#[36]⟩ : ByteArray) = ⟨([36] : List UInt8).toArray⟩ from rfl, bcat, bcat]; rfl
  have hsum : 1 + s.length ≤ 9223372036854775807 := by omega
  have hn : ((l.length : Int) == 2) = false := by rw [beq_eq_false_iff_ne]; omega
  have hn2 : (l.length == 2) = false := by rw [beq_eq_false_iff_ne]; exact hl
  have hlone : Sp.lone kind s (.ok l) = false := by
    match l, hl with
    | [], _ => rfl
    | [_], _ => rfl
    | _ :: _ :: _ :: _, _ => rfl
  rw [hlone]
  have Hl := Lib.hid hl
  have HX := Lib.hid hX
  have Ha := Lib.hid ha
  have Hb := Lib.hid hb
  have Hcat := Lib.hid hcat
  have hs2 : s.length ≤ 1000000 := by omega
  clear hX ha hb hcat hfin hT hlone hk hl
  go_enter Tryz.func69, Tryz.ntmps69
  go_wp2_with (first
    | (go_at_call 126; refine (contains_c s hs2 Ha.out _).mono ?_; rw [Hb.out]; rintro e w1 ⟨rfl, hb1⟩)
    | (go_at_call 40; refine (symbols_ok _ _ Hcat.out 0 l _ rfl HX.out _ (hS.later hb1)).mono ?_; rintro e w3 ⟨A, c, rfl, hb3, hown⟩; have hB3 := bjoin hb1 hb1.size hb3; clear hown))
  all_goals (go_ret; exact ⟨rfl, hB3.alloc hB3.size _⟩)

set_option maxRecDepth 100000 in
set_option maxHeartbeats 8000000 in
theorem formed_7false_two (kind : Int) (s : List UInt8) (hs : s.length ≤ 100000) (ha : True) (hk : kind = 7) (hb : s.any Sp.blank = false) (x y : Sp.Sym) (hX : Sp.symbols (Sp.asText kind s) 0 = .ok [x, y]) (w : World) (hS : SignsIn w) (hM : MaxIn w) :
    Calls Tryz.prog 69 #[.int .i64 kind, .string ⟨s.toArray⟩] w fun e w' => e = .returned (.bool (Sp.formed kind s)) ∧ Below w.heap.size w w' := by
  have hT : Sp.asText kind s = 36 :: s ++ [36] := by
    unfold Sp.asText
    rw [if_neg (by rw [hk]; decide), if_pos hk]
  have hfin : Sp.formed kind s = Sp.lone kind s (.ok [x, y]) := by
    unfold Sp.formed
    rw [if_neg (by rw [hk]; simp), hX]
  rw [hfin]
  rw [hT] at hX
  have e6 : (kind != 6) = true := by rw [hk]; rfl
  have d6 : (kind == 6) = false := by rw [hk]; rfl
  have e7 : (kind != 7) = false := by rw [hk]; rfl
  have d7 : (kind == 7) = true := by rw [hk]; rfl
  have hcat : (⟨#[36]⟩ : ByteArray) ++ ⟨s.toArray⟩ ++ ⟨#[36]⟩ = ⟨(36 :: s ++ [36]).toArray⟩ := by
    rw [show (⟨#[36]⟩ : ByteArray) = ⟨([36] : List UInt8).toArray⟩ from rfl, bcat, bcat]; rfl
  have hsum : 1 + s.length ≤ 9223372036854775807 := by omega
  have hlone : Sp.lone kind s (.ok [x, y]) = (x.kind == kind && x.text == s) := rfl
  rw [hlone]
  have HX := Lib.hid hX
  have Ha := Lib.hid ha
  have Hb := Lib.hid hb
  have Hcat := Lib.hid hcat
  have hs2 : s.length ≤ 1000000 := by omega
  clear hX ha hb hcat hfin hT hlone hk
  go_enter Tryz.func69, Tryz.ntmps69
  go_wp2_with (first
    | (go_at_call 126; refine (contains_c s hs2 Ha.out _).mono ?_; rw [Hb.out]; rintro e w1 ⟨rfl, hb1⟩)
    | (go_at_call 40; refine (symbols_ok _ _ Hcat.out 0 [x, y] 2 rfl HX.out _ (hS.later hb1)).mono ?_; rintro e w3 ⟨A, c, rfl, hb3, hown⟩; have hB3 := bjoin hb1 hb1.size hb3; obtain ⟨g, rfl, hg, q0, q1, q2⟩ := row_cells hown 0 x rfl; clear hown; replace q0 : w3.cell? ⟨g, 0, none⟩ = some (.int .i64 x.kind) := q0; replace q1 : w3.cell? ⟨g, 1, none⟩ = some (.string ⟨x.text.toArray⟩) := q1; clear q2; have hgl : g < w3.heap.size := World.block_lt_of_cell? w3 _ q0; have hgn : ¬ g = w3.heap.size := Nat.ne_of_lt hgl))
  all_goals (go_ret; exact ⟨ret_bool (by simp [*]), hB3.alloc hB3.size _⟩)

set_option maxRecDepth 100000 in
set_option maxHeartbeats 8000000 in
theorem formed_0false_err (kind : Int) (s : List UInt8) (hs : s.length ≤ 100000) (ha : True) (h6 : kind ≠ 6) (h7 : kind ≠ 7) (hb : s.any Sp.blank = false) (f : Int × Int) (hX : Sp.symbols (Sp.asText kind s) 0 = .error f) (w : World) (hS : SignsIn w) (hM : MaxIn w) :
    Calls Tryz.prog 69 #[.int .i64 kind, .string ⟨s.toArray⟩] w fun e w' => e = .returned (.bool (Sp.formed kind s)) ∧ Below w.heap.size w w' := by
  have hT : Sp.asText kind s = s := by
    unfold Sp.asText
    rw [if_neg h6, if_neg h7]
  have hfin : Sp.formed kind s = Sp.lone kind s (.error f) := by
    unfold Sp.formed
    rw [if_neg (by rw [hb]; simp), hX]
  rw [hfin]
  rw [hT] at hX
  have d6 : (kind == 6) = false := beq_eq_false_iff_ne.2 h6
  have d7 : (kind == 7) = false := beq_eq_false_iff_ne.2 h7
  have hlone : Sp.lone kind s (.error f) = false := rfl
  rw [hlone]
  have HX := Lib.hid hX
  have Ha := Lib.hid ha
  have Hb := Lib.hid hb
  have hs2 : s.length ≤ 1000000 := by omega
  clear hX ha hb hfin hT hlone h6 h7
  go_enter Tryz.func69, Tryz.ntmps69
  go_wp2_with (first
    | (go_at_call 126; refine (contains_c s hs2 Ha.out _).mono ?_; rw [Hb.out]; rintro e w1 ⟨rfl, hb1⟩)
    | (go_at_call 40; refine (symbols_bad s _ rfl 0 f HX.out _ (hS.later hb1)).mono ?_; rintro e w3 ⟨rfl, hb3⟩; have hB3 := bjoin hb1 hb1.size hb3))
  all_goals (go_ret; exact ⟨rfl, hB3.alloc hB3.size _⟩)

set_option maxRecDepth 100000 in
set_option maxHeartbeats 8000000 in
theorem formed_0false_ne (kind : Int) (s : List UInt8) (hs : s.length ≤ 100000) (ha : True) (h6 : kind ≠ 6) (h7 : kind ≠ 7) (hb : s.any Sp.blank = false) (l : List Sp.Sym) (hl : l.length ≠ 2) (hX : Sp.symbols (Sp.asText kind s) 0 = .ok l) (w : World) (hS : SignsIn w) (hM : MaxIn w) :
    Calls Tryz.prog 69 #[.int .i64 kind, .string ⟨s.toArray⟩] w fun e w' => e = .returned (.bool (Sp.formed kind s)) ∧ Below w.heap.size w w' := by
  have hT : Sp.asText kind s = s := by
    unfold Sp.asText
    rw [if_neg h6, if_neg h7]
  have hfin : Sp.formed kind s = Sp.lone kind s (.ok l) := by
    unfold Sp.formed
    rw [if_neg (by rw [hb]; simp), hX]
  rw [hfin]
  rw [hT] at hX
  have d6 : (kind == 6) = false := beq_eq_false_iff_ne.2 h6
  have d7 : (kind == 7) = false := beq_eq_false_iff_ne.2 h7
  have hn : ((l.length : Int) == 2) = false := by rw [beq_eq_false_iff_ne]; omega
  have hn2 : (l.length == 2) = false := by rw [beq_eq_false_iff_ne]; exact hl
  have hlone : Sp.lone kind s (.ok l) = false := by
    match l, hl with
    | [], _ => rfl
    | [_], _ => rfl
    | _ :: _ :: _ :: _, _ => rfl
  rw [hlone]
  have Hl := Lib.hid hl
  have HX := Lib.hid hX
  have Ha := Lib.hid ha
  have Hb := Lib.hid hb
  have hs2 : s.length ≤ 1000000 := by omega
  clear hX ha hb hfin hT hlone h6 h7 hl
  go_enter Tryz.func69, Tryz.ntmps69
  go_wp2_with (first
    | (go_at_call 126; refine (contains_c s hs2 Ha.out _).mono ?_; rw [Hb.out]; rintro e w1 ⟨rfl, hb1⟩)
    | (go_at_call 40; refine (symbols_ok s _ rfl 0 l _ rfl HX.out _ (hS.later hb1)).mono ?_; rintro e w3 ⟨A, c, rfl, hb3, hown⟩; have hB3 := bjoin hb1 hb1.size hb3; clear hown))
  all_goals (go_ret; exact ⟨rfl, hB3.alloc hB3.size _⟩)

set_option maxRecDepth 100000 in
set_option maxHeartbeats 8000000 in
theorem formed_0false_two (kind : Int) (s : List UInt8) (hs : s.length ≤ 100000) (ha : True) (h6 : kind ≠ 6) (h7 : kind ≠ 7) (hb : s.any Sp.blank = false) (x y : Sp.Sym) (hX : Sp.symbols (Sp.asText kind s) 0 = .ok [x, y]) (w : World) (hS : SignsIn w) (hM : MaxIn w) :
    Calls Tryz.prog 69 #[.int .i64 kind, .string ⟨s.toArray⟩] w fun e w' => e = .returned (.bool (Sp.formed kind s)) ∧ Below w.heap.size w w' := by
  have hT : Sp.asText kind s = s := by
    unfold Sp.asText
    rw [if_neg h6, if_neg h7]
  have hfin : Sp.formed kind s = Sp.lone kind s (.ok [x, y]) := by
    unfold Sp.formed
    rw [if_neg (by rw [hb]; simp), hX]
  rw [hfin]
  rw [hT] at hX
  have d6 : (kind == 6) = false := beq_eq_false_iff_ne.2 h6
  have d7 : (kind == 7) = false := beq_eq_false_iff_ne.2 h7
  have hlone : Sp.lone kind s (.ok [x, y]) = (x.kind == kind && x.text == s) := rfl
  rw [hlone]
  have HX := Lib.hid hX
  have Ha := Lib.hid ha
  have Hb := Lib.hid hb
  have hs2 : s.length ≤ 1000000 := by omega
  clear hX ha hb hfin hT hlone h6 h7
  go_enter Tryz.func69, Tryz.ntmps69
  go_wp2_with (first
    | (go_at_call 126; refine (contains_c s hs2 Ha.out _).mono ?_; rw [Hb.out]; rintro e w1 ⟨rfl, hb1⟩)
    | (go_at_call 40; refine (symbols_ok s _ rfl 0 [x, y] 2 rfl HX.out _ (hS.later hb1)).mono ?_; rintro e w3 ⟨A, c, rfl, hb3, hown⟩; have hB3 := bjoin hb1 hb1.size hb3; obtain ⟨g, rfl, hg, q0, q1, q2⟩ := row_cells hown 0 x rfl; clear hown; replace q0 : w3.cell? ⟨g, 0, none⟩ = some (.int .i64 x.kind) := q0; replace q1 : w3.cell? ⟨g, 1, none⟩ = some (.string ⟨x.text.toArray⟩) := q1; clear q2; have hgl : g < w3.heap.size := World.block_lt_of_cell? w3 _ q0; have hgn : ¬ g = w3.heap.size := Nat.ne_of_lt hgl))
  all_goals (go_ret; exact ⟨ret_bool (by simp [*]), hB3.alloc hB3.size _⟩)

theorem formed_c (kind : Int) (s : List UInt8) (hs : s.length ≤ 100000) (ha : True) (w : World) (hS : SignsIn w) (hM : MaxIn w) :
    Calls Tryz.prog 69 #[.int .i64 kind, .string ⟨s.toArray⟩] w fun e w' => e = .returned (.bool (Sp.formed kind s)) ∧ Below w.heap.size w w' := by
  by_cases h6 : kind = 6
  · cases hb : s.any Sp.blank with
    | true =>
      cases hX : Sp.symbols (Sp.asText kind s) 0 with
      | error f => exact formed_6true_err kind s hs ha h6 hb f hX w hS hM
      | ok l =>
        match l, hX with
        | [], hX => exact formed_6true_ne kind s hs ha h6 hb _ (by simp) hX w hS hM
        | [_], hX => exact formed_6true_ne kind s hs ha h6 hb _ (by simp) hX w hS hM
        | [x, y], hX => exact formed_6true_two kind s hs ha h6 hb x y hX w hS hM
        | _ :: _ :: _ :: _, hX => exact formed_6true_ne kind s hs ha h6 hb _ (by simp) hX w hS hM
    | false =>
      cases hX : Sp.symbols (Sp.asText kind s) 0 with
      | error f => exact formed_6false_err kind s hs ha h6 hb f hX w hS hM
      | ok l =>
        match l, hX with
        | [], hX => exact formed_6false_ne kind s hs ha h6 hb _ (by simp) hX w hS hM
        | [_], hX => exact formed_6false_ne kind s hs ha h6 hb _ (by simp) hX w hS hM
        | [x, y], hX => exact formed_6false_two kind s hs ha h6 hb x y hX w hS hM
        | _ :: _ :: _ :: _, hX => exact formed_6false_ne kind s hs ha h6 hb _ (by simp) hX w hS hM
  by_cases h7 : kind = 7
  · cases hb : s.any Sp.blank with
    | true =>
      cases hX : Sp.symbols (Sp.asText kind s) 0 with
      | error f => exact formed_7true_err kind s hs ha h7 hb f hX w hS hM
      | ok l =>
        match l, hX with
        | [], hX => exact formed_7true_ne kind s hs ha h7 hb _ (by simp) hX w hS hM
        | [_], hX => exact formed_7true_ne kind s hs ha h7 hb _ (by simp) hX w hS hM
        | [x, y], hX => exact formed_7true_two kind s hs ha h7 hb x y hX w hS hM
        | _ :: _ :: _ :: _, hX => exact formed_7true_ne kind s hs ha h7 hb _ (by simp) hX w hS hM
    | false =>
      cases hX : Sp.symbols (Sp.asText kind s) 0 with
      | error f => exact formed_7false_err kind s hs ha h7 hb f hX w hS hM
      | ok l =>
        match l, hX with
        | [], hX => exact formed_7false_ne kind s hs ha h7 hb _ (by simp) hX w hS hM
        | [_], hX => exact formed_7false_ne kind s hs ha h7 hb _ (by simp) hX w hS hM
        | [x, y], hX => exact formed_7false_two kind s hs ha h7 hb x y hX w hS hM
        | _ :: _ :: _ :: _, hX => exact formed_7false_ne kind s hs ha h7 hb _ (by simp) hX w hS hM
  cases hb : s.any Sp.blank with
  | true => exact formed_early kind s (by omega) ha h6 h7 hb w
  | false =>
    cases hX : Sp.symbols (Sp.asText kind s) 0 with
    | error f => exact formed_0false_err kind s hs ha h6 h7 hb f hX w hS hM
    | ok l =>
      match l, hX with
      | [], hX => exact formed_0false_ne kind s hs ha h6 h7 hb _ (by simp) hX w hS hM
      | [_], hX => exact formed_0false_ne kind s hs ha h6 h7 hb _ (by simp) hX w hS hM
      | [x, y], hX => exact formed_0false_two kind s hs ha h6 h7 hb x y hX w hS hM
      | _ :: _ :: _ :: _, hX => exact formed_0false_ne kind s hs ha h6 h7 hb _ (by simp) hX w hS hM
end Go.Proofs.YtjghijeblddijaaGreatDoor
