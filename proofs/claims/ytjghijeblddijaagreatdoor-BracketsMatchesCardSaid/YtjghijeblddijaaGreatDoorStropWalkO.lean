/- Walks: rightBits. -/
import Derived.Test.YtjghijeblddijaaGreatDoorStropWalkN
import Derived.Deep.RegionHeld3
namespace Go.Proofs.YtjghijeblddijaaGreatDoor
open Go.RowKit

def digs : List UInt8 := [48, 49, 50, 51, 52, 53, 54, 55, 56, 57, 97, 98, 99, 100, 101, 102, 103, 104, 105, 106, 107, 108, 109, 110, 111, 112, 113, 114, 115, 116, 117, 118, 119, 120, 121, 122]
def hexc (c : UInt8) : Bool := Sp.digit c || (97 ≤ c && c ≤ 102)
theorem hex_all (n : Nat) (hn : n = 2 ∨ n = 4 ∨ n = 8 ∨ n = 16) (c : UInt8) (h : hexc c = true) : (digs.take n).contains c = decide (Sp.hexval c < n) := by
  have key : ∀ k, k < 256 → hexc (UInt8.ofNat k) = true →
      ((digs.take 2).contains (UInt8.ofNat k) = decide (Sp.hexval (UInt8.ofNat k) < 2) ∧ (digs.take 4).contains (UInt8.ofNat k) = decide (Sp.hexval (UInt8.ofNat k) < 4) ∧
       (digs.take 8).contains (UInt8.ofNat k) = decide (Sp.hexval (UInt8.ofNat k) < 8) ∧ (digs.take 16).contains (UInt8.ofNat k) = decide (Sp.hexval (UInt8.ofNat k) < 16)) := by decide +kernel
  have e : UInt8.ofNat c.toNat = c := by simp
  have := key c.toNat c.toNat_lt (by rw [e]; exact h)
  rw [e] at this
  rcases hn with rfl | rfl | rfl | rfl
  · exact this.1
  · exact this.2.1
  · exact this.2.2.1
  · exact this.2.2.2
theorem dropWhile_nil (p : UInt8 → Bool) (l : List UInt8) : l.dropWhile p = [] ↔ ∀ c ∈ l, p c = true := by
  induction l with
  | nil => simp
  | cons c t ih =>
    by_cases h : p c = true
    · rw [List.dropWhile_cons_of_pos h, ih]; simp [h]
    · rw [List.dropWhile_cons_of_neg h]; simp [h]
theorem dropWhile_head (p : UInt8 → Bool) (l : List UInt8) (y : UInt8) (ys : List UInt8) (h : l.dropWhile p = y :: ys) : p y = false := by
  induction l with
  | nil => simp at h
  | cons c t ih =>
    by_cases hc : p c = true
    · rw [List.dropWhile_cons_of_pos hc] at h; exact ih h
    · rw [List.dropWhile_cons_of_neg hc] at h
      injection h with h _
      rw [← h]; simpa using hc
theorem strip_both (p : UInt8 → Bool) (x : List UInt8) : (((x.dropWhile p).reverse.dropWhile p).reverse).isEmpty = x.all p := by
  rw [Bool.eq_iff_iff, List.isEmpty_iff, List.reverse_eq_nil_iff, List.all_eq_true]
  constructor
  · intro h c hc
    cases hx : x.dropWhile p with
    | nil => exact (dropWhile_nil _ _).1 hx c hc
    | cons y ys =>
      have h1 := (dropWhile_nil _ _).1 h y (by rw [hx]; simp)
      rw [dropWhile_head p x y ys hx] at h1; cases h1
  · intro h
    rw [(dropWhile_nil _ _).2 h]; rfl

theorem radixOf_cases (d : List UInt8) : Sp.radixOf d = 0 ∨ Sp.radixOf d = 2 ∨ Sp.radixOf d = 4 ∨ Sp.radixOf d = 8 ∨ Sp.radixOf d = 16 := by
  unfold Sp.radixOf
  split; · simp
  split; · simp
  split; · simp
  split <;> simp
theorem mk_eq (d e : List UInt8) : ((⟨d.toArray⟩ : ByteArray) == ⟨e.toArray⟩) = decide (d = e) := by
  show (d.toArray == e.toArray) = decide (d = e)
  rw [Bool.eq_iff_iff]
  simp
theorem rad_get (W : World) (r : Nat) (hW : W.heap[r]? = some (.map radEs 4)) (d : List UInt8) :
    (Instr.lookup 248 (.map (some r)) (.string ⟨d.toArray⟩) false).run Tryz.prog W = .ok (.int .i64 (Sp.radixOf d : Int)) W := by
  have e1 := mk_eq d [50]
  have e2 := mk_eq d [52]
  have e3 := mk_eq d [56]
  have e4 := mk_eq d [49, 54]
  have hf : Instr.findNow .string (.string ⟨d.toArray⟩) radEs.toList 0 = if d = [50] then some (some (0, .int .i64 2)) else if d = [52] then some (some (1, .int .i64 4)) else if d = [56] then some (some (2, .int .i64 8)) else if d = [49, 54] then some (some (3, .int .i64 16)) else some none := by
    simp only [radEs, Instr.findNow, Instr.sameNow, e1, e2, e3, e4]
    by_cases h1 : d = [50]
    · simp [h1]
    by_cases h2 : d = [52]
    · simp [h2]
    by_cases h3 : d = [56]
    · simp [h3]
    by_cases h4 : d = [49, 54]
    · simp [h4]
    simp [h1, h2, h3, h4]
  unfold Sp.radixOf
  by_cases h1 : d = [50]
  · rw [if_pos h1] at hf ⊢
    exact map_get Tryz.underlying248 Tryz.underlying9 W r _ _ hW _ _ _ hf
  rw [if_neg h1] at hf ⊢
  by_cases h2 : d = [52]
  · rw [if_pos h2] at hf ⊢
    exact map_get Tryz.underlying248 Tryz.underlying9 W r _ _ hW _ _ _ hf
  rw [if_neg h2] at hf ⊢
  by_cases h3 : d = [56]
  · rw [if_pos h3] at hf ⊢
    exact map_get Tryz.underlying248 Tryz.underlying9 W r _ _ hW _ _ _ hf
  rw [if_neg h3] at hf ⊢
  by_cases h4 : d = [49, 54]
  · rw [if_pos h4] at hf ⊢
    exact map_get Tryz.underlying248 Tryz.underlying9 W r _ _ hW _ _ _ hf
  rw [if_neg h4] at hf ⊢
  exact map_miss Tryz.underlying248 Tryz.underlying9 (.int .i64 0) (fun w => by kernel_rfl) W r _ _ hW _ hf

set_option maxRecDepth 100000 in
theorem cut_c (d x : List UInt8) (hd : (114 : UInt8) ∉ d) (hs : d.length + 1 + x.length ≤ 140737488355328) (w : World) :
    Calls Tryz.prog 108 #[.string ⟨(d ++ 114 :: x).toArray⟩, .string ⟨#[114]⟩] w fun e w' => e = .returned (.tuple #[.string ⟨d.toArray⟩, .string ⟨x.toArray⟩, .bool true]) ∧ ∃ n, w' = w.drewN n := by
  have hh := fun W => sliteCut_c d x hd hs W
  generalize (⟨(d ++ 114 :: x).toArray⟩ : ByteArray) = S at *
  have Hh := Lib.hid hh
  clear hh
  go_enter Tryz.func108, Tryz.ntmps108
  go_wp2_with (go_at_call 185; refine (Hh.out _).mono ?_; rintro e w' ⟨rfl, n, rfl⟩)
  go_ret3
  exact ⟨rfl, n, rfl⟩

theorem fdrewN {B : Nat} {w W : World} {n : Nat} (h : Below B (w.drewN n) W) : Below B w W := ⟨h.os, h.tape, h.output, h.size, h.block⟩
theorem hexc_lt (c : UInt8) (h : hexc c = true) : c.toNat < 128 := by
  have key : ∀ k, k < 256 → hexc (UInt8.ofNat k) = true → k < 128 := by decide +kernel
  exact key c.toNat c.toNat_lt (by rw [show UInt8.ofNat c.toNat = c from by simp]; exact h)
theorem mem_digs (n : Nat) : ∀ c ∈ digs.take n, c.toNat < 128 := fun c hc => by
  have : ∀ c ∈ digs, c.toNat < 128 := by decide
  exact this c (List.mem_of_mem_take hc)
theorem lt_of_mem (l : List UInt8) (h : ∀ c ∈ l, c.toNat < 128) : ∀ k, (hk : k < (⟨l.toArray⟩ : ByteArray).size) → (⟨l.toArray⟩ : ByteArray)[k].toNat < 128 := fun k hk => by
  apply h
  show l.toArray[k] ∈ l
  simp

def digB : ByteArray := ⟨#[48, 49, 50, 51, 52, 53, 54, 55, 56, 57, 97, 98, 99, 100, 101, 102, 103, 104, 105, 106, 107, 108, 109, 110, 111, 112, 113, 114, 115, 116, 117, 118, 119, 120, 121, 122]⟩
def inD (n : Nat) (c : UInt8) : Bool := (digs.take n).contains c
theorem cutL (n : Nat) (hn : n = 2 ∨ n = 4 ∨ n = 8 ∨ n = 16) (x : List UInt8) (hx : ∀ c ∈ x, hexc c = true) (w : World) :
    Calls Tryz.prog 264 #[.string ⟨x.toArray⟩, .string (digB.extract 0 n)] w fun e w' => e = .returned (.string ⟨(x.dropWhile (inD n)).toArray⟩) ∧ Below w.heap.size w w' := by
  have he : digB.extract 0 n = ⟨(digs.take n).toArray⟩ := by
    rcases hn with rfl | rfl | rfl | rfl <;> decide
  rw [he]
  have ha : ∀ c ∈ x, c.toNat < 128 := fun c hc => hexc_lt c (hx c hc)
  refine (cutLeft_c _ _ (lt_of_mem _ ha) (lt_of_mem _ (mem_digs n)) w).mono ?_
  rintro e w' ⟨rfl, hb⟩
  refine ⟨?_, hb⟩
  rw [show bs (⟨x.toArray⟩ : ByteArray) = x from by simp [bs], show bs (⟨(digs.take n).toArray⟩ : ByteArray) = digs.take n from by simp [bs]]
  rfl
theorem cutR (n : Nat) (hn : n = 2 ∨ n = 4 ∨ n = 8 ∨ n = 16) (x : List UInt8) (hs : x.length ≤ 140737488355328) (hx : ∀ c ∈ x, hexc c = true) (w : World) :
    Calls Tryz.prog 263 #[.string ⟨x.toArray⟩, .string (digB.extract 0 n)] w fun e w' => e = .returned (.string ⟨(x.reverse.dropWhile (inD n)).reverse.toArray⟩) ∧ Below w.heap.size w w' := by
  have he : digB.extract 0 n = ⟨(digs.take n).toArray⟩ := by
    rcases hn with rfl | rfl | rfl | rfl <;> decide
  rw [he]
  have ha : ∀ c ∈ x, c.toNat < 128 := fun c hc => hexc_lt c (hx c hc)
  refine (cutRight_c _ _ (by rw [size_of]; exact hs) (by rw [show bs (⟨x.toArray⟩ : ByteArray) = x from by simp [bs]]; exact ha) (lt_of_mem _ (mem_digs n)) w).mono ?_
  rintro e w' ⟨rfl, hb⟩
  refine ⟨?_, hb⟩
  rw [show bs (⟨x.toArray⟩ : ByteArray) = x from by simp [bs], show bs (⟨(digs.take n).toArray⟩ : ByteArray) = digs.take n from by simp [bs]]
  rfl
theorem bits_fin (n : Nat) (hn : n = 2 ∨ n = 4 ∨ n = 8 ∨ n = 16) (x : List UInt8) (hx : ∀ c ∈ x, hexc c = true) : (((x.dropWhile (inD n)).reverse.dropWhile (inD n)).reverse).isEmpty = (decide (n ≠ 0) && x.all fun c => decide (Sp.hexval c < n)) := by
  rw [strip_both, show decide (n ≠ 0) = true from by simp; omega, Bool.true_and]
  rw [Bool.eq_iff_iff, List.all_eq_true, List.all_eq_true]
  constructor
  · intro h c hc
    rw [← hex_all n hn c (hx c hc)]
    exact h c hc
  · intro h c hc
    show (digs.take n).contains c = true
    rw [hex_all n hn c (hx c hc)]
    exact h c hc

set_option maxRecDepth 100000 in
set_option maxHeartbeats 2000000 in
theorem rightBits_c (d x : List UInt8) (hd : (114 : UInt8) ∉ d) (hx : ∀ c ∈ x, hexc c = true) (hne : x ≠ []) (hs : d.length + 1 + x.length ≤ 140737488355328) (w : World) :
    Calls Tryz.prog 211 #[.string ⟨(d ++ 114 :: x).toArray⟩] w fun e w' => e = .returned (.bool (Sp.rightBits d x)) ∧ Below w.heap.size w w' := by
  have hh := fun W => cut_c d x hd hs W
  generalize (⟨(d ++ 114 :: x).toArray⟩ : ByteArray) = S at *
  have Hh := Lib.hid hh
  clear hh
  have hlk := fun W r hW => rad_get W r hW d
  have hrb : Sp.rightBits d x = (decide (Sp.radixOf d ≠ 0) && x.all fun c => decide (Sp.hexval c < Sp.radixOf d)) := rfl
  have hcs := radixOf_cases d
  generalize Sp.radixOf d = n at *
  have Hrb := Lib.hid hrb
  clear hrb
  by_cases hn : n = 0
  · have e1 : decide ((0 : Int) < (n : Int)) = false := by simp [hn]
    have e1' : decide (0 < n) = false := by simp [hn]
    have Hn := Lib.hid hn
    clear hn hx hne hcs
    go_enter Tryz.func211, Tryz.ntmps211
    go_wp2_with (first | (go_at_call 108; refine (Hh.out _).mono ?_; rintro e w' ⟨rfl, m, rfl⟩) | (go_at_call 262; refine (radices_c _).mono ?_; rintro e w' ⟨rfl, hm, hb1⟩; have hl := hlk _ w.heap.size hm))
    have hb2 : Below w.heap.size w w' := fdrewN hb1
    clear hb1
    go_quiet (fail)
    go_wp2
    go_ret
    rw [Hrb.out]
    refine ⟨?_, bdrewN hb2 _⟩
    simp [Hn.out]
  · have hp : 0 < n := by omega
    have e1 : decide ((0 : Int) < (n : Int)) = true := by simpa using hp
    have e1' : decide (0 < n) = true := by simpa using hp
    have hle : n ≤ 16 := by omega
    have hcn : n = 2 ∨ n = 4 ∨ n = 8 ∨ n = 16 := by omega
    have g1 : (0 : Int) ≤ (n : Int) := by omega
    have g2 : (n : Int) ≤ 36 := by omega
    have g3 : ((n : Int)).toNat = n := by omega
    have hxe : x.isEmpty = false := by
      cases x with
      | nil => exact absurd rfl hne
      | cons c cs => rfl
    have hL := cutL n hcn x hx
    have hR := cutR n hcn (x.dropWhile (inD n)) (by have := (List.dropWhile_sublist (l := x) (inD n)).length_le; omega) (fun c hc => hx c ((List.dropWhile_sublist _).subset hc))
    have hfin := bits_fin n hcn x hx
    generalize x.dropWhile (inD n) = y at *
    generalize (y.reverse.dropWhile (inD n)).reverse = z at *
    unfold digB at hL hR
    have HL := Lib.hid hL
    have HR := Lib.hid hR
    have Hfin := Lib.hid hfin
    clear hL hR hfin
    have Hxs := Lib.hid hx
    have Hcn := Lib.hid hcn
    have Hle := Lib.hid hle
    have Hp := Lib.hid hp
    have Hne := Lib.hid hne
    have Hs := Lib.hid hs
    clear hn hx hcn hcs hle hp hne hs
    go_enter Tryz.func211, Tryz.ntmps211
    go_wp2_with (first | (go_at_call 108; refine (Hh.out _).mono ?_; rintro e w' ⟨rfl, m, rfl⟩) | (go_at_call 262; refine (radices_c _).mono ?_; rintro e w' ⟨rfl, hm, hb1⟩; have hl := hlk _ w.heap.size hm))
    have hb2 : Below w.heap.size w w' := fdrewN hb1
    clear hlk hm hl hb1
    go_region_held3 (fun _ => True) (trivial) (first | (go_at_call 264; refine (HL.out _).mono ?_; rintro e w' ⟨rfl, hb1⟩) | (go_at_call 263; refine (HR.out _).mono ?_; rintro e w' ⟨rfl, hb3⟩))
    have hB : Below w.heap.size w w' := bjoin (bjoin hb2.drew hb2.drew.size hb1) (bjoin hb2.drew hb2.drew.size hb1).size hb3
    clear hb2 hb1 hb3
    go_wp2
    go_ret
    rw [Hrb.out, ← Hfin.out]
    exact ⟨rfl, hB⟩
end Go.Proofs.YtjghijeblddijaaGreatDoor
