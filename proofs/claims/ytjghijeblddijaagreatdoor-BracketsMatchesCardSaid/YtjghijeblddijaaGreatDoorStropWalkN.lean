/- Walks: rightBits. -/
import Derived.Test.YtjghijeblddijaaGreatDoorStropWalkM
import Derived.Test.YtjghijeblddijaaGreatDoorShelf
import Derived.Test.YtjghijeblddijaaGreatDoorStropWalkL
namespace Go.Proofs.YtjghijeblddijaaGreatDoor
open Go.RowKit

theorem indexByte_at (d x : List UInt8) (c : UInt8) (h : c ∉ d) : Lib.indexByte (d ++ c :: x) c = d.length := by
  induction d with
  | nil => simp [Lib.indexByte]
  | cons y t ih =>
    have h1 : y ≠ c := fun e => h (by simp [e])
    have h2 := ih (fun e => h (by simp [e]))
    simp only [List.cons_append, Lib.indexByte, h2]
    rw [if_neg (by simpa using h1), if_neg (by rw [beq_iff_eq]; omega)]
    simp

set_option maxRecDepth 100000 in
theorem sliteCut_c (d x : List UInt8) (hd : (114 : UInt8) ∉ d) (hs : d.length + 1 + x.length ≤ 140737488355328) (w : World) :
    Calls Tryz.prog 185 #[.string ⟨(d ++ 114 :: x).toArray⟩, .string ⟨#[114]⟩] w fun e w' => e = .returned (.tuple #[.string ⟨d.toArray⟩, .string ⟨x.toArray⟩, .bool true]) ∧ ∃ n, w' = w.drewN n := by
  have hi := Tryz.stringslite_Index_one ⟨(d ++ 114 :: x).toArray⟩ 114 w
  have he : Lib.indexByte (⟨(d ++ 114 :: x).toArray⟩ : ByteArray).data.toList 114 = d.length := indexByte_at d x 114 hd
  rw [he] at hi
  have hsz : (⟨(d ++ 114 :: x).toArray⟩ : ByteArray).size = d.length + 1 + x.length := by rw [size_of]; simp; omega
  generalize hS : (⟨(d ++ 114 :: x).toArray⟩ : ByteArray) = S at *
  have Hsz := Lib.hid hsz
  have Hi := Lib.hid hi
  have x1 : (0 : Int) ≤ (d.length : Int) := by omega
  have x2 : (d.length : Int) ≤ (S.size : Int) := by omega
  have x3 : (d.length : Int) + 1 ≤ (S.size : Int) := by omega
  have x4 : (0 : Int) ≤ (d.length : Int) + 1 := by omega
  have x5 : IntKind.i64.wrap ((d.length : Int) + 1) = (d.length : Int) + 1 := IntWalk.i64_in _ (by omega)
  have e1 : S.extract 0 d.length = ⟨d.toArray⟩ := by rw [extract_eq, ← hS, bs_of]; simp
  have e2 : S.extract (d.length + 1) S.size = ⟨x.toArray⟩ := by rw [extract_eq, hsz, ← hS, bs_of]; simp [List.drop_append, List.take_of_length_le]
  have E1 := Lib.hid e1
  have E2 := Lib.hid e2
  clear hsz hi he hS e1 e2
  go_enter Tryz.func185, Tryz.ntmps185
  go_wp2_with (go_at_call 163; refine Hi.out.mono ?_; rintro e w' ⟨rfl, rfl⟩)
  go_quiet (fail)
  go_wp2
  go_ret3
  refine ⟨?_, nq, rfl⟩
  rw [← E1.out, ← E2.out]; rfl

/-! A map with strings as keys, told entry by entry. -/
section
variable {P : Program} {T K E : TypeId}
theorem checkKey_str (hK : P.underlying K = some .string) (b : Bool) (s : ByteArray) (W : World) : (Instr.checkKey b 10000 K (.string s)).run P W = .ok () W := by
  rw [show (10000 : Nat) = 9999 + 1 from rfl, Instr.checkKey]
  simp [run_underlying hK]
theorem map_put (hT : P.underlying T = some (.map K E)) (hK : P.underlying K = some .string) (W : World) (r : Nat) (es : Array MapEntry) (clock : Nat) (hW : W.heap[r]? = some (.map es clock)) (key : ByteArray) (v : Value)
    (hf : Instr.findNow .string (.string key) es.toList 0 = some none) :
    ∃ W1, (Instr.mapUpdate T (.map (some r)) (.string key) v).run P W = .ok () W1 ∧ W1.heap[r]? = some (.map (es.push ⟨.string key, v, clock⟩) (clock + 1)) ∧ Below r W W1 ∧ W.heap.size ≤ W1.heap.size := by
  have hr : r < W.heap.size := (Array.getElem?_eq_some_iff.1 hW).1
  refine ⟨{ W with heap := W.heap.setIfInBounds r (.map (es.push ⟨.string key, v, clock⟩) (clock + 1)) }, ?_, ?_, ⟨rfl, rfl, rfl, by simp, fun k hk => ?_⟩, by simp⟩
  · simp [Instr.mapUpdate, run_underlying hT, run_underlying hK, getObj, Sem.run, hW, checkKey_str hK, Instr.findKey, hf, setObj]
  · simp [hr]
  · simp [Array.getElem?_setIfInBounds]; omega
theorem map_get (hT : P.underlying T = some (.map K E)) (hK : P.underlying K = some .string) (W : World) (r : Nat) (es : Array MapEntry) (clock : Nat) (hW : W.heap[r]? = some (.map es clock)) (key : ByteArray) (i : Nat) (v : Value)
    (hf : Instr.findNow .string (.string key) es.toList 0 = some (some (i, v))) : (Instr.lookup T (.map (some r)) (.string key) false).run P W = .ok v W := by
  simp [Instr.lookup, run_underlying hT, run_underlying hK, getObj, Sem.run, hW, checkKey_str hK, Instr.findKey, hf]
theorem map_miss (hT : P.underlying T = some (.map K E)) (hK : P.underlying K = some .string) (z : Value) (hz : ∀ w, (zeroValue E).run P w = .ok z w) (W : World) (r : Nat) (es : Array MapEntry) (clock : Nat) (hW : W.heap[r]? = some (.map es clock)) (key : ByteArray)
    (hf : Instr.findNow .string (.string key) es.toList 0 = some none) : (Instr.lookup T (.map (some r)) (.string key) false).run P W = .ok z W := by
  simp [Instr.lookup, run_underlying hT, run_underlying hK, getObj, Sem.run, hW, checkKey_str hK, Instr.findKey, hf, hz]
end

def radEs : Array MapEntry := #[⟨.string ⟨#[50]⟩, .int .i64 2, 0⟩, ⟨.string ⟨#[52]⟩, .int .i64 4, 1⟩, ⟨.string ⟨#[56]⟩, .int .i64 8, 2⟩, ⟨.string ⟨#[49, 54]⟩, .int .i64 16, 3⟩]
set_option maxRecDepth 100000 in
theorem radices_c (w : World) : Calls Tryz.prog 262 #[] w fun e w' => e = .returned (.map (some w.heap.size)) ∧ w'.heap[w.heap.size]? = some (.map radEs 4) ∧ Below w.heap.size w w' := by
  have hmm := @run_makeMap Tryz.prog
  have hW0 : (w.alloc (.map #[] 0)).heap[w.heap.size]? = some (.map #[] 0) := heap_alloc_new w _
  have hB0 : Below w.heap.size w (w.alloc (.map #[] 0)) := below_alloc0 (Below.refl _ w) _
  obtain ⟨W1, r1, h1, b1, _⟩ := map_put Tryz.underlying248 Tryz.underlying9 _ w.heap.size _ _ hW0 ⟨#[50]⟩ (.int .i64 2) rfl
  obtain ⟨W2, r2, h2, b2, _⟩ := map_put Tryz.underlying248 Tryz.underlying9 _ w.heap.size _ _ h1 ⟨#[52]⟩ (.int .i64 4) (by kernel_rfl)
  obtain ⟨W3, r3, h3, b3, _⟩ := map_put Tryz.underlying248 Tryz.underlying9 _ w.heap.size _ _ h2 ⟨#[56]⟩ (.int .i64 8) (by kernel_rfl)
  obtain ⟨W4, r4, h4, b4, _⟩ := map_put Tryz.underlying248 Tryz.underlying9 _ w.heap.size _ _ h3 ⟨#[49, 54]⟩ (.int .i64 16) (by kernel_rfl)
  clear h1 h2 h3 hW0
  go_enter Tryz.func262, Tryz.ntmps262
  go_wp2
  go_ret
  exact ⟨rfl, h4, (((hB0.trans b1).trans b2).trans b3).trans b4⟩
end Go.Proofs.YtjghijeblddijaaGreatDoor
