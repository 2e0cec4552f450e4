/- The pure writer: what formed, Check, written, joins, Text compute. -/
import Derived.Test.YtjghijeblddijaaGreatDoorStropFactsC
import Derived.Lib.Replace
import Derived.Lib.SplitLaws
import Derived.Lib.IndexAny
namespace Go.Proofs.YtjghijeblddijaaGreatDoor
namespace Sp
/-- Each quote twice. -/
def dq (l : List UInt8) : List UInt8 := l.flatMap fun b => if b = 34 then [34, 34] else [b]
def asText (kind : Int) (s : List UInt8) : List UInt8 := if kind = 6 then 34 :: dq s ++ [34] else if kind = 7 then 36 :: s ++ [36] else s
def lone (kind : Int) (s : List UInt8) : Except (Int × Int) (List Sym) → Bool
  | .ok [x, _] => x.kind == kind && x.text == s
  | _ => false
def formed (kind : Int) (s : List UInt8) : Bool :=
  if (s.any blank && kind != 6 && kind != 7) = true then false else lone kind s (symbols (asText kind s) 0)
def check (x : Sym) : Int :=
  if x.kind < 0 ∨ 8 < x.kind then 13
  else if x.kind = 0 then (if x.text = [] then 0 else 2)
  else if formed x.kind x.text = true then 0 else 2
def written (x : Sym) (r : Nat) : List UInt8 :=
  if x.kind = 1 then (if r = 0 then x.text else if r = 1 then 46 :: x.text.map low else 39 :: x.text.map low ++ [39])
  else asText x.kind x.text
def joins (x : Sym) : Bool := x.kind == 2 || x.kind == 3 || x.kind == 4 || x.kind == 5

theorem rk (c : UInt8) (new l : List UInt8) : Lib.replaceK [c] new (l.count c) l = l.flatMap fun b => if b = c then new else [b] := by
  induction l with
  | nil => rfl
  | cons b l ih =>
    by_cases h : b = c
    · subst h
      have hi : Lib.index (b :: l) [b] = ((0 : Nat) : Int) := by simp [Lib.index]
      rw [List.count_cons_self, Lib.replaceK_hit _ _ _ _ 0 hi]
      simp [ih]
    · rw [List.count_cons_of_ne h]
      have e : (b :: l).flatMap (fun b => if b = c then new else [b]) = b :: l.flatMap (fun b => if b = c then new else [b]) := by simp [h]
      rw [e, ← ih]
      cases hk : l.count c with
      | zero => rfl
      | succ k =>
        obtain ⟨i, hi⟩ := Lib.index_of_count (s := l) (old := [c]) (by rw [Lib.count_one]; omega)
        have hi2 : Lib.index (b :: l) [c] = ((i + 1 : Nat) : Int) := by
          have hne : ¬ ((i : Int) = -1) := by omega
          have hbc : ¬ c = b := fun h' => h h'.symm
          simp [Lib.index, hi, hne, hbc]
        rw [Lib.replaceK_hit _ _ _ _ _ hi2, Lib.replaceK_hit _ _ _ _ _ hi]
        simp
theorem replaceAll_dq (l : List UInt8) : Lib.replaceAll l [34] [34, 34] = dq l := by
  have e : ([34] : List UInt8) == [34, 34] ↔ False := by decide
  unfold Lib.replaceAll Lib.replace
  rw [if_neg (by decide)]
  have hn : Lib.replaceNum l [34] (-1) = l.count 34 := by
    unfold Lib.replaceNum
    rw [if_pos (.inl (by decide)), Lib.count_one]
  rw [hn, rk]
  rfl
theorem containsAny_blank (l : List UInt8) : Lib.containsAny l [32, 9, 10] = l.any blank := by
  unfold Lib.containsAny
  induction l with
  | nil => rfl
  | cons b l ih =>
    have hge := Lib.indexAny_ge [32, 9, 10] l
    rw [List.any_cons]
    unfold Lib.indexAny
    rw [blank_mem]
    cases hb : blank b with
    | true => simp
    | false =>
      rw [Bool.false_or, ← ih]
      by_cases h : Lib.indexAny l [32, 9, 10] = -1
      · simp [h]
      · have h1 : 0 ≤ Lib.indexAny l [32, 9, 10] := by omega
        have h2 : (Lib.indexAny l [32, 9, 10] == -1) = false := by simpa using h
        rw [if_neg (by decide), h2, if_neg (by decide), decide_eq_true h1, decide_eq_true (by omega)]
theorem dq_len (l : List UInt8) : (dq l).length ≤ 2 * l.length := by
  unfold dq
  induction l with
  | nil => simp
  | cons b l ih =>
    rw [List.flatMap_cons, List.length_append, List.length_cons]
    split <;> simp only [List.length_cons, List.length_nil] <;> omega
end Sp
end Go.Proofs.YtjghijeblddijaaGreatDoor
