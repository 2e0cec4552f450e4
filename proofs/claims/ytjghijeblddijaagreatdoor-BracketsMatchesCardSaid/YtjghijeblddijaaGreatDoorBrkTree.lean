/- The pure skeleton (chapter 05): what brackets.Skeleton computes, in plain Lean. Facts about the pure skeleton: its groups are nested; what find returns in them. -/
import Derived.Test.YtjghijeblddijaaGreatDoorStropPure
namespace Go.Proofs.YtjghijeblddijaaGreatDoor
namespace Bk
open Sp (Sym)
def BEGIN : List UInt8 := [66, 69, 71, 73, 78]
def END : List UInt8 := [69, 78, 68]
def DO : List UInt8 := [68, 79]
def OD : List UInt8 := [79, 68]
def IF : List UInt8 := [73, 70]
def THEN : List UInt8 := [84, 72, 69, 78]
def ELIF : List UInt8 := [69, 76, 73, 70]
def ELSE : List UInt8 := [69, 76, 83, 69]
def FI : List UInt8 := [70, 73]
def CASE : List UInt8 := [67, 65, 83, 69]
def IN : List UInt8 := [73, 78]
def OUSE : List UInt8 := [79, 85, 83, 69]
def OUT : List UInt8 := [79, 85, 84]
def ESAC : List UInt8 := [69, 83, 65, 67]
def words : List (List UInt8) := [BEGIN, END, DO, OD, IF, THEN, ELIF, ELSE, FI, CASE, IN, OUSE, OUT, ESAC]
def signs : List (List UInt8) := [[91], [93], [40], [41], [124], [124, 58]]
def isBracket (x : Sym) : Bool := x.kind == 1 && words.contains x.text || x.kind == 8 && signs.contains x.text
/-- What an open group is: the whole list, or by its opening bracket. -/
inductive Op | root | beg | sub | dos | ifs | cases | par
  deriving DecidableEq
def opening (t : List UInt8) : Option Op :=
  if t = BEGIN then some .beg else if t = [91] then some .sub else if t = DO then some .dos else if t = IF then some .ifs else if t = CASE then some .cases else if t = [40] then some .par else none
def close : Op → List UInt8
  | .root => [] | .beg => END | .sub => [93] | .dos => OD | .ifs => FI | .cases => ESAC | .par => [41]
/-- What stands before a part, before a further enquiry, before the last part. -/
def chain : Op → Option (List UInt8 × List UInt8 × List UInt8)
  | .ifs => some (THEN, ELIF, ELSE) | .cases => some (IN, OUSE, OUT) | .par => some ([124], [124, 58], [124]) | _ => none
def FIN : List UInt8 := [101, 110, 100]
def after (o : Op) (last : List UInt8) : List (List UInt8) :=
  match chain o with
  | none => []
  | some (t, a, l) => if last = [] then [t] else if last = t then [a, l] else if last = a then [t] else []
def closes (o : Op) : List (List UInt8) :=
  match o with
  | .root => []
  | .beg => [[]] | .sub => [[]] | .dos => [[]]
  | .ifs => [THEN, ELSE] | .cases => [IN, OUT] | .par => [[124], [124], []]
/-- Groups side by side. -/
inductive Fo
  | nil
  | node (a b : Int) (seps : List Int) (kids rest : Fo)
def Fo.snoc : Fo → Int → Int → List Int → Fo → Fo
  | .nil, a, b, s, k => .node a b s k .nil
  | .node a' b' s' k' r, a, b, s, k => .node a' b' s' k' (r.snoc a b s k)
def Fo.len : Fo → Nat
  | .nil => 0
  | .node _ _ _ _ r => r.len + 1
/-- A group that is open. -/
structure Fr where
  op : Op
  a : Int
  seps : List Int
  kids : Fo
  last : List UInt8
/-- What a separator makes of the last one; none if it cannot stand there. -/
def take (f : Fr) (t : List UInt8) : Option (List UInt8) :=
  if f.last = FIN then none else if (after f.op f.last).contains t then some (if f.last = t ∨ t = ELSE ∨ t = OUT then FIN else t) else none
def complete (f : Fr) : Bool := f.last == FIN || (closes f.op).contains f.last
/-- A bracket. -/
def bracket (i : Int) (x : Sym) (top : Fr) (rest : List Fr) : Except (Int × Int) (List Fr) :=
  match opening x.text with
  | some o => if 64 < rest.length + 1 then .error (x.pos, 3) else .ok (⟨o, i, [], .nil, []⟩ :: top :: rest)
  | none =>
    match rest, x.text == close top.op && complete top with
    | f :: rest', true => .ok ({ f with kids := f.kids.snoc top.a i top.seps top.kids } :: rest')
    | _, _ => match take top x.text with
      | some l => .ok ({ top with last := l, seps := top.seps ++ [i] } :: rest)
      | none => .error (x.pos, 9)
def run : Nat → List Sym → List Fr → Except (Int × Int) (List Fr)
  | _, [], st => .ok st
  | i, x :: l, st =>
    if isBracket x = true then
      match st with
      | [] => .ok []
      | top :: rest => match bracket i x top rest with
        | .ok st' => run (i + 1) l st'
        | .error f => .error f
    else run (i + 1) l st
/-- The index of the end, and its place. -/
def ends (l : List Sym) : Nat × Int :=
  match l.findIdx? (fun x => x.kind == 0) with
  | some i => (i, (l.getD i ⟨0, [], 0⟩).pos)
  | none => (l.length, 0)
def start : List Fr := [⟨.root, -1, [], .nil, []⟩]
/-- The skeleton: what the whole list holds: separators (none), groups; or the first fault. -/
def finish (n : Nat) (place : Int) : Except (Int × Int) (List Fr) → Except (Int × Int) Fo
  | .error f => .error f
  | .ok [f] => .ok (.node f.a n f.seps f.kids .nil)
  | .ok _ => .error (place, 16)
def skeleton (l : List Sym) : Except (Int × Int) Fo := finish (ends l).1 (ends l).2 (run 0 (l.take (ends l).1) start)
end Bk
end Go.Proofs.YtjghijeblddijaaGreatDoor
namespace Go.Proofs.YtjghijeblddijaaGreatDoor
namespace Bk
open Sp (Sym)
/-- Groups side by side, nested, strictly between two indices. -/
def WFo : Int → Int → Fo → Prop
  | _, _, .nil => True
  | lo, hi, .node a b _ k r => lo < a ∧ a < b ∧ b < hi ∧ WFo a b k ∧ WFo b hi r
theorem WFo.mono {lo hi hi' : Int} (h : hi ≤ hi') : ∀ {f : Fo}, WFo lo hi f → WFo lo hi' f := by
  intro f
  induction f generalizing lo with
  | nil => intro _; trivial
  | node a b s k r _ ih => intro w; exact ⟨w.1, w.2.1, by have := w.2.2.1; omega, w.2.2.2.1, ih w.2.2.2.2⟩
theorem WFo.snoc {lo a b hi : Int} (s : List Int) {k : Fo} (h0 : lo < a) (h1 : a < b) (h2 : b < hi) (hk : WFo a b k) : ∀ {f : Fo}, WFo lo a f → WFo lo hi (f.snoc a b s k) := by
  intro f
  induction f generalizing lo with
  | nil => intro _; exact ⟨h0, h1, h2, hk, trivial⟩
  | node a' b' s' k' r _ ih => intro w; exact ⟨w.1, w.2.1, by have := w.2.2.1; omega, w.2.2.2.1, ih w.2.2.1 w.2.2.2.2⟩
/-- Open groups: nested, the last one the whole list. -/
def Ok : Int → List Fr → Prop
  | _, [] => True
  | i, f :: rest => f.a < i ∧ WFo f.a i f.kids ∧ (rest = [] → f.a = -1) ∧ Ok f.a rest
theorem bracket_ok (i : Int) (x : Sym) (top : Fr) (rest st : List Fr) (h : Ok i (top :: rest)) (hb : bracket i x top rest = .ok st) : Ok (i + 1) st := by
  obtain ⟨h1, h2, h3, h4⟩ := h
  unfold bracket at hb
  split at hb
  · split at hb
    · cases hb
    · injection hb with hb
      subst hb
      exact ⟨by dsimp only; omega, trivial, fun h => (by cases h), h1, h2, h3, h4⟩
  · split at hb
    · rename_i f rest' _
      injection hb with hb
      subst hb
      obtain ⟨g1, g2, g3, g4⟩ := h4
      exact ⟨by dsimp only; omega, WFo.snoc _ g1 h1 (by omega) h2 g2, g3, g4⟩
    · split at hb
      · injection hb with hb
        subst hb
        exact ⟨by dsimp only; omega, h2.mono (by omega), h3, h4⟩
      · cases hb
theorem Ok.mono {i : Int} {st : List Fr} (h : Ok i st) : Ok (i + 1) st := by
  cases st with
  | nil => trivial
  | cons f r => exact ⟨by have := h.1; omega, h.2.1.mono (by omega), h.2.2.1, h.2.2.2⟩
theorem bracket_ne (i : Int) (x : Sym) (top : Fr) (rest st : List Fr) (hb : bracket i x top rest = .ok st) : st ≠ [] := by
  unfold bracket at hb
  split at hb
  · split at hb
    · cases hb
    · injection hb with hb; subst hb; simp
  · split at hb
    · injection hb with hb; subst hb; simp
    · split at hb
      · injection hb with hb; subst hb; simp
      · cases hb
theorem run_ok : ∀ (l : List Sym) (i : Nat) (st st' : List Fr), st ≠ [] → Ok (i : Int) st → run i l st = .ok st' → st' ≠ [] ∧ Ok ((i + l.length : Nat) : Int) st' := by
  intro l
  induction l with
  | nil =>
    intro i st st' hne h hr
    rw [run.eq_def] at hr
    injection hr with hr
    subst hr
    exact ⟨hne, h⟩
  | cons x t ih =>
    intro i st st' hne h hr
    rw [run.eq_def] at hr
    dsimp only at hr
    have e : (((i + 1) + t.length : Nat) : Int) = ((i + (x :: t).length : Nat) : Int) := by rw [List.length_cons]; congr 1; omega
    split at hr
    · cases st with
      | nil => exact absurd rfl hne
      | cons top rest =>
        dsimp only at hr
        cases hb : bracket i x top rest with
        | error f => rw [hb] at hr; cases hr
        | ok st1 =>
          rw [hb] at hr
          have := ih (i + 1) st1 st' (bracket_ne _ _ _ _ _ hb) (bracket_ok _ _ _ _ _ h hb) hr
          rw [e] at this; exact this
    · have := ih (i + 1) st st' hne h.mono hr
      rw [e] at this; exact this
/-- The index that belongs to another one. -/
def find : Fo → Int → Int
  | .nil, i => i
  | .node a b _ k r, i => if i = a then b else if i = b then a else if a < i ∧ i < b then find k i else find r i
theorem find_left {lo hi i : Int} (h : i ≤ lo) : ∀ {f : Fo}, WFo lo hi f → find f i = i := by
  intro f
  induction f generalizing lo with
  | nil => intro _; rfl
  | node a b s k r _ ih =>
    intro ⟨w1, w2, w3, w4, w5⟩
    rw [find, if_neg (by omega), if_neg (by omega), if_neg (by omega)]
    exact ih (by omega) w5
theorem find_in {lo hi i : Int} (h0 : lo < i) (h1 : i < hi) : ∀ {f : Fo}, WFo lo hi f → lo < find f i ∧ find f i < hi := by
  intro f
  induction f generalizing lo hi with
  | nil => intro _; exact ⟨h0, h1⟩
  | node a b s k r ihk ihr =>
    intro ⟨w1, w2, w3, w4, w5⟩
    by_cases c1 : i = a
    · rw [find, if_pos c1]; omega
    by_cases c2 : i = b
    · rw [find, if_neg c1, if_pos c2]; omega
    by_cases c3 : a < i ∧ i < b
    · rw [find, if_neg c1, if_neg c2, if_pos c3]
      have := ihk c3.1 c3.2 w4
      omega
    rw [find, if_neg c1, if_neg c2, if_neg c3]
    by_cases c4 : b < i
    · have := ihr c4 h1 w5
      omega
    · rw [find_left (by omega) w5]; exact ⟨h0, h1⟩
/-- What find returns at a group's head. -/
theorem find_cases {lo hi a b : Int} {s : List Int} {k r : Fo} (w : WFo lo hi (.node a b s k r)) (i : Int) (h1 : i < hi) :
    (i < a ∧ find (.node a b s k r) i = i) ∨ (i = a ∧ find (.node a b s k r) i = b) ∨ (a < i ∧ i < b ∧ find (.node a b s k r) i = find k i ∧ a < find k i ∧ find k i < b) ∨ (i = b ∧ find (.node a b s k r) i = a) ∨ (b < i ∧ find (.node a b s k r) i = find r i ∧ b < find r i ∧ find r i < hi) := by
  obtain ⟨w1, w2, w3, w4, w5⟩ := w
  by_cases c1 : i = a
  · right; left; exact ⟨c1, by rw [find, if_pos c1]⟩
  by_cases c2 : i = b
  · right; right; right; left; exact ⟨c2, by rw [find, if_neg c1, if_pos c2]⟩
  by_cases c3 : a < i ∧ i < b
  · right; right; left
    exact ⟨c3.1, c3.2, by rw [find, if_neg c1, if_neg c2, if_pos c3], find_in c3.1 c3.2 w4⟩
  by_cases c4 : b < i
  · right; right; right; right
    exact ⟨c4, by rw [find, if_neg c1, if_neg c2, if_neg c3], find_in c4 h1 w5⟩
  · left
    exact ⟨by omega, by rw [find, if_neg c1, if_neg c2, if_neg c3, find_left (by omega) w5]⟩
theorem find_find {lo hi : Int} : ∀ {f : Fo}, WFo lo hi f → ∀ i, lo < i → i < hi → find f (find f i) = i := by
  intro f
  induction f generalizing lo hi with
  | nil => intro _ i _ _; rfl
  | node a b s k r ihk ihr =>
    intro w i h0 h1
    have w4 := w.2.2.2.1
    have w5 := w.2.2.2.2
    have w2 := w.2.1
    rcases find_cases w i h1 with ⟨c, e⟩ | ⟨c, e⟩ | ⟨c, c', e, g1, g2⟩ | ⟨c, e⟩ | ⟨c, e, g1, g2⟩
    · rw [e, e]
    · rw [e, find, if_neg (by omega), if_pos rfl, c]
    · rw [e, find, if_neg (by omega), if_neg (by omega), if_pos ⟨g1, g2⟩]
      exact ihk w4 i c c'
    · rw [e, find, if_pos rfl, c]
    · rw [e, find, if_neg (by omega), if_neg (by omega), if_neg (by omega)]
      exact ihr w5 i c h1
theorem find_nest {lo hi : Int} : ∀ {f : Fo}, WFo lo hi f → ∀ i k, lo < i → i < hi → lo < k → k < hi → i < find f i → k ≠ i → k ≠ find f i → ((i < k ∧ k < find f i) ↔ (i < find f k ∧ find f k < find f i)) := by
  intro f
  induction f generalizing lo hi with
  | nil => intro _ i k _ _ _ _ h _ _; exact absurd h (Int.lt_irrefl _)
  | node a b s q r ihk ihr =>
    intro w i k h0 h1 k0 k1 hm hki hkm
    have w4 := w.2.2.2.1
    have w5 := w.2.2.2.2
    have w2 := w.2.1
    rcases find_cases w i h1 with ⟨c, e⟩ | ⟨c, e⟩ | ⟨c, c', e, g1, g2⟩ | ⟨c, e⟩ | ⟨c, e, g1, g2⟩
    · omega
    · rcases find_cases w k k1 with ⟨d, f⟩ | ⟨d, f⟩ | ⟨d, d', f, f1, f2⟩ | ⟨d, f⟩ | ⟨d, f, f1, f2⟩ <;> omega
    · rcases find_cases w k k1 with ⟨d, f⟩ | ⟨d, f⟩ | ⟨d, d', f, f1, f2⟩ | ⟨d, f⟩ | ⟨d, f, f1, f2⟩
      · omega
      · omega
      · rw [e, f]; rw [e] at hm hkm
        exact ihk w4 i k c c' d d' hm hki hkm
      · omega
      · omega
    · omega
    · rcases find_cases w k k1 with ⟨d, f⟩ | ⟨d, f⟩ | ⟨d, d', f, f1, f2⟩ | ⟨d, f⟩ | ⟨d, f, f1, f2⟩
      · omega
      · omega
      · omega
      · omega
      · rw [e, f]; rw [e] at hm hkm
        exact ihr w5 i k c h1 d k1 hm hki hkm
/-- What is known of a skeleton. -/
theorem skeleton_ok (l : List Sym) (t : Fo) (h : skeleton l = .ok t) : ∃ s k, t = .node (-1) ((ends l).1 : Int) s k .nil ∧ WFo (-1) ((ends l).1 : Int) k := by
  unfold skeleton at h
  cases hr : run 0 (l.take (ends l).1) start with
  | error f => rw [hr] at h; cases h
  | ok st =>
    rw [hr] at h
    have hst : Ok ((0 : Nat) : Int) start := ⟨by decide, trivial, fun _ => rfl, trivial⟩
    have hle : (ends l).1 ≤ l.length := by
      unfold ends
      split
      · rename_i i hi
        rw [List.findIdx?_eq_some_iff_getElem] at hi
        exact Nat.le_of_lt hi.1
      · exact Nat.le_refl _
    obtain ⟨_, hok⟩ := run_ok _ 0 _ _ (by simp [start]) hst hr
    rw [Nat.zero_add, List.length_take, Nat.min_eq_left hle] at hok
    match st, h, hok with
    | [f], h, hok =>
      injection h with h
      have ha := hok.2.2.1 rfl
      rw [ha] at h
      have hw := hok.2.1
      rw [ha] at hw
      exact ⟨_, _, h.symm, hw⟩
end Bk
end Go.Proofs.YtjghijeblddijaaGreatDoor
