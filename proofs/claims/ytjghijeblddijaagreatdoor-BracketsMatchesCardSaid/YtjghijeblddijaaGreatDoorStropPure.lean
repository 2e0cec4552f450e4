/- The scanner of package strop as plain functions on lists of bytes: no Go, no memory. -/
import Derived.KernelRfl
namespace Go.Proofs.YtjghijeblddijaaGreatDoor
namespace Sp

/-- A symbol: kind, text, place. -/
structure Sym where
  kind : Int
  text : List UInt8
  pos : Int
deriving DecidableEq, Repr

def small (c : UInt8) : Bool := 97 ≤ c && c ≤ 122
def capital (c : UInt8) : Bool := 65 ≤ c && c ≤ 90
def digit (c : UInt8) : Bool := 48 ≤ c && c ≤ 57
def blank (c : UInt8) : Bool := c == 32 || c == 9 || c == 10
def permitted (c : UInt8) : Bool := blank c || 32 ≤ c && c ≤ 126
def low (c : UInt8) : UInt8 := if capital c then c + 32 else c
def up (c : UInt8) : UInt8 := if small c then c - 32 else c
def alnum (c : UInt8) : Bool := small c || capital c || digit c
def letter (r : Nat) (c : UInt8) : Bool := small c || (r != 0 && capital c)

/-- The number of leading blanks. -/
def bl : List UInt8 → Nat
  | [] => 0
  | c :: t => if blank c then bl t + 1 else 0
/-- The number of leading bytes that a test takes. -/
def run (p : UInt8 → Bool) : List UInt8 → Nat
  | [] => 0
  | c :: t => if p c then run p t + 1 else 0

def mark (r : Nat) : UInt8 := if r == 2 then 39 else 46

/-- A bold word at the head: its text in capitals, and how many bytes it takes. -/
def bold (r : Nat) (l : List UInt8) : Option (List UInt8 × Nat) :=
  match l with
  | [] => none
  | c :: t =>
    if r == 0 then
      if capital c then some (l.take (run (fun c => capital c || digit c) l), run (fun c => capital c || digit c) l) else none
    else if c == mark r && small (low (t.getD 0 0)) then
      let n := run alnum t
      let w := (t.take n).map up
      if r == 2 then (if t.getD n 0 == mark r then some (w, n + 2) else none)
      else some (w, n + 1)
    else none

/-- Bytes with blanks between them: the bytes as small letters, and how many bytes they take. 'k' blanks stand open. -/
def spreadGo (p : UInt8 → Bool) : List UInt8 → Nat → List UInt8 × Nat
  | [], _ => ([], 0)
  | c :: t, k =>
    if blank c then spreadGo p t (k + 1)
    else if p c then (low c :: (spreadGo p t 0).1, k + 1 + (spreadGo p t 0).2)
    else ([], 0)
def spread (p : UInt8 → Bool) (l : List UInt8) : List UInt8 × Nat :=
  match l with
  | [] => ([], 0)
  | c :: t => if p c then (low c :: (spreadGo p t 0).1, 1 + (spreadGo p t 0).2) else ([], 0)

/-- How many letters and digits. -/
def count (l : List UInt8) : Nat := (l.filter fun c => digit c || small (low c)).length

/-- What a step of the scanner comes to: a symbol, a comment (with the regime behind it), or a fault (offset, code). -/
inductive Step where
  | sym (kind : Int) (text : List UInt8) (n : Nat)
  | skip (n r : Nat)
  | fault (off : Nat) (code : Int)
deriving DecidableEq, Repr

def tag (r : Nat) (l : List UInt8) : Step :=
  let x := spread (fun c => letter r c || digit c) l
  if 40 < count x.1 then .fault 0 3 else .sym 2 x.1 x.2

/-- A point and digits, blanks before it; [] if there are none. -/
def fraction (l : List UInt8) : List UInt8 × Nat :=
  let k := bl l
  let m := l.drop k
  if m.getD 0 0 == 46 && digit (m.getD 1 0) then
    let x := spread digit (m.drop 1)
    (46 :: x.1, k + 1 + x.2)
  else ([], 0)

def exponent (r : Nat) (l : List UInt8) : List UInt8 × Nat :=
  let k := bl l
  let c := (l.drop k).getD 0 0
  if letter r c && low c == 101 then
    let m := l.drop (k + 1)
    let k2 := bl m
    let g := (m.drop k2).getD 0 0
    if g == 43 || g == 45 then
      let m2 := m.drop (k2 + 1)
      let x := spread digit (m2.drop (bl m2))
      if x.1 = [] then ([], 0) else (101 :: g :: x.1, k + 1 + k2 + 1 + bl m2 + x.2)
    else
      let x := spread digit (m.drop k2)
      if x.1 = [] then ([], 0) else (101 :: x.1, k + 1 + k2 + x.2)
  else ([], 0)

def hexish (r : Nat) (c : UInt8) : Bool := digit c || (letter r c && decide (low c ≤ 102))
def radix (r : Nat) (l : List UInt8) : List UInt8 × Nat :=
  let k := bl l
  let c := (l.drop k).getD 0 0
  if letter r c && low c == 114 then
    let m := l.drop (k + 1)
    let x := spread (hexish r) (m.drop (bl m))
    if x.1 = [] then ([], 0) else (114 :: x.1, k + 1 + bl m + x.2)
  else ([], 0)

def radixOf (l : List UInt8) : Nat :=
  if l = [50] then 2 else if l = [52] then 4 else if l = [56] then 8 else if l = [49, 54] then 16 else 0
/-- The value of a digit of a radix. -/
def hexval (c : UInt8) : Nat := if digit c then (c - 48).toNat else (c - 97).toNat + 10
/-- 'd' the radix, 'x' its digits. -/
def rightBits (d x : List UInt8) : Bool := decide (radixOf d ≠ 0) && x.all fun c => decide (hexval c < radixOf d)

def number (r : Nat) (l : List UInt8) : Step :=
  let d := spread digit l
  let rest := l.drop d.2
  let x := radix r rest
  if d.1 ≠ [] ∧ x.1 ≠ [] then
    if 100 < count (d.1 ++ x.1) then .fault 0 3
    else if rightBits d.1 (x.1.drop 1) then .sym 5 (d.1 ++ x.1) (d.2 + x.2)
    else .fault 0 11
  else
    let f := fraction rest
    let n1 := d.2 + f.2
    let e := exponent r (l.drop n1)
    let text := d.1 ++ f.1 ++ e.1
    if 100 < count text then .fault 0 3
    else .sym (if f.1 = [] ∧ e.1 = [] then 3 else 4) text (n1 + e.2)

/-- The rest of a string: its characters, and how many bytes up to behind its end; or a fault. 'i' is the offset. -/
def quotedGo : List UInt8 → Nat → Except (Nat × Int) (List UInt8 × Nat)
  | [], _ => .error (0, 16)
  | c :: t, i =>
    if !permitted c then .error (i, 2)
    else if c == 9 || c == 10 then .error (i, 9)
    else if c == 34 then
      match t with
      | 34 :: t' =>
        match quotedGo t' (i + 2) with
        | .ok (b, n) => .ok (34 :: b, n)
        | .error f => .error f
      | _ => .ok ([], i + 1)
    else
      match quotedGo t (i + 1) with
      | .ok (b, n) => .ok (c :: b, n)
      | .error f => .error f
def quoted (l : List UInt8) : Step :=
  match quotedGo (l.drop 1) 1 with
  | .ok (b, n) => .sym 6 b n
  | .error (o, c) => .fault o c

def formatGo : List UInt8 → Nat → Bool → Except (Nat × Int) (List UInt8 × Nat)
  | [], _, _ => .error (0, 16)
  | c :: t, i, q =>
    if !permitted c then .error (i, 2)
    else if c == 9 || c == 10 then .error (i, 9)
    else if c == 36 && !q then .ok ([], i + 1)
    else
      match formatGo t (i + 1) (if c == 34 then !q else q) with
      | .ok (b, n) => .ok (c :: b, n)
      | .error f => .error f
def format (l : List UInt8) : Step :=
  match formatGo (l.drop 1) 1 false with
  | .ok (b, n) => .sym 7 b n
  | .error (o, c) => .fault o c

def commentGo : List UInt8 → Nat → Except (Nat × Int) Nat
  | [], _ => .error (0, 16)
  | c :: t, i => if !permitted c then .error (i, 2) else if c == 35 then .ok (i + 1) else commentGo t (i + 1)
def comment (r : Nat) (l : List UInt8) : Step :=
  match commentGo (l.drop 1) 1 with
  | .ok n => .skip n r
  | .error (o, c) => .fault o c

/-- What stands up to a word, and how many bytes up to behind it. 's' bytes of a bold word are passed by; 'g': a small letter or a digit stands before (and this is not the first place). -/
def untilGo (r : Nat) (word : List UInt8) : List UInt8 → Nat → Nat → Bool → Except (Nat × Int) (List UInt8 × Nat)
  | [], _, _, _ => .error (0, 16)
  | c :: t, i, s + 1, _ =>
    match untilGo r word t (i + 1) s (small c || digit c) with
    | .ok (b, n) => .ok (c :: b, n)
    | .error f => .error f
  | c :: t, i, 0, g =>
    if !permitted c then .error (i, 2)
    else
      match bold r (c :: t) with
      | some (w, n) =>
        if !(r == 0 && g) && w = word then .ok ([], i + n)
        else
          match untilGo r word t (i + 1) (n - 1) (small c || digit c) with
          | .ok (b, n) => .ok (c :: b, n)
          | .error f => .error f
      | none =>
        match untilGo r word t (i + 1) 0 (small c || digit c) with
        | .ok (b, n) => .ok (c :: b, n)
        | .error f => .error f

def CO : List UInt8 := [67, 79]
def COMMENT : List UInt8 := [67, 79, 77, 77, 69, 78, 84]
def PR : List UInt8 := [80, 82]
def PRAGMAT : List UInt8 := [80, 82, 65, 71, 77, 65, 84]
def UPPER : List UInt8 := [117, 112, 112, 101, 114]
def POINT : List UInt8 := [112, 111, 105, 110, 116]
def QUOTE : List UInt8 := [113, 117, 111, 116, 101]

/-- A text without the blanks around it. -/
def trim (l : List UInt8) : List UInt8 := (l.reverse.dropWhile blank).reverse.dropWhile blank
def regimeOf (r : Nat) (l : List UInt8) : Nat :=
  let w := (trim l).map low
  if w = UPPER then 0 else if w = POINT then 1 else if w = QUOTE then 2 else r

def word (r : Nat) (w : List UInt8) (n : Nat) (l : List UInt8) : Step :=
  if w = CO ∨ w = COMMENT then
    match untilGo r w (l.drop n) n 0 false with
    | .ok (_, m) => .skip m r
    | .error (o, c) => .fault o c
  else if w = PR ∨ w = PRAGMAT then
    match untilGo r w (l.drop n) n 0 false with
    | .ok (b, m) => .skip m (regimeOf r b)
    | .error (o, c) => .fault o c
  else if 40 < count w then .fault 0 3
  else .sym 1 w n

/-- The signs, longer ones first. -/
def signs : List (List UInt8) := [[37, 42, 58, 61], [58, 47, 61, 58], [43, 58, 61], [45, 58, 61], [42, 58, 61], [47, 58, 61], [37, 58, 61], [43, 61, 58], [58, 61, 58], [124, 58], [58, 61], [47, 61], [60, 61], [62, 61], [42, 42], [47, 47], [37, 42], [43, 42], [40], [41], [91], [93], [44], [59], [58], [64], [124], [61], [60], [62], [43], [45], [42], [47], [37], [94], [38], [126]]
def sign (l : List UInt8) : Step :=
  match signs.find? (fun s => s.isPrefixOf l) with
  | some s => .sym 8 s s.length
  | none => .fault 0 9

/-- A symbol, or a comment, at the head of what is left (not empty, no blank at its head). -/
def symbol (r : Nat) (l : List UInt8) : Step :=
  let c := l.getD 0 0
  if !permitted c then .fault 0 2
  else match bold r l with
    | some (w, n) => word r w n l
    | none =>
      if letter r c then tag r l
      else if digit c || (c == 46 && digit (l.getD 1 0)) then number r l
      else if c == 34 then quoted l
      else if c == 36 then format l
      else if c == 35 then comment r l
      else sign l

/-- The symbols of what is left, which begins at 'pos'. -/
def scan : Nat → Nat → List UInt8 → Nat → Except (Int × Int) (List Sym)
  | 0, _, _, _ => .error (0, 0)
  | fuel + 1, r, l, pos =>
    let k := bl l
    let m := l.drop k
    if m = [] then .ok []
    else match symbol r m with
      | .sym kind text n =>
        match scan fuel r (m.drop n) (pos + k + n) with
        | .ok s => .ok (⟨kind, text, ((pos + k : Nat) : Int)⟩ :: s)
        | .error f => .error f
      | .skip n r' => scan fuel r' (m.drop n) (pos + k + n)
      | .fault o c => .error (((pos + k + o : Nat) : Int), c)

def symbols (s : List UInt8) (regime : Int) : Except (Int × Int) (List Sym) :=
  if regime < 0 ∨ 2 < regime then .error (0, 1)
  else if 65536 < s.length then .error (0, 3)
  else match scan (s.length + 1) regime.toNat s 0 with
    | .ok l => .ok (l ++ [⟨0, [], (s.length : Int)⟩])
    | .error f => .error f

end Sp
end Go.Proofs.YtjghijeblddijaaGreatDoor
