/- Walks: formed, whole. -/
import Derived.Test.YtjghijeblddijaaGreatDoorStropWalkY
set_option linter.unusedVariables false
namespace Go.Proofs.YtjghijeblddijaaGreatDoor
open Go.RowKit

theorem symbols_ok (T : List UInt8) (text : ByteArray) (ht : text = ⟨T.toArray⟩) (r : Int) (l : List Sp.Sym) (n : Nat) (hn : l.length = n) (h : Sp.symbols T r = .ok l) (w : World) (hS : SignsIn w) :
    Calls Tryz.prog 40 #[.string text, .int .i64 r] w fun e w' => ∃ A c, e = .returned (.tuple #[.slice A n c, .agg #[.int .i64 0, .int .i64 0]]) ∧ Below w.heap.size w w' ∧ w'.ownsRow w.heap.size 28 3 (.slice A l.length c) l.length (l.flatMap Sp.cells) := by
  subst ht; subst hn
  refine (symbols_c ⟨T.toArray⟩ r w hS).mono ?_
  rw [bs_of, h]
  rintro e w' ⟨A, c, rfl, h1, h2⟩
  exact ⟨A, c, rfl, h1, h2⟩
theorem symbols_bad (T : List UInt8) (text : ByteArray) (ht : text = ⟨T.toArray⟩) (r : Int) (f : Int × Int) (h : Sp.symbols T r = .error f) (w : World) (hS : SignsIn w) :
    Calls Tryz.prog 40 #[.string text, .int .i64 r] w fun e w' => e = .returned (.tuple #[.slice none 0 0, .agg #[.int .i64 f.1, .int .i64 f.2]]) ∧ Below w.heap.size w w' := by
  subst ht
  refine (symbols_c ⟨T.toArray⟩ r w hS).mono ?_
  rw [bs_of, h]
  rintro e w' ⟨A, c, rfl, h1, h2⟩
  exact ⟨rfl, h1⟩

set_option maxRecDepth 100000 in
set_option maxHeartbeats 8000000 in
theorem formed_6true_err (kind : Int) (s : List UInt8) (hs : s.length ≤ 100000) (ha : ∀ c ∈ s, c.toNat < 128) (hk : kind = 6) (hb : s.any Sp.blank = true) (f : Int × Int) (hX : Sp.symbols (Sp.asText kind s) 0 = .error f) (w : World) (hS : SignsIn w) (hM : MaxIn w) :
    Calls Tryz.prog 69 #[.int .i64 kind, .string ⟨s.toArray⟩] w fun e w' => e = .returned (.bool (Sp.formed kind s)) ∧ Below w.heap.size w w' := by
  have hT : Sp.asText kind s = 34 :: Sp.dq s ++ [34] := by
    unfold Sp.asText
    rw [if_pos hk]
  have hfin : Sp.formed kind s = Sp.lone kind s (.error f) := by
    unfold Sp.formed
    rw [if_neg (by rw [hk]; simp), hX]
  rw [hfin]
  rw [hT] at hX
  have e6 : (kind != 6) = false := by rw [hk]; rfl
  have d6 : (kind == 6) = true := by rw [hk]; rfl
  have hcat : (⟨#[34]⟩ : ByteArray) ++ ⟨(Sp.dq s).toArray⟩ ++ ⟨#[34]⟩ = ⟨(34 :: Sp.dq s ++ [34]).toArray⟩ := by
    rw [show (⟨#[34]⟩ : ByteArray) = ⟨([34] : List UInt8).toArray⟩ from rfl, bcat, bcat]; rfl
  have hdl := Sp.dq_len s
  have hsum : 1 + (Sp.dq s).length ≤ 9223372036854775807 := by omega
  have hsum2 : 1 + (Sp.dq s).length + 1 ≤ 9223372036854775807 := by omega
  have hlone : Sp.lone kind s (.error f) = false := rfl
  rw [hlone]
  have HX := Lib.hid hX
  have Ha := Lib.hid ha
  have Hb := Lib.hid hb
  have Hcat := Lib.hid hcat
  have hs2 : s.length ≤ 1000000 := by omega
  clear hX ha hb hcat hfin hT hlone hk
  go_enter Tryz.func69, Tryz.ntmps69
  go_wp2_with (first
    | (go_at_call 126; refine (contains_c s hs2 Ha.out _).mono ?_; rw [Hb.out]; rintro e w1 ⟨rfl, hb1⟩)
    | (go_at_call 127; refine (replace_c s hs2 _ (hM.later hb1)).mono ?_; rintro e w2 ⟨rfl, hb2⟩; have hB2 := bjoin hb1 hb1.size hb2)
    | (go_at_call 40; refine (symbols_bad _ _ Hcat.out 0 f HX.out _ (hS.later hB2)).mono ?_; rintro e w3 ⟨rfl, hb3⟩; have hB3 := bjoin hB2 hB2.size hb3))
  all_goals (go_ret; exact ⟨rfl, hB3.alloc hB3.size _⟩)

set_option maxRecDepth 100000 in
set_option maxHeartbeats 8000000 in
theorem formed_6true_ne (kind : Int) (s : List UInt8) (hs : s.length ≤ 100000) (ha : ∀ c ∈ s, c.toNat < 128) (hk : kind = 6) (hb : s.any Sp.blank = true) (l : List Sp.Sym) (hl : l.length ≠ 2) (hX : Sp.symbols (Sp.asText kind s) 0 = .ok l) (w : World) (hS : SignsIn w) (hM : MaxIn w) :
    Calls Tryz.prog 69 #[.int .i64 kind, .string ⟨s.toArray⟩] w fun e w' => e = .returned (.bool (Sp.formed kind s)) ∧ Below w.heap.size w w' := by
  have hT : Sp.asText kind s = 34 :: Sp.dq s ++ [34] := by
    unfold Sp.asText
    rw [if_pos hk]
  have hfin : Sp.formed kind s = Sp.lone kind s (.ok l) := by
    unfold Sp.formed
    rw [if_neg (by rw [hk]; simp), hX]
  rw [hfin]
  rw [hT] at hX
  have e6 : (kind != 6) = false := by rw [hk]; rfl
  have d6 : (kind == 6) = true := by rw [hk]; rfl
  have hcat : (⟨#[34]⟩ : ByteArray) ++ ⟨(Sp.dq s).toArray⟩ ++ ⟨#[34]⟩ = ⟨(34 :: Sp.dq s ++ [34]).toArray⟩ := by
    rw [show (⟨#[34]⟩ : ByteArray) = ⟨([34] : List UInt8).toArray⟩ from rfl, bcat, bcat]; rfl
  have hdl := Sp.dq_len s
  have hsum : 1 + (Sp.dq s).length ≤ 9223372036854775807 := by omega
  have hsum2 : 1 + (Sp.dq s).length + 1 ≤ 9223372036854775807 := by omega
  have hn : ((l.length : Int) == 2) = false := by rw [beq_eq_false_iff_ne]; omega
  have hn2 : (l.length == 2) = false := by rw [beq_eq_false_iff_ne]; exact hl
  have hlone : Sp.lone kind s (.ok l) = false := by
    match l, hl with
    | [], _ => rfl
    | [_], _ => rfl
    | _ :: _ :: _ :: _, _ => rfl
  rw [hlone]
  have Hl := Lib.hid hl
  have HX := Lib.hid hX
  have Ha := Lib.hid ha
  have Hb := Lib.hid hb
  have Hcat := Lib.hid hcat
  have hs2 : s.length ≤ 1000000 := by omega
  clear hX ha hb hcat hfin hT hlone hk hl
  go_enter Tryz.func69, Tryz.ntmps69
  go_wp2_with (first
    | (go_at_call 126; refine (contains_c s hs2 Ha.out _).mono ?_; rw [Hb.out]; rintro e w1 ⟨rfl, hb1⟩)
    | (go_at_call 127; refine (replace_c s hs2 _ (hM.later hb1)).mono ?_; rintro e w2 ⟨rfl, hb2⟩; have hB2 := bjoin hb1 hb1.size hb2)
    | (go_at_call 40; refine (symbols_ok _ _ Hcat.out 0 l _ rfl HX.out _ (hS.later hB2)).mono ?_; rintro e w3 ⟨A, c, rfl, hb3, hown⟩; have hB3 := bjoin hB2 hB2.size hb3; clear hown))
  all_goals (go_ret; exact ⟨rfl, hB3.alloc hB3.size _⟩)

set_option maxRecDepth 100000 in
set_option maxHeartbeats 8000000 in
theorem formed_6true_two (kind : Int) (s : List UInt8) (hs : s.length ≤ 100000) (ha : ∀ c ∈ s, c.toNat < 128) (hk : kind = 6) (hb : s.any Sp.blank = true) (x y : Sp.Sym) (hX : Sp.symbols (Sp.asText kind s) 0 = .ok [x, y]) (w : World) (hS : SignsIn w) (hM : MaxIn w) :
    Calls Tryz.prog 69 #[.int .i64 kind, .string ⟨s.toArray⟩] w fun e w' => e = .returned (.bool (Sp.formed kind s)) ∧ Below w.heap.size w w' := by
  have hT : Sp.asText kind s = 34 :: Sp.dq s ++ [34] := by
    unfold Sp.asText
    rw [if_pos hk]
  have hfin : Sp.formed kind s = Sp.lone kind s (.ok [x, y]) := by
    unfold Sp.formed
    rw [if_neg (by rw [hk]; simp), hX]
  rw [hfin]
  rw [hT] at hX
  have e6 : (kind != 6) = false := by rw [hk]; rfl
  have d6 : (kind == 6) = true := by rw [hk]; rfl
  have hcat : (⟨#[34]⟩ : ByteArray) ++ ⟨(Sp.dq s).toArray⟩ ++ ⟨#[34]⟩ = ⟨(34 :: Sp.dq s ++ [34]).toArray⟩ := by
    rw [show (⟨#[34]⟩ : ByteArray) = ⟨([34] : List UInt8).toArray⟩ from rfl, bcat, bcat]; rfl
  have hdl := Sp.dq_len s
  have hsum : 1 + (Sp.dq s).length ≤ 9223372036854775807 := by omega
  have hsum2 : 1 + (Sp.dq s).length + 1 ≤ 9223372036854775807 := by omega
  have hlone : Sp.lone kind s (.ok [x, y]) = (x.kind == kind && x.text == s) := rfl
  rw [hlone]
  have HX := Lib.hid hX
  have Ha := Lib.hid ha
  have Hb := Lib.hid hb
  have Hcat := Lib.hid hcat
  have hs2 : s.length ≤ 1000000 := by omega
  clear hX ha hb hcat hfin hT hlone hk
  go_enter Tryz.func69, Tryz.ntmps69
  go_wp2_with (first
    | (go_at_call 126; refine (contains_c s hs2 Ha.out _).mono ?_; rw [Hb.out]; rintro e w1 ⟨rfl, hb1⟩)
    | (go_at_call 127; refine (replace_c s hs2 _ (hM.later hb1)).mono ?_; rintro e w2 ⟨rfl, hb2⟩; have hB2 := bjoin hb1 hb1.size hb2)
    | (go_at_call 40; refine (symbols_ok _ _ Hcat.out 0 [x, y] 2 rfl HX.out _ (hS.later hB2)).mono ?_; rintro e w3 ⟨A, c, rfl, hb3, hown⟩; have hB3 := bjoin hB2 hB2.size hb3; obtain ⟨g, rfl, hg, q0, q1, q2⟩ := row_cells hown 0 x rfl; clear hown; replace q0 : w3.cell? ⟨g, 0, none⟩ = some (.int .i64 x.kind) := q0; replace q1 : w3.cell? ⟨g, 1, none⟩ = some (.string ⟨x.text.toArray⟩) := q1; clear q2; have hgl : g < w3.heap.size := World.block_lt_of_cell? w3 _ q0; have hgn : ¬ g = w3.heap.size := Nat.ne_of_lt hgl))
  all_goals (go_ret; exact ⟨ret_bool (by simp [*]), hB3.alloc hB3.size _⟩)

set_option maxRecDepth 100000 in
set_option maxHeartbeats 8000000 in
theorem formed_6false_err (kind : Int) (s : List UInt8) (hs : s.length ≤ 100000) (ha : ∀ c ∈ s, c.toNat < 128) (hk : kind = 6) (hb : s.any Sp.blank = false) (f : Int × Int) (hX : Sp.symbols (Sp.asText kind s) 0 = .error f) (w : World) (hS : SignsIn w) (hM : MaxIn w) :
    Calls Tryz.prog 69 #[.int .i64 kind, .string ⟨s.toArray⟩] w fun e w' => e = .returned (.bool (Sp.formed kind s)) ∧ Below w.heap.size w w' := by
  have hT : Sp.asText kind s = 34 :: Sp.dq s ++ [34] := by
    unfold Sp.asText
    rw [if_pos hk]
  have hfin : Sp.formed kind s = Sp.lone kind s (.error f) := by
    unfold Sp.formed
    rw [if_neg (by rw [hk]; simp), hX]
  rw [hfin]
  rw [hT] at hX
  have e6 : (kind != 6) = false := by rw [hk]; rfl
  have d6 : (kind == 6) = true := by rw [hk]; rfl
  have hcat : (⟨#[34]⟩ : ByteArray) ++ ⟨(Sp.dq s).toArray⟩ ++ ⟨#[34]⟩ = ⟨(34 :: Sp.dq s ++ [34]).toArray⟩ := by
    rw [show (⟨#[34]⟩ : ByteArray) = ⟨([34] : List UInt8).toArray⟩ from rfl, bcat, bcat]; rfl
  have hdl := Sp.dq_len s
  have hsum : 1 + (Sp.dq s).length ≤ 9223372036854775807 := by omega
  have hsum2 : 1 + (Sp.dq s).length + 1 ≤ 9223372036854775807 := by omega
  have hlone : Sp.lone kind s (.error f) = false := rfl
  rw [hlone]
  have HX := Lib.hid hX
  have Ha := Lib.hid ha
  have Hb := Lib.hid hb
  have Hcat := Lib.hid hcat
  have hs2 : s.length ≤ 1000000 := by omega
  clear hX ha hb hcat hfin hT hlone hk
  go_enter Tryz.func69, Tryz.ntmps69
  go_wp2_with (first
    | (go_at_call 126; refine (contains_c s hs2 Ha.out _).mono ?_; rw [Hb.out]; rintro e w1 ⟨rfl, hb1⟩)
    | (go_at_call 127; refine (replace_c s hs2 _ (hM.later hb1)).mono ?_; rintro e w2 ⟨rfl, hb2⟩; have hB2 := bjoin hb1 hb1.size hb2)
    | (go_at_call 40; refine (symbols_bad _ _ Hcat.out 0 f HX.out _ (hS.later hB2)).mono ?_; rintro e w3 ⟨rfl, hb3⟩; have hB3 := bjoin hB2 hB2.size hb3))
  all_goals (go_ret; exact ⟨rfl, hB3.alloc hB3.size _⟩)

set_option maxRecDepth 100000 in
set_option maxHeartbeats 8000000 in
theorem formed_6false_ne (kind : Int) (s : List UInt8) (hs : s.length ≤ 100000) (ha : ∀ c ∈ s, c.toNat < 128) (hk : kind = 6) (hb : s.any Sp.blank = false) (l : List Sp.Sym) (hl : l.length ≠ 2) (hX : Sp.symbols (Sp.asText kind s) 0 = .ok l) (w : World) (hS : SignsIn w) (hM : MaxIn w) :
    Calls Tryz.prog 69 #[.int .i64 kind, .string ⟨s.toArray⟩] w fun e w' => e = .returned (.bool (Sp.formed kind s)) ∧ Below w.heap.size w w' := by
  have hT : Sp.asText kind s = 34 :: Sp.dq s ++ [34] := by
    unfold Sp.asText
    rw [if_pos hk]
  have hfin : Sp.formed kind s = Sp.lone kind s (.ok l) := by
    unfold Sp.formed
    rw [if_neg (by rw [hk]; simp), hX]
  rw [hfin]
  rw [hT] at hX
  have e6 : (kind != 6) = false := by rw [hk]; rfl
  have d6 : (kind == 6) = true := by rw [hk]; rfl
  have hcat : (⟨#[34]⟩ : ByteArray) ++ ⟨(Sp.dq s).toArray⟩ ++ ⟨#[34]⟩ = ⟨(34 :: Sp.dq s ++ [34]).toArray⟩ := by
    rw [show (⟨#[34]⟩ : ByteArray) = ⟨([34] : List UInt8).toArray⟩ from rfl, bcat, bcat]; rfl
  have hdl := Sp.dq_len s
  have hsum : 1 + (Sp.dq s).length ≤ 9223372036854775807 := by omega
  have hsum2 : 1 + (Sp.dq s).length + 1 ≤ 9223372036854775807 := by omega
  have hn : ((l.length : Int) == 2) = false := by rw [beq_eq_false_iff_ne]; omega
  have hn2 : (l.length == 2) = false := by rw [beq_eq_false_iff_ne]; exact hl
  have hlone : Sp.lone kind s (.ok l) = false := by
    match l, hl with
    | [], _ => rfl
    | [_], _ => rfl
    | _ :: _ :: _ :: _, _ => rfl
  rw [hlone]
  have Hl := Lib.hid hl
  have HX := Lib.hid hX
  have Ha := Lib.hid ha
  have Hb := Lib.hid hb
  have Hcat := Lib.hid hcat
  have hs2 : s.length ≤ 1000000 := by omega
  clear hX ha hb hcat hfin hT hlone hk hl
  go_enter Tryz.func69, Tryz.ntmps69
  go_wp2_with (first
    | (go_at_call 126; refine (contains_c s hs2 Ha.out _).mono ?_; rw [Hb.out]; rintro e w1 ⟨rfl, hb1⟩)
    | (go_at_call 127; refine (replace_c s hs2 _ (hM.later hb1)).mono ?_; rintro e w2 ⟨rfl, hb2⟩; have hB2 := bjoin hb1 hb1.size hb2)
    | (go_at_call 40; refine (symbols_ok _ _ Hcat.out 0 l _ rfl HX.out _ (hS.later hB2)).mono ?_; rintro e w3 ⟨A, c, rfl, hb3, hown⟩; have hB3 := bjoin hB2 hB2.size hb3; clear hown))
  all_goals (go_ret; exact ⟨rfl, hB3.alloc hB3.size _⟩)

set_option maxRecDepth 100000 in
set_option maxHeartbeats 8000000 in
theorem formed_6false_two (kind : Int) (s : List UInt8) (hs : s.length ≤ 100000) (ha : ∀ c ∈ s, c.toNat < 128) (hk : kind = 6) (hb : s.any Sp.blank = false) (x y : Sp.Sym) (hX : Sp.symbols (Sp.asText kind s) 0 = .ok [x, y]) (w : World) (hS : SignsIn w) (hM : MaxIn w) :
    Calls Tryz.prog 69 #[.int .i64 kind, .string ⟨s.toArray⟩] w fun e w' => e = .returned (.bool (Sp.formed kind s)) ∧ Below w.heap.size w w' := by
  have hT : Sp.asText kind s = 34 :: Sp.dq s ++ [34] := by
    unfold Sp.asText
    rw [if_pos hk]
  have hfin : Sp.formed kind s = Sp.lone kind s (.ok [x, y]) := by
    unfold Sp.formed
    rw [if_neg (by rw [hk]; simp), hX]
  rw [hfin]
  rw [hT] at hX
  have e6 : (kind != 6) = false := by rw [hk]; rfl
  have d6 : (kind == 6) = true := by rw [hk]; rfl
  have hcat : (⟨#[34]⟩ : ByteArray) ++ ⟨(Sp.dq s).toArray⟩ ++ ⟨#[34]⟩ = ⟨(34 :: Sp.dq s ++ [34]).toArray⟩ := by
    rw [show (⟨#[34]⟩ : ByteArray) = ⟨([34] : List UInt8).toArray⟩ from rfl, bcat, bcat]; rfl
  have hdl := Sp.dq_len s
  have hsum : 1 + (Sp.dq s).length ≤ 9223372036854775807 := by omega
  have hsum2 : 1 + (Sp.dq s).length + 1 ≤ 9223372036854775807 := by omega
  have hlone : Sp.lone kind s (.ok [x, y]) = (x.kind == kind && x.text == s) := rfl
  rw [hlone]
  have HX := Lib.hid hX
  have Ha := Lib.hid ha
  have Hb := Lib.hid hb
  have Hcat := Lib.hid hcat
  have hs2 : s.length ≤ 1000000 := by omega
  clear hX ha hb hcat hfin hT hlone hk
  go_enter Tryz.func69, Tryz.ntmps69
  go_wp2_with (first
    | (go_at_call 126; refine (contains_c s hs2 Ha.out _).mono ?_; rw [Hb.out]; rintro e w1 ⟨rfl, hb1⟩)
    | (go_at_call 127; refine (replace_c s hs2 _ (hM.later hb1)).mono ?_; rintro e w2 ⟨rfl, hb2⟩; have hB2 := bjoin hb1 hb1.size hb2)
    | (go_at_call 40; refine (symbols_ok _ _ Hcat.out 0 [x, y] 2 rfl HX.out _ (hS.later hB2)).mono ?_; rintro e w3 ⟨A, c, rfl, hb3, hown⟩; have hB3 := bjoin hB2 hB2.size hb3; obtain ⟨g, rfl, hg, q0, q1, q2⟩ := row_cells hown 0 x rfl; clear hown; replace q0 : w3.cell? ⟨g, 0, none⟩ = some (.int .i64 x.kind) := q0; replace q1 : w3.cell? ⟨g, 1, none⟩ = some (.string ⟨x.text.toArray⟩) := q1; clear q2; have hgl : g < w3.heap.size := World.block_lt_of_cell? w3 _ q0; have hgn : ¬ g = w3.heap.size := Nat.ne_of_lt hgl))
  all_goals (go_ret; exact ⟨ret_bool (by simp [*]), hB3.alloc hB3.size _⟩)

set_option maxRecDepth 100000 in
set_option maxHeartbeats 8000000 in
theorem formed_7true_err (kind : Int) (s : List UInt8) (hs : s.length ≤ 100000) (ha : ∀ c ∈ s, c.toNat < 128) (hk : kind = 7) (hb : s.any Sp.blank = true) (f : Int × Int) (hX : Sp.symbols (Sp.asText kind s) 0 = .error f) (w : World) (hS : SignsIn w) (hM : MaxIn w) :
    Calls Tryz.prog 69 #[.int .i64 kind, .string ⟨s.toArray⟩] w fun e w' => e = .returned (.bool (Sp.formed kind s)) ∧ Below w.heap.size w w' := by
  have hT : Sp.asText kind s = 36 :: s ++ [36] := by
    unfold Sp.asText
    rw [if_neg (by rw [hk]; decide), if_pos hk]
  have hfin : Sp.formed kind s = Sp.lone kind s (.error f) := by
    unfold Sp.formed
    rw [if_neg (by rw [hk]; simp), hX]
  rw [hfin]
  rw [hT] at hX
  have e6 : (kind != 6) = true := by rw [hk]; rfl
  have d6 : (kind == 6) = false := by rw [hk]; rfl
  have e7 : (kind != 7) = false := by rw [hk]; rfl
  have d7 : (kind == 7) = true := by rw [hk]; rfl
  have hcat : (⟨#[36]⟩ : ByteArray) ++ ⟨s.toArray⟩ ++ ⟨#[36]⟩ = ⟨(36 :: s ++ [36]).toArray⟩ := by
    rw [show (⟨#[36]⟩ : ByteArray) = ⟨([36] : List UInt8).toArray⟩ from rfl, bcat, bcat]; rfl
  have hsum : 1 + s.length ≤ 9223372036854775807 := by omega
  have hlone : Sp.lone kind s (.error f) = false := rfl
  rw [hlone]
  have HX := Lib.hid hX
  have Ha := Lib.hid ha
  have Hb := Lib.hid hb
  have Hcat := Lib.hid hcat
  have hs2 : s.length ≤ 1000000 := by omega
  clear hX ha hb hcat hfin hT hlone hk
  go_enter Tryz.func69, Tryz.ntmps69
  go_wp2_with (first
    | (go_at_call 126; refine (contains_c s hs2 Ha.out _).mono ?_; rw [Hb.out]; rintro e w1 ⟨rfl, hb1⟩)
    | (go_at_call 40; refine (symbols_bad _ _ Hcat.out 0 f HX.out _ (hS.later hb1)).mono ?_; rintro e w3 ⟨rfl, hb3⟩; have hB3 := bjoin hb1 hb1.size hb3))
  all_goals (go_ret; exact ⟨rfl, hB3.alloc hB3.size _⟩)

set_option maxRecDepth 100000 in
set_option maxHeartbeats 8000000 in
theorem formed_7true_ne (kind : Int) (s : List UInt8) (hs : s.length ≤ 100000) (ha : ∀ c ∈ s, c.toNat < 128) (hk : kind = 7) (hb : s.any Sp.blank = true) (l : List Sp.Sym) (hl : l.length ≠ 2) (hX : Sp.symbols (Sp.asText kind s) 0 = .ok l) (w : World) (hS : SignsIn w) (hM : MaxIn w) :
    Calls Tryz.prog 69 #[.int .i64 kind, .string ⟨s.toArray⟩] w fun e w' => e = .returned (.bool (Sp.formed kind s)) ∧ Below w.heap.size w w' := by
  have hT : Sp.asText kind s = 36 :: s ++ [36] := by
    unfold Sp.asText
    rw [if_neg (by rw [hk]; decide), if_pos hk]
  have hfin : Sp.formed kind s = Sp.lone kind s (.ok l) := by
    unfold Sp.formed
    rw [if_neg (by rw [hk]; simp), hX]
  rw [hfin]
  rw [hT] at hX
  have e6 : (kind != 6) = true := by rw [hk]; rfl
  have d6 : (kind == 6) = false := by rw [hk]; rfl
  have e7 : (kind != 7) = false := by rw [hk]; rfl
  have d7 : (kind == 7) = true := by rw [hk]; rfl
  have hcat : (⟨#[36]⟩ : ByteArray) ++ ⟨s.toArray⟩ ++ ⟨#[36]⟩ = ⟨(36 :: s ++ [36]).toArray⟩ := by
    rw [show (⟨#[36]⟩ : ByteArray) = ⟨([36] : List UInt8).toArray⟩ from rfl, bcat, bcat]; rfl
  have hsum : 1 + s.length ≤ 9223372036854775807 := by omega
  have hn : ((l.length : Int) == 2) = false := by rw [beq_eq_false_iff_ne]; omega
  have hn2 : (l.length == 2) = false := by rw [beq_eq_false_iff_ne]; exact hl
  have hlone : Sp.lone kind s (.ok l) = false := by
    match l, hl with
    | [], _ => rfl
    | [_], _ => rfl
    | _ :: _ :: _ :: _, _ => rfl
  rw [hlone]
  have Hl := Lib.hid hl
  have HX := Lib.hid hX
  have Ha := Lib.hid ha
  have Hb := Lib.hid hb
  have Hcat := Lib.hid hcat
  have hs2 : s.length ≤ 1000000 := by omega
  clear hX ha hb hcat hfin hT hlone hk hl
  go_enter Tryz.func69, Tryz.ntmps69
  go_wp2_with (first
    | (go_at_call 126; refine (contains_c s hs2 Ha.out _).mono ?_; rw [Hb.out]; rintro e w1 ⟨rfl, hb1⟩)
    | (go_at_call 40; refine (symbols_ok _ _ Hcat.out 0 l _ rfl HX.out _ (hS.later hb1)).mono ?_; rintro e w3 ⟨A, c, rfl, hb3, hown⟩; have hB3 := bjoin hb1 hb1.size hb3; clear hown))
  all_goals (go_ret; exact ⟨rfl, hB3.alloc hB3.size _⟩)

set_option maxRecDepth 100000 in
set_option maxHeartbeats 8000000 in
theorem formed_7true_two (kind : Int) (s : List UInt8) (hs : s.length ≤ 100000) (ha : ∀ c ∈ s, c.toNat < 128) (hk : kind = 7) (hb : s.any Sp.blank = true) (x y : Sp.Sym) (hX : Sp.symbols (Sp.asText kind s) 0 = .ok [x, y]) (w : World) (hS : SignsIn w) (hM : MaxIn w) :
    Calls Tryz.prog 69 #[.int .i64 kind, .string ⟨s.toArray⟩] w fun e w' => e = .returned (.bool (Sp.formed kind s)) ∧ Below w.heap.size w w' := by
  have hT : Sp.asText kind s = 36 :: s ++ [36] := by
    unfold Sp.asText
    rw [if_neg (by rw [hk]; decide), if_pos hk]
  have hfin : Sp.formed kind s = Sp.lone kind s (.ok [x, y]) := by
    unfold Sp.formed
    rw [if_neg (by rw [hk]; simp), hX]
  rw [hfin]
  rw [hT] at hX
  have e6 : (kind != 6) = true := by rw [hk]; rfl
  have d6 : (kind == 6) = false := by rw [hk]; rfl
  have e7 : (kind != 7) = false := by rw [hk]; rfl
  have d7 : (kind == 7) = true := by rw [hk]; rfl
  have hcat : (⟨#[36]⟩ : ByteArray) ++ ⟨s.toArray⟩ ++ ⟨#[36]⟩ = ⟨(36 :: s ++ [36]).toArray⟩ := by
    rw [show (⟨#[36]⟩ : ByteArray) = ⟨([36] : List UInt8).toArray⟩ from rfl, bcat, bcat]; rfl
  have hsum : 1 + s.length ≤ 9223372036854775807 := by omega
  have hlone : Sp.lone kind s (.ok [x, y]) = (x.kind == kind && x.text == s) := rfl
  rw [hlone]
  have HX := Lib.hid hX
  have Ha := Lib.hid ha
  have Hb := Lib.hid hb
  have Hcat := Lib.hid hcat
  have hs2 : s.length ≤ 1000000 := by omega
  clear hX ha hb hcat hfin hT hlone hk
  go_enter Tryz.func69, Tryz.ntmps69
  go_wp2_with (first
    | (go_at_call 126; refine (contains_c s hs2 Ha.out _).mono ?_; rw [Hb.out]; rintro e w1 ⟨rfl, hb1⟩)
    | (go_at_call 40; refine (symbols_ok _ _ Hcat.out 0 [x, y] 2 rfl HX.out _ (hS.later hb1)).mono ?_; rintro e w3 ⟨A, c, rfl, hb3, hown⟩; have hB3 := bjoin hb1 hb1.size hb3; obtain ⟨g, rfl, hg, q0, q1, q2⟩ := row_cells hown 0 x rfl; clear hown; replace q0 : w3.cell? ⟨g, 0, none⟩ = some (.int .i64 x.kind) := q0; replace q1 : w3.cell? ⟨g, 1, none⟩ = some (.string ⟨x.text.toArray⟩) := q1; clear q2; have hgl : g < w3.heap.size := World.block_lt_of_cell? w3 _ q0; have hgn : ¬ g = w3.heap.size := Nat.ne_of_lt hgl))
  all_goals (go_ret; exact ⟨ret_bool (by simp [*]), hB3.alloc hB3.size _⟩)

set_option maxRecDepth 100000 in
set_option maxHeartbeats 8000000 in
theorem formed_7false_err (kind : Int) (s : List UInt8) (hs : s.length ≤ 100000) (ha : ∀ c ∈ s, c.toNat < 128) (hk : kind = 7) (hb : s.any Sp.blank = false) (f : Int × Int) (hX : Sp.symbols (Sp.asText kind s) 0 = .error f) (w : World) (hS : SignsIn w) (hM : MaxIn w) :
    Calls Tryz.prog 69 #[.int .i64 kind, .string ⟨s.toArray⟩] w fun e w' => e = .returned (.bool (Sp.formed kind s)) ∧ Below w.heap.size w w' := by
  have hT : Sp.asText kind s = 36 :: s ++ [36] := by
    unfold Sp.asText
    rw [if_neg (by rw [hk]; decide), if_pos hk]
  have hfin : Sp.formed kind s = Sp.lone kind s (.error f) := by
    unfold Sp.formed
    rw [if_neg (by rw [hk]; simp), hX]
  rw [hfin]
  rw [hT] at hX
  have e6 : (kind != 6) = true := by rw [hk]; rfl
  have d6 : (kind == 6) = false := by rw [hk]; rfl
  have e7 : (kind != 7) = false := by rw [hk]; rfl
  have d7 : (kind == 7) = true := by rw [hk]; rfl
  have hcat : (⟨#[36]⟩ : ByteArray) ++ ⟨s.toArray⟩ ++ ⟨#[36]⟩ = ⟨(36 :: s ++ [36]).toArray⟩ := by
    rw [show (⟨#[36]⟩ : ByteArray) = ⟨([36] : List UInt8).toArray⟩ from rfl, bcat, bcat]; rfl
  have hsum : 1 + s.length ≤ 9223372036854775807 := by omega
  have hlone : Sp.lone kind s (.error f) = false := rfl
  rw [hlone]
  have HX := Lib.hid hX
  have Ha := Lib.hid ha
  have Hb := Lib.hid hb
  have Hcat := Lib.hid hcat
  have hs2 : s.length ≤ 1000000 := by omega
  clear hX ha hb hcat hfin hT hlone hk
  go_enter Tryz.func69, Tryz.ntmps69
  go_wp2_with (first
    | (go_at_call 126; refine (contains_c s hs2 Ha.out _).mono ?_; rw [Hb.out]; rintro e w1 ⟨rfl, hb1⟩)
    | (go_at_call 40; refine (symbols_bad _ _ Hcat.out 0 f HX.out _ (hS.later hb1)).mono ?_; rintro e w3 ⟨rfl, hb3⟩; have hB3 := bjoin hb1 hb1.size hb3))
  all_goals (go_ret; exact ⟨rfl, hB3.alloc hB3.size _⟩)

set_option maxRecDepth 100000 in
set_option maxHeartbeats 8000000 in
theorem formed_7false_ne (kind : Int) (s : List UInt8) (hs : s.length ≤ 100000) (ha : ∀ c ∈ s, c.toNat < 128) (hk : kind = 7) (hb : s.any Sp.blank = false) (l : List Sp.Sym) (hl : l.length ≠ 2) (hX : Sp.symbols (Sp.asText kind s) 0 = .ok l) (w : World) (hS : SignsIn w) (hM : MaxIn w) :
    Calls Tryz.prog 69 #[.int .i64 kind, .string ⟨s.toArray⟩] w fun e w' => e = .returned (.bool (Sp.formed kind s)) ∧ Below w.heap.size w w' := by
  have hT : Sp.asText kind s = 36 :: s ++ [36] := by
    unfold Sp.asText
    rw [if_neg (by rw [hk]; decide), if_pos hk]
  have hfin : Sp.formed kind s = Sp.lone kind s (.ok l) := by
    unfold Sp.formed
    rw [if_neg (by rw [hk]; simp), hX]
  rw [hfin]
  rw [hT] at hX
  have e6 : (kind != 6) = true := by rw [hk]; rfl
  have d6 : (kind == 6) = false := by rw [hk]; rfl
  have e7 : (kind != 7) = false := by rw [hk]; rfl
  have d7 : (kind == 7) = true := by rw [hk]; rfl
  have hcat : (⟨#[36]⟩ : ByteArray) ++ ⟨s.toArray⟩ ++ ⟨#[36]⟩ = ⟨(36 :: s ++ [36]).toArray⟩ := by
    rw [show (⟨#[36]⟩ : ByteArray) = ⟨([36] : List UInt8).toArray⟩ from rfl, bcat, bcat]; rfl
  have hsum : 1 + s.length ≤ 9223372036854775807 := by omega
  have hn : ((l.length : Int) == 2) = false := by rw [beq_eq_false_iff_ne]; omega
  have hn2 : (l.length == 2) = false := by rw [beq_eq_false_iff_ne]; exact hl
  have hlone : Sp.lone kind s (.ok l) = false := by
    match l, hl with
    | [], _ => rfl
    | [_], _ => rfl
    | _ :: _ :: _ :: _, _ => rfl
  rw [hlone]
  have Hl := Lib.hid hl
  have HX := Lib.hid hX
  have Ha := Lib.hid ha
  have Hb := Lib.hid hb
  have Hcat := Lib.hid hcat
  have hs2 : s.length ≤ 1000000 := by omega
  clear hX ha hb hcat hfin hT hlone hk hl
  go_enter Tryz.func69, Tryz.ntmps69
  go_wp2_with (first
    | (go_at_call 126; refine (contains_c s hs2 Ha.out _).mono ?_; rw [Hb.out]; rintro e w1 ⟨rfl, hb1⟩)
    | (go_at_call 40; refine (symbols_ok _ _ Hcat.out 0 l _ rfl HX.out _ (hS.later hb1)).mono ?_; rintro e w3 ⟨A, c, rfl, hb3, hown⟩; have hB3 := bjoin hb1 hb1.size hb3; clear hown))
  all_goals (go_ret; exact ⟨rfl, hB3.alloc hB3.size _⟩)

set_option maxRecDepth 100000 in
set_option maxHeartbeats 8000000 in
theorem formed_7false_two (kind : Int) (s : List UInt8) (hs : s.length ≤ 100000) (ha : ∀ c ∈ s, c.toNat < 128) (hk : kind = 7) (hb : s.any Sp.blank = false) (x y : Sp.Sym) (hX : Sp.symbols (Sp.asText kind s) 0 = .ok [x, y]) (w : World) (hS : SignsIn w) (hM : MaxIn w) :
    Calls Tryz.prog 69 #[.int .i64 kind, .string ⟨s.toArray⟩] w fun e w' => e = .returned (.bool (Sp.formed kind s)) ∧ Below w.heap.size w w' := by
  have hT : Sp.asText kind s = 36 :: s ++ [36] := by
    unfold Sp.asText
    rw [if_neg (by rw [hk]; decide), if_pos hk]
  have hfin : Sp.formed kind s = Sp.lone kind s (.ok [x, y]) := by
    unfold Sp.formed
    rw [if_neg (by rw [hk]; simp), hX]
  rw [hfin]
  rw [hT] at hX
  have e6 : (kind != 6) = true := by rw [hk]; rfl
  have d6 : (kind == 6) = false := by rw [hk]; rfl
  have e7 : (kind != 7) = false := by rw [hk]; rfl
  have d7 : (kind == 7) = true := by rw [hk]; rfl
  have hcat : (⟨#[36]⟩ : ByteArray) ++ ⟨s.toArray⟩ ++ ⟨#[36]⟩ = ⟨(36 :: s ++ [36]).toArray⟩ := by
    rw [show (⟨#[36]⟩ : ByteArray) = ⟨([36] : List UInt8).toArray⟩ from rfl, bcat, bcat]; rfl
  have hsum : 1 + s.length ≤ 9223372036854775807 := by omega
  have hlone : Sp.lone kind s (.ok [x, y]) = (x.kind == kind && x.text == s) := rfl
  rw [hlone]
  have HX := Lib.hid hX
  have Ha := Lib.hid ha
  have Hb := Lib.hid hb
  have Hcat := Lib.hid hcat
  have hs2 : s.length ≤ 1000000 := by omega
  clear hX ha hb hcat hfin hT hlone hk
  go_enter Tryz.func69, Tryz.ntmps69
  go_wp2_with (first
    | (go_at_call 126; refine (contains_c s hs2 Ha.out _).mono ?_; rw [Hb.out]; rintro e w1 ⟨rfl, hb1⟩)
    | (go_at_call 40; refine (symbols_ok _ _ Hcat.out 0 [x, y] 2 rfl HX.out _ (hS.later hb1)).mono ?_; rintro e w3 ⟨A, c, rfl, hb3, hown⟩; have hB3 := bjoin hb1 hb1.size hb3; obtain ⟨g, rfl, hg, q0, q1, q2⟩ := row_cells hown 0 x rfl; clear hown; replace q0 : w3.cell? ⟨g, 0, none⟩ = some (.int .i64 x.kind) := q0; replace q1 : w3.cell? ⟨g, 1, none⟩ = some (.string ⟨x.text.toArray⟩) := q1; clear q2; have hgl : g < w3.heap.size := World.block_lt_of_cell? w3 _ q0; have hgn : ¬ g = w3.heap.size := Nat.ne_of_lt hgl))
  all_goals (go_ret; exact ⟨ret_bool (by simp [*]), hB3.alloc hB3.size _⟩)

set_option maxRecDepth 100000 in
set_option maxHeartbeats 8000000 in
theorem formed_0false_err (kind : Int) (s : List UInt8) (hs : s.length ≤ 100000) (ha : ∀ c ∈ s, c.toNat < 128) (h6 : kind ≠ 6) (h7 : kind ≠ 7) (hb : s.any Sp.blank = false) (f : Int × Int) (hX : Sp.symbols (Sp.asText kind s) 0 = .error f) (w : World) (hS : SignsIn w) (hM : MaxIn w) :
    Calls Tryz.prog 69 #[.int .i64 kind, .string ⟨s.toArray⟩] w fun e w' => e = .returned (.bool (Sp.formed kind s)) ∧ Below w.heap.size w w' := by
  have hT : Sp.asText kind s = s := by
    unfold Sp.asText
    rw [if_neg h6, if_neg h7]
  have hfin : Sp.formed kind s = Sp.lone kind s (.error f) := by
    unfold Sp.formed
    rw [if_neg (by rw [hb]; simp), hX]
  rw [hfin]
  rw [hT] at hX
  have d6 : (kind == 6) = false := beq_eq_false_iff_ne.2 h6
  have d7 : (kind == 7) = false := beq_eq_false_iff_ne.2 h7
  have hlone : Sp.lone kind s (.error f) = false := rfl
  rw [hlone]
  have HX := Lib.hid hX
  have Ha := Lib.hid ha
  have Hb := Lib.hid hb
  have hs2 : s.length ≤ 1000000 := by omega
  clear hX ha hb hfin hT hlone h6 h7
  go_enter Tryz.func69, Tryz.ntmps69
  go_wp2_with (first
    | (go_at_call 126; refine (contains_c s hs2 Ha.out _).mono ?_; rw [Hb.out]; rintro e w1 ⟨rfl, hb1⟩)
    | (go_at_call 40; refine (symbols_bad s _ rfl 0 f HX.out _ (hS.later hb1)).mono ?_; rintro e w3 ⟨rfl, hb3⟩; have hB3 := bjoin hb1 hb1.size hb3))
  all_goals (go_ret; exact ⟨rfl, hB3.alloc hB3.size _⟩)

set_option maxRecDepth 100000 in
set_option maxHeartbeats 8000000 in
theorem formed_0false_ne (kind : Int) (s : List UInt8) (hs : s.length ≤ 100000) (ha : ∀ c ∈ s, c.toNat < 128) (h6 : kind ≠ 6) (h7 : kind ≠ 7) (hb : s.any Sp.blank = false) (l : List Sp.Sym) (hl : l.length ≠ 2) (hX : Sp.symbols (Sp.asText kind s) 0 = .ok l) (w : World) (hS : SignsIn w) (hM : MaxIn w) :
    Calls Tryz.prog 69 #[.int .i64 kind, .string ⟨s.toArray⟩] w fun e w' => e = .returned (.bool (Sp.formed kind s)) ∧ Below w.heap.size w w' := by
  have hT : Sp.asText kind s = s := by
    unfold Sp.asText
    rw [if_neg h6, if_neg h7]
  have hfin : Sp.formed kind s = Sp.lone kind s (.ok l) := by
    unfold Sp.formed
    rw [if_neg (by rw [hb]; simp), hX]
  rw [hfin]
  rw [hT] at hX
  have d6 : (kind == 6) = false := beq_eq_false_iff_ne.2 h6
  have d7 : (kind == 7) = false := beq_eq_false_iff_ne.2 h7
  have hn : ((l.length : Int) == 2) = false := by rw [beq_eq_false_iff_ne]; omega
  have hn2 : (l.length == 2) = false := by rw [beq_eq_false_iff_ne]; exact hl
  have hlone : Sp.lone kind s (.ok l) = false := by
    match l, hl with
    | [], _ => rfl
    | [_], _ => rfl
    | _ :: _ :: _ :: _, _ => rfl
  rw [hlone]
  have Hl := Lib.hid hl
  have HX := Lib.hid hX
  have Ha := Lib.hid ha
  have Hb := Lib.hid hb
  have hs2 : s.length ≤ 1000000 := by omega
  clear hX ha hb hfin hT hlone h6 h7 hl
  go_enter Tryz.func69, Tryz.ntmps69
  go_wp2_with (first
    | (go_at_call 126; refine (contains_c s hs2 Ha.out _).mono ?_; rw [Hb.out]; rintro e w1 ⟨rfl, hb1⟩)
    | (go_at_call 40; refine (symbols_ok s _ rfl 0 l _ rfl HX.out _ (hS.later hb1)).mono ?_; rintro e w3 ⟨A, c, rfl, hb3, hown⟩; have hB3 := bjoin hb1 hb1.size hb3; clear hown))
  all_goals (go_ret; exact ⟨rfl, hB3.alloc hB3.size _⟩)

set_option maxRecDepth 100000 in
set_option maxHeartbeats 8000000 in
theorem formed_0false_two (kind : Int) (s : List UInt8) (hs : s.length ≤ 100000) (ha : ∀ c ∈ s, c.toNat < 128) (h6 : kind ≠ 6) (h7 : kind ≠ 7) (hb : s.any Sp.blank = false) (x y : Sp.Sym) (hX : Sp.symbols (Sp.asText kind s) 0 = .ok [x, y]) (w : World) (hS : SignsIn w) (hM : MaxIn w) :
    Calls Tryz.prog 69 #[.int .i64 kind, .string ⟨s.toArray⟩] w fun e w' => e = .returned (.bool (Sp.formed kind s)) ∧ Below w.heap.size w w' := by
  have hT : Sp.asText kind s = s := by
    unfold Sp.asText
    rw [if_neg h6, if_neg h7]
  have hfin : Sp.formed kind s = Sp.lone kind s (.ok [x, y]) := by
    unfold Sp.formed
    rw [if_neg (by rw [hb]; simp), hX]
  rw [hfin]
  rw [hT] at hX
  have d6 : (kind == 6) = false := beq_eq_false_iff_ne.2 h6
  have d7 : (kind == 7) = false := beq_eq_false_iff_ne.2 h7
  have hlone : Sp.lone kind s (.ok [x, y]) = (x.kind == kind && x.text == s) := rfl
  rw [hlone]
  have HX := Lib.hid hX
  have Ha := Lib.hid ha
  have Hb := Lib.hid hb
  have hs2 : s.length ≤ 1000000 := by omega
  clear hX ha hb hfin hT hlone h6 h7
  go_enter Tryz.func69, Tryz.ntmps69
  go_wp2_with (first
    | (go_at_call 126; refine (contains_c s hs2 Ha.out _).mono ?_; rw [Hb.out]; rintro e w1 ⟨rfl, hb1⟩)
    | (go_at_call 40; refine (symbols_ok s _ rfl 0 [x, y] 2 rfl HX.out _ (hS.later hb1)).mono ?_; rintro e w3 ⟨A, c, rfl, hb3, hown⟩; have hB3 := bjoin hb1 hb1.size hb3; obtain ⟨g, rfl, hg, q0, q1, q2⟩ := row_cells hown 0 x rfl; clear hown; replace q0 : w3.cell? ⟨g, 0, none⟩ = some (.int .i64 x.kind) := q0; replace q1 : w3.cell? ⟨g, 1, none⟩ = some (.string ⟨x.text.toArray⟩) := q1; clear q2; have hgl : g < w3.heap.size := World.block_lt_of_cell? w3 _ q0; have hgn : ¬ g = w3.heap.size := Nat.ne_of_lt hgl))
  all_goals (go_ret; exact ⟨ret_bool (by simp [*]), hB3.alloc hB3.size _⟩)

theorem formed_c (kind : Int) (s : List UInt8) (hs : s.length ≤ 100000) (ha : ∀ c ∈ s, c.toNat < 128) (w : World) (hS : SignsIn w) (hM : MaxIn w) :
    Calls Tryz.prog 69 #[.int .i64 kind, .string ⟨s.toArray⟩] w fun e w' => e = .returned (.bool (Sp.formed kind s)) ∧ Below w.heap.size w w' := by
  by_cases h6 : kind = 6
  · cases hb : s.any Sp.blank with
    | true =>
      cases hX : Sp.symbols (Sp.asText kind s) 0 with
      | error f => exact formed_6true_err kind s hs ha h6 hb f hX w hS hM
      | ok l =>
        match l, hX with
        | [], hX => exact formed_6true_ne kind s hs ha h6 hb _ (by simp) hX w hS hM
        | [_], hX => exact formed_6true_ne kind s hs ha h6 hb _ (by simp) hX w hS hM
        | [x, y], hX => exact formed_6true_two kind s hs ha h6 hb x y hX w hS hM
        | _ :: _ :: _ :: _, hX => exact formed_6true_ne kind s hs ha h6 hb _ (by simp) hX w hS hM
    | false =>
      cases hX : Sp.symbols (Sp.asText kind s) 0 with
      | error f => exact formed_6false_err kind s hs ha h6 hb f hX w hS hM
      | ok l =>
        match l, hX with
        | [], hX => exact formed_6false_ne kind s hs ha h6 hb _ (by simp) hX w hS hM
        | [_], hX => exact formed_6false_ne kind s hs ha h6 hb _ (by simp) hX w hS hM
        | [x, y], hX => exact formed_6false_two kind s hs ha h6 hb x y hX w hS hM
        | _ :: _ :: _ :: _, hX => exact formed_6false_ne kind s hs ha h6 hb _ (by simp) hX w hS hM
  by_cases h7 : kind = 7
  · cases hb : s.any Sp.blank with
    | true =>
      cases hX : Sp.symbols (Sp.asText kind s) 0 with
      | error f => exact formed_7true_err kind s hs ha h7 hb f hX w hS hM
      | ok l =>
        match l, hX with
        | [], hX => exact formed_7true_ne kind s hs ha h7 hb _ (by simp) hX w hS hM
        | [_], hX => exact formed_7true_ne kind s hs ha h7 hb _ (by simp) hX w hS hM
        | [x, y], hX => exact formed_7true_two kind s hs ha h7 hb x y hX w hS hM
        | _ :: _ :: _ :: _, hX => exact formed_7true_ne kind s hs ha h7 hb _ (by simp) hX w hS hM
    | false =>
      cases hX : Sp.symbols (Sp.asText kind s) 0 with
      | error f => exact formed_7false_err kind s hs ha h7 hb f hX w hS hM
      | ok l =>
        match l, hX with
        | [], hX => exact formed_7false_ne kind s hs ha h7 hb _ (by simp) hX w hS hM
        | [_], hX => exact formed_7false_ne kind s hs ha h7 hb _ (by simp) hX w hS hM
        | [x, y], hX => exact formed_7false_two kind s hs ha h7 hb x y hX w hS hM
        | _ :: _ :: _ :: _, hX => exact formed_7false_ne kind s hs ha h7 hb _ (by simp) hX w hS hM
  cases hb : s.any Sp.blank with
  | true => exact formed_early kind s (by omega) ha h6 h7 hb w
  | false =>
    cases hX : Sp.symbols (Sp.asText kind s) 0 with
    | error f => exact formed_0false_err kind s hs ha h6 h7 hb f hX w hS hM
    | ok l =>
      match l, hX with
      | [], hX => exact formed_0false_ne kind s hs ha h6 h7 hb _ (by simp) hX w hS hM
      | [_], hX => exact formed_0false_ne kind s hs ha h6 h7 hb _ (by simp) hX w hS hM
      | [x, y], hX => exact formed_0false_two kind s hs ha h6 h7 hb x y hX w hS hM
      | _ :: _ :: _ :: _, hX => exact formed_0false_ne kind s hs ha h6 h7 hb _ (by simp) hX w hS hM
end Go.Proofs.YtjghijeblddijaaGreatDoor
