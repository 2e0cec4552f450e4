/- Walks of the reference of chapter 04: the byte tests, at, letter, behind, hex, size. Walks of the reference of chapter 04: size, hex, fail, add, digits. Walks of the reference of chapter 04: digits, exponent. Walks of the reference of chapter 04: exponent, text, format. -/
import Derived.Test.YtjghijeblddijaaGreatDoorStropWalkA
import Derived.Test.YtjghijeblddijaaGreatDoorStropFacts
import Derived.Test.YtjghijeblddijaaGreatDoorStropWalkC
import Derived.Test.YtjghijeblddijaaGreatDoorStropWalkJ
import Derived.Test.YtjghijeblddijaaGreatDoorStropCutB
import Derived.Test.YtjghijeblddijaaGreatDoorStropLexis
import Derived.Test.YtjghijeblddijaaGreatDoorStropWalkK
import Derived.Test.YtjghijeblddijaaGreatDoorStropWalkL
import Derived.Test.YtjghijeblddijaaGreatDoorStropWalkH
namespace Go.Proofs.YtjghijeblddijaaGreatDoor
open Go.RowKit
/-- The reference's scanner lies at block g: its text, place, regime, first error and where that is. -/
structure RefR (w : World) (g : Nat) (s : ByteArray) (at_ rg err bad : Int) : Prop where
  c0 : w.cell? ⟨g, 0, none⟩ = some (.string s)
  c1 : w.cell? ⟨g, 1, none⟩ = some (.int .i64 at_)
  c2 : w.cell? ⟨g, 2, none⟩ = some (.int .i64 rg)
  c4 : w.cell? ⟨g, 4, none⟩ = some (.int .i64 err)
  c5 : w.cell? ⟨g, 5, none⟩ = some (.int .i64 bad)
theorem RefR.later {w w' : World} {g : Nat} {s : ByteArray} {at_ rg err bad : Int} (h : RefR w g s at_ rg err bad) (hb : Below w.heap.size w w') : RefR w' g s at_ rg err bad :=
  ⟨cell_later hb h.c0, cell_later hb h.c1, cell_later hb h.c2, cell_later hb h.c4, cell_later hb h.c5⟩
theorem rblank_c (c : UInt8) (w : World) :
    Calls Tryz.prog 145 #[.int .u8 (c.toNat : Int)] w fun e w' => e = .returned (.bool (Sp.blank c)) ∧ w = w' := by
  go_enter Tryz.func145, Tryz.ntmps145
  go_wp2
  all_goals (go_ret; exact ⟨ret_bool (by rw [Sp.blank_iff]; first | (simp; omega) | simp; done), rfl⟩)
theorem rcapital_c (c : UInt8) (w : World) :
    Calls Tryz.prog 193 #[.int .u8 (c.toNat : Int)] w fun e w' => e = .returned (.bool (Sp.capital c)) ∧ w = w' := by
  go_enter Tryz.func193, Tryz.ntmps193
  go_wp2
  all_goals (go_ret; exact ⟨ret_bool (by rw [Sp.capital_iff]; simp; omega), rfl⟩)
theorem rsmall_c (c : UInt8) (w : World) :
    Calls Tryz.prog 215 #[.int .u8 (c.toNat : Int)] w fun e w' => e = .returned (.bool (Sp.small c)) ∧ w = w' := by
  go_enter Tryz.func215, Tryz.ntmps215
  go_wp2
  all_goals (go_ret; exact ⟨ret_bool (by rw [Sp.small_iff]; simp; omega), rfl⟩)
theorem rdigit_c (c : UInt8) (w : World) :
    Calls Tryz.prog 152 #[.int .u8 (c.toNat : Int)] w fun e w' => e = .returned (.bool (Sp.digit c)) ∧ w = w' := by
  go_enter Tryz.func152, Tryz.ntmps152
  go_wp2
  all_goals (go_ret; exact ⟨ret_bool (by rw [Sp.digit_iff]; simp; omega), rfl⟩)
theorem rByte_c (c : UInt8) (w : World) :
    Calls Tryz.prog 146 #[.int .u8 (c.toNat : Int)] w fun e w' => e = .returned (.bool (Sp.permitted c)) ∧ w = w' := by
  go_enter Tryz.func146, Tryz.ntmps146
  go_wp2
  all_goals (go_ret; exact ⟨ret_bool (by rw [Sp.permitted_iff, Sp.blank_iff]; first | (simp; omega) | (simp [*] <;> omega)), rfl⟩)
theorem rlower_c (c : UInt8) (w : World) :
    Calls Tryz.prog 128 #[.int .u8 (c.toNat : Int)] w fun e w' => e = .returned (.int .u8 ((Sp.low c).toNat : Int)) ∧ w = w' := by
  have hl := Lib.hid (Sp.low_int c)
  have hc := Lib.hid (Sp.capital_iff c)
  go_enter Tryz.func128, Tryz.ntmps128
  go_wp2_with (go_at_call 193; refine (rcapital_c _ _).mono ?_; rintro e w' ⟨rfl, rfl⟩)
  · go_ret
    have h : Sp.capital c = true := by assumption
    have := hc.out.1 h
    exact ⟨ret_int (by rw [hl.out, if_pos h]; omega), rfl⟩
  · go_ret
    have h : Sp.capital c = false := by assumption
    exact ⟨ret_int (by rw [hl.out, if_neg (by simp [h])]), rfl⟩
theorem Sp.up_int (c : UInt8) : ((Sp.up c).toNat : Int) = if Sp.small c = true then (c.toNat : Int) - 32 else c.toNat := by
  unfold Sp.up
  split
  · rename_i h
    rw [Sp.small_iff] at h
    have h32 : (32 : UInt8).toNat = 32 := rfl
    rw [UInt8.toNat_sub_of_le c 32 (by rw [UInt8.le_iff_toNat_le, h32]; omega), h32]
    omega
  · rfl
theorem rraise_c (c : UInt8) (w : World) :
    Calls Tryz.prog 217 #[.int .u8 (c.toNat : Int)] w fun e w' => e = .returned (.int .u8 ((Sp.up c).toNat : Int)) ∧ w = w' := by
  have hl := Lib.hid (Sp.up_int c)
  have hc := Lib.hid (Sp.small_iff c)
  go_enter Tryz.func217, Tryz.ntmps217
  go_wp2_with (go_at_call 215; refine (rsmall_c _ _).mono ?_; rintro e w' ⟨rfl, rfl⟩)
  · go_ret
    have h : Sp.small c = true := by assumption
    have := hc.out.1 h
    exact ⟨ret_int (by rw [hl.out, if_pos h]; omega), rfl⟩
  · go_ret
    have h : Sp.small c = false := by assumption
    exact ⟨ret_int (by rw [hl.out, if_neg (by simp [h])]), rfl⟩
theorem rletter_c (g : Nat) (s : ByteArray) (at_ rg err bad : Int) (hr : 0 ≤ rg) (c : UInt8) (w : World) (H : RefR w g s at_ rg err bad) :
    Calls Tryz.prog 155 #[.pointer (some ⟨g, 0, none⟩), .int .u8 (c.toNat : Int)] w fun e w' => e = .returned (.bool (Sp.letter rg.toNat c)) ∧ w = w' := by
  obtain ⟨c0, c1, c2, c4, c5⟩ := H
  go_enter Tryz.func155, Tryz.ntmps155
  go_wp2_with (first | (go_at_call 215; refine (rsmall_c _ _).mono ?_; rintro e w' ⟨rfl, rfl⟩) | (go_at_call 193; refine (rcapital_c _ _).mono ?_; rintro e w' ⟨rfl, rfl⟩))
  all_goals (go_ret; exact ⟨ret_bool (by rw [Sp.letter_iff _ hr]; simp_all), rfl⟩)
/-- The byte at i, 0 behind the end. -/
@[irreducible] def bat (s : ByteArray) (i : Nat) : UInt8 := (bs s).getD i 0
theorem bat_eq (s : ByteArray) (i : Nat) : bat s i = (bs s).getD i 0 := by unfold bat; rfl
theorem bat_in (s : ByteArray) (i : Nat) (h : i < s.size) : bat s i = s[i] := by rw [bat_eq, bs_get s i h]
theorem rat_c (g : Nat) (s : ByteArray) (at_ rg err bad : Int) (i : Nat) (w : World) (H : RefR w g s at_ rg err bad) :
    Calls Tryz.prog 153 #[.pointer (some ⟨g, 0, none⟩), .int .i64 (i : Int)] w fun e w' => e = .returned (.int .u8 ((bat s i).toNat : Int)) ∧ w = w' := by
  rw [bat_eq]
  obtain ⟨c0, c1, c2, c4, c5⟩ := H
  by_cases hlt : i < s.size
  · rw [bs_get s i hlt]
    go_enter Tryz.func153, Tryz.ntmps153
    go_wp2
    go_ret
    exact ⟨rfl, rfl⟩
  · have e : (bs s).getD i 0 = 0 := by rw [List.getD_eq_getElem?_getD, List.getElem?_eq_none (by rw [bs_length]; omega)]; rfl
    rw [e]
    go_enter Tryz.func153, Tryz.ntmps153
    go_wp2
    go_ret
    exact ⟨rfl, rfl⟩
theorem rbehind_c (g : Nat) (s : ByteArray) (at_ rg err bad : Int) (i : Nat) (hi : i ≤ s.size) (hs : s.size ≤ maxLen) (w : World) (H : RefR w g s at_ rg err bad) :
    Calls Tryz.prog 219 #[.pointer (some ⟨g, 0, none⟩), .int .i64 (i : Int)] w fun e w' =>
      e = .returned (.int .i64 ((i + Sp.bl ((bs s).drop i) : Nat) : Int)) ∧ w = w' := by
  unfold maxLen at hs
  obtain ⟨c0, c1, c2, c4, c5⟩ := H
  go_enter Tryz.func219, Tryz.ntmps219
  go_wp2
  go_loop [1] (fun t => ∃ k : Nat, k ≤ s.size ∧ t = .int .i64 k ∧ Hid (i + Sp.bl ((bs s).drop i) = k + Sp.bl ((bs s).drop k))) (fun t => s.size - (intOf t).toNat)
  case atStart => exact ⟨i, hi, rfl, Lib.hid rfl⟩
  case round =>
    obtain ⟨k, hk, rfl, hh⟩ := hrel
    by_cases hlt : k < s.size
    · have hb := Lib.hid (bl_drop s k hlt)
      go_wp2_with (go_at_call 145; refine (rblank_c _ _).mono ?_; rintro e w' ⟨rfl, rfl⟩)
      · have h : Sp.blank s[k] = true := by assumption
        go_round
        case rel => exact ⟨k + 1, by omega, by go_num, Lib.hid (by rw [hh.out, hb.out, if_pos h]; omega)⟩
        case measure => simp [intOf]; omega
      · have h : Sp.blank s[k] = false := by assumption
        go_ret
        exact ⟨ret_int (by have h1 := hh.out; have h2 := hb.out; rw [if_neg (by simp [h])] at h2; omega), rfl⟩
    · go_wp2
      go_ret
      exact ⟨ret_int (by have h := hh.out; rw [bs_drop_end s k (by omega)] at h; simp only [Sp.bl] at h; omega), rfl⟩
end Go.Proofs.YtjghijeblddijaaGreatDoor
namespace Go.Proofs.YtjghijeblddijaaGreatDoor
open Go.RowKit
namespace Sp
/-- The number of digits and small letters. -/
def rsize (l : List UInt8) : Nat := (l.filter fun c => digit c || small c).length
theorem rsize_snoc (l : List UInt8) (c : UInt8) : rsize (l ++ [c]) = rsize l + if digit c = true ∨ small c = true then 1 else 0 := by
  unfold rsize
  rw [List.filter_append, List.length_append]
  congr 1
  by_cases h1 : digit c = true <;> by_cases h2 : small c = true <;> simp [h1, h2]
theorem rsize_le (l : List UInt8) : rsize l ≤ l.length := List.length_filter_le _ _
/-- The value of a digit of a radix, -1 if it is none. -/
def rhex (c : UInt8) : Int := if digit c then (c.toNat : Int) - 48 else if 97 ≤ (c.toNat : Int) ∧ (c.toNat : Int) ≤ 102 then (c.toNat : Int) - 87 else -1
end Sp
theorem rsize_c (text : ByteArray) (hs : text.size ≤ 140737488355328) (w : World) :
    Calls Tryz.prog 223 #[.string text] w fun e w' => e = .returned (.int .i64 (Sp.rsize (bs text) : Int)) ∧ w = w' := by
  go_enter Tryz.func223, Tryz.ntmps223
  go_wp2
  go_loop [3, 4] (fun n t => ∃ k m : Nat, k ≤ text.size ∧ t = .int .i64 k ∧ n = .int .i64 m ∧ m ≤ k ∧ Hid (m = Sp.rsize ((bs text).take k))) (fun _ t => text.size - (intOf t).toNat)
  case atStart => exact ⟨0, 0, Nat.zero_le _, rfl, rfl, Nat.le_refl _, Lib.hid rfl⟩
  case round =>
    obtain ⟨k, m, hk, rfl, rfl, hm, hh⟩ := hrel
    by_cases hlt : k < text.size
    · have hsn := Lib.hid (Sp.rsize_snoc ((bs text).take k) text[k])
      have hts := Lib.hid (take_snoc text k hlt)
      go_wp2_with (first | (go_at_call 152; refine (rdigit_c _ _).mono ?_; rintro e w' ⟨rfl, rfl⟩) | (go_at_call 215; refine (rsmall_c _ _).mono ?_; rintro e w' ⟨rfl, rfl⟩))
      · have h1 : Sp.digit text[k] = true := by assumption
        go_round
        case rel => exact ⟨k + 1, m + 1, by omega, by go_num, by go_num, by omega, Lib.hid (by rw [hts.out, hsn.out, if_pos (.inl h1), ← hh.out])⟩
        case measure => simp [intOf]; omega
      · have h1 : ¬ Sp.digit text[k] = true := by assumption
        have h2 : Sp.small text[k] = true := by assumption
        go_round
        case rel => exact ⟨k + 1, m + 1, by omega, by go_num, by go_num, by omega, Lib.hid (by rw [hts.out, hsn.out, if_pos (.inr h2), ← hh.out])⟩
        case measure => simp [intOf]; omega
      · have h1 : ¬ Sp.digit text[k] = true := by assumption
        have h2 : Sp.small text[k] = false := by assumption
        have h2 : ¬ Sp.small text[k] = true := by rw [h2]; decide
        go_round
        case rel => exact ⟨k + 1, m, by omega, by go_num, by go_num, by omega, Lib.hid (by rw [hts.out, hsn.out, if_neg (by simp only [not_or]; exact ⟨h1, h2⟩), ← hh.out, Nat.add_zero])⟩
        case measure => simp [intOf]; omega
    · go_wp2
      go_ret
      have e : (bs text).take k = bs text := List.take_of_length_le (by rw [bs_length]; omega)
      exact ⟨ret_int (by have := hh.out; rw [e] at this; rw [this]), rfl⟩
theorem rhex_c (c : UInt8) (w : World) :
    Calls Tryz.prog 220 #[.int .u8 (c.toNat : Int)] w fun e w' => e = .returned (.int .i64 (Sp.rhex c)) ∧ w = w' := by
  have hd := Lib.hid (Sp.digit_iff c)
  have hlt := c.toNat_lt
  have hx : Sp.rhex c = if Sp.digit c then (c.toNat : Int) - 48 else if 97 ≤ (c.toNat : Int) ∧ (c.toNat : Int) ≤ 102 then (c.toNat : Int) - 87 else -1 := rfl
  have Hx := Lib.hid hx
  clear hx
  generalize Sp.rhex c = z at *
  go_enter Tryz.func220, Tryz.ntmps220
  go_wp2_with (first | (go_at_call 152; refine (rdigit_c _ _).mono ?_; rintro e w' ⟨rfl, rfl⟩))
  · go_ret
    have h : Sp.digit c = true := by assumption
    have := hd.out.1 h
    exact ⟨ret_int (by rw [Hx.out, if_pos h]; omega), rfl⟩
  all_goals
    go_ret
    have h : Sp.digit c = false := by assumption
    refine ⟨ret_int ?_, rfl⟩
    rw [Hx.out, if_neg (by rw [h]; decide)]
    split <;> omega
/-- The scanner of the reference at block g, its symbols so far. -/
structure Ref (B : Nat) (w : World) (g : Nat) (s : ByteArray) (at_ rg : Int) (out : List Sp.Sym) (A : Option Addr) (c : Nat) (err bad : Int) : Prop where
  base : B ≤ g
  blk : w.heap[g]? = some (.cells #[.string s, .int .i64 at_, .int .i64 rg, .slice A out.length c, .int .i64 err, .int .i64 bad] 120 (0, 0))
  own : w.ownsRow B 28 3 (.slice A out.length c) out.length (out.flatMap Sp.cells)
section
variable {B : Nat} {w w' : World} {g : Nat} {s : ByteArray} {at_ rg : Int} {out : List Sp.Sym} {A : Option Addr} {c : Nat} {err bad : Int}
theorem Ref.R (h : Ref B w g s at_ rg out A c err bad) : RefR w g s at_ rg err bad :=
  ⟨by rw [cell_of_blk h.blk]; rfl, by rw [cell_of_blk h.blk]; rfl, by rw [cell_of_blk h.blk]; rfl, by rw [cell_of_blk h.blk]; rfl, by rw [cell_of_blk h.blk]; rfl⟩
theorem Ref.c3 (h : Ref B w g s at_ rg out A c err bad) : w.cell? ⟨g, 3, none⟩ = some (.slice A out.length c) := by rw [cell_of_blk h.blk]; rfl
theorem Ref.lt (h : Ref B w g s at_ rg out A c err bad) : g < w.heap.size := lt_of_blk h.blk
theorem Ref.later (h : Ref B w g s at_ rg out A c err bad) (hb : Below w.heap.size w w') : Ref B w' g s at_ rg out A c err bad :=
  ⟨h.base, (hb.block g h.lt).trans h.blk, h.own.kept ⟨hb.os, hb.tape, hb.output, hb.size, fun k hk _ => hb.block k hk⟩ (row := none) (by cases (Value.slice A out.length c).ownBlock <;> simp)⟩
theorem Ref.ne (h : Ref B w g s at_ rg out A c err bad) : (Value.slice A out.length c).ownBlock ≠ some g := by
  intro he
  rcases h.own.2 with ⟨h1, _⟩ | ⟨g', cap, cur, h1, _, hh, _⟩
  · rw [h1] at he; simp [Value.ownBlock] at he
  · rw [h1] at he
    have : g' = g := by simpa [Value.ownBlock] using he
    subst this
    rw [h.blk] at hh
    simp at hh
theorem Ref.setAt (h : Ref B w g s at_ rg out A c err bad) (x : Int) : Ref B (w.setCell ⟨g, 1, none⟩ (.int .i64 x)) g s x rg out A c err bad :=
  ⟨h.base, by rw [blk_setCell h.blk]; rfl, own_setCell h.own _ h.ne _⟩
theorem Ref.setRg (h : Ref B w g s at_ rg out A c err bad) (x : Int) : Ref B (w.setCell ⟨g, 2, none⟩ (.int .i64 x)) g s at_ x out A c err bad :=
  ⟨h.base, by rw [blk_setCell h.blk]; rfl, own_setCell h.own _ h.ne _⟩
theorem Ref.setErr (h : Ref B w g s at_ rg out A c err bad) (x y : Int) : Ref B ((w.setCell ⟨g, 4, none⟩ (.int .i64 x)).setCell ⟨g, 5, none⟩ (.int .i64 y)) g s at_ rg out A c x y :=
  ⟨h.base, by rw [blk_setCell (blk_setCell h.blk _ _) _ _]; rfl, own_setCell (own_setCell h.own _ h.ne _) _ h.ne _⟩
theorem Ref.added {w1 : World} (h : Ref B w g s at_ rg out A c err bad) {A' : Option Addr} {c' : Nat} {x : Sp.Sym} {to_ : Int}
    (hown : w1.ownsRow B 28 3 (.slice A' (out.length + 1) c') (out.length + 1) (out.flatMap Sp.cells ++ Sp.cells x)) (hgr : w.grownBy w1 (Value.slice A out.length c).ownBlock) :
    Ref B ((w1.setCell ⟨g, 3, none⟩ (.slice A' (out.length + 1) c')).setCell ⟨g, 1, none⟩ (.int .i64 to_)) g s to_ rg (out ++ [x]) A' c' err bad := by
  have k := (hgr.block g h.lt (Ne.symm h.ne)).trans h.blk
  have e : (out ++ [x]).flatMap Sp.cells = out.flatMap Sp.cells ++ Sp.cells x := by simp
  have hne : (Value.slice A' (out.length + 1) c').ownBlock ≠ some g := by
    intro he
    rcases hown.2 with ⟨h1, _⟩ | ⟨g', cap, cur, h1, _, hh, _⟩
    · rw [h1] at he; simp [Value.ownBlock] at he
    · rw [h1] at he
      have : g' = g := by simpa [Value.ownBlock] using he
      subst this
      rw [k] at hh
      simp at hh
  refine ⟨h.base, ?_, ?_⟩
  · rw [blk_setCell (blk_setCell k 3 _) 1 _]
    simp
  · rw [e, List.length_append, List.length_singleton]
    exact own_setCell (own_setCell hown _ hne _) _ hne _
end
theorem rfail_first (B g : Nat) (s : ByteArray) (at_ rg : Int) (out : List Sp.Sym) (A : Option Addr) (c : Nat) (bad code place : Int) (w : World) (H : Ref B w g s at_ rg out A c 0 bad) :
    Calls Tryz.prog 147 #[.pointer (some ⟨g, 0, none⟩), .int .i64 code, .int .i64 place] w fun e w' => e = .returned (.tuple #[]) ∧ Ref B w' g s at_ rg out A c code place ∧ Below B w w' := by
  obtain ⟨c0, c1, c2, c4, c5⟩ := H.R
  have f4 := free_of_blk H.blk 4
  have f5 := free_of_blk H.blk 5
  go_enter Tryz.func147, Tryz.ntmps147
  go_wp2
  go_end0
  exact ⟨rfl, H.setErr _ _, ((Below.refl B w).setCell H.base _).setCell H.base _⟩
theorem rfail_later (B g : Nat) (s : ByteArray) (at_ rg : Int) (out : List Sp.Sym) (A : Option Addr) (c : Nat) (err bad code place : Int) (he : err ≠ 0) (w : World) (H : Ref B w g s at_ rg out A c err bad) :
    Calls Tryz.prog 147 #[.pointer (some ⟨g, 0, none⟩), .int .i64 code, .int .i64 place] w fun e w' => e = .returned (.tuple #[]) ∧ w = w' := by
  obtain ⟨c0, c1, c2, c4, c5⟩ := H.R
  have e1 : (err == 0) = false := beq_eq_false_iff_ne.2 he
  go_enter Tryz.func147, Tryz.ntmps147
  go_wp2
  go_end0
  exact ⟨rfl, rfl⟩
set_option maxRecDepth 100000 in
theorem radd_c (B g : Nat) (s : ByteArray) (at_ rg : Int) (out : List Sp.Sym) (A : Option Addr) (c : Nat) (err bad : Int) (kind : Int) (text : ByteArray) (from_ to_ : Int) (w : World) (H : Ref B w g s at_ rg out A c err bad) (hl : out.length ≤ 1000000) :
    Calls Tryz.prog 151 #[.pointer (some ⟨g, 0, none⟩), .int .i64 kind, .string text, .int .i64 from_, .int .i64 to_] w fun e w' =>
      e = .returned (.tuple #[]) ∧ (∃ A' c', Ref B w' g s to_ rg (out ++ [⟨kind, bs text, from_⟩]) A' c' err bad) ∧ Below B w w' := by
  have H0 := H.R
  have h3 := H.c3
  have hg := H.lt
  obtain ⟨c0, c1, c2, c4, c5⟩ := H0
  go_enter Tryz.func151, Tryz.ntmps151
  go_wp2_with (at_builtin; refine append_lit B rfl _ _ 22 28 _ 3 32 rfl Tryz.underlying22 info_sym rfl (by decide) (by decide) A out.length c (out.flatMap Sp.cells) [.int .i64 kind, .string text, .int .i64 from_] rfl rfl rfl (by simp [Value.oneCell']) H.own (Nat.le_trans H.base (Nat.le_of_lt hg)) (by omega) ?_; intro A' c' w1 hown hgr hbel hat; have k := (hgr.block g hg (Ne.symm H.ne)).trans H.blk; have k3 := cell_of_blk k 3; have k1 := cell_of_blk k 1; have f3 := free_of_blk k 3; have f1 := free_of_blk k 1; clear k)
  go_end0
  refine ⟨rfl, ⟨A', c', H.added (x := ⟨kind, bs text, from_⟩) (by simpa [Sp.cells, of_bs] using hown) hgr⟩, (hbel.setCell H.base _).setCell H.base _⟩
end Go.Proofs.YtjghijeblddijaaGreatDoor
namespace Go.Proofs.YtjghijeblddijaaGreatDoor
open Go.RowKit
namespace Sp
/-- Digits, with what has been read already: 'd' up to 'n' bytes. -/
theorem spread_more (p : UInt8 → Bool) (c : UInt8) (t : List UInt8) (hp : p c = true) : spread p (c :: t) = (low c :: (spreadGo p t 0).1, 1 + (spreadGo p t 0).2) := spread_yes p c t hp
theorem spreadGo_at (p : UInt8 → Bool) (l : List UInt8) : (∃ c t, tl l = c :: t ∧ p c = true ∧ spreadGo p l 0 = (low c :: (spreadGo p t 0).1, bl l + 1 + (spreadGo p t 0).2)) ∨ ((∀ c t, tl l = c :: t → p c = false) ∧ spreadGo p l 0 = ([], 0)) := by
  cases ht : tl l with
  | nil => exact .inr ⟨fun c t e => (by cases e), by rw [spreadGo_tl, ht]⟩
  | cons c t =>
    cases hp : p c with
    | true =>
      refine .inl ⟨c, t, rfl, hp, ?_⟩
      rw [spreadGo_tl, ht]
      dsimp only
      rw [if_pos hp, Nat.zero_add]
    | false =>
      refine .inr ⟨fun d u e => by injection e with e _; rw [← e]; exact hp, ?_⟩
      rw [spreadGo_tl, ht]
      dsimp only
      rw [if_neg (by rw [hp]; decide)]
end Sp
/-- What stands at an index. -/
theorem drop_bat (s : ByteArray) (i : Nat) : (i < s.size ∧ (bs s).drop i = bat s i :: (bs s).drop (i + 1)) ∨ (s.size ≤ i ∧ (bs s).drop i = [] ∧ bat s i = 0) := by
  by_cases h : i < s.size
  · exact .inl ⟨h, by rw [bat_in s i h]; exact bs_drop s i h⟩
  · exact .inr ⟨by omega, bs_drop_end s i (by omega), by rw [bat_eq, List.getD_eq_getElem?_getD, List.getElem?_eq_none (by rw [bs_length]; omega)]; rfl⟩
theorem extract_bat (s : ByteArray) (i : Nat) (h : i < s.size) : s.extract i (i + 1) = ⟨[bat s i].toArray⟩ := by
  rw [extract_eq, show i + 1 - i = 1 from by omega, bs_drop s i h, bat_in s i h]; rfl
theorem digit_zero : Sp.digit 0 = false := by decide
def digE (s : ByteArray) (i : Nat) : Ending := .returned (.tuple #[.string ⟨(Sp.spread Sp.digit ((bs s).drop i)).1.toArray⟩, .int .i64 ((i + (Sp.spread Sp.digit ((bs s).drop i)).2 : Nat) : Int)])
/-- Behind the first digit: what stands there, as a list so far and the rest. -/
def DigRest (s : ByteArray) (i : Nat) (d : List UInt8) (to : Nat) : Prop :=
  (Sp.spread Sp.digit ((bs s).drop i)).1 = d ++ (Sp.spreadGo Sp.digit ((bs s).drop to) 0).1 ∧ i + (Sp.spread Sp.digit ((bs s).drop i)).2 = to + (Sp.spreadGo Sp.digit ((bs s).drop to) 0).2
set_option maxRecDepth 100000 in
set_option maxHeartbeats 8000000 in
theorem rdigits_c (g : Nat) (s : ByteArray) (at_ rg err bad : Int) (i : Nat) (hi : i ≤ s.size) (hs : s.size ≤ 140737488355328) (w : World) (H : RefR w g s at_ rg err bad) :
    Calls Tryz.prog 218 #[.pointer (some ⟨g, 0, none⟩), .int .i64 (i : Int)] w fun e w' => e = digE s i ∧ w = w' := by
  unfold digE
  obtain ⟨c0, c1, c2, c4, c5⟩ := H
  have H : RefR w g s at_ rg err bad := ⟨c0, c1, c2, c4, c5⟩
  go_enter Tryz.func218, Tryz.ntmps218
  go_wp2
  go_loop [6, 7] (fun d t => ∃ (to : Nat) (x : List UInt8), to ≤ s.size ∧ x.length ≤ to ∧ t = .int .i64 to ∧ d = .string ⟨x.toArray⟩ ∧ ((x = [] ∧ to = i) ∨ (x ≠ [] ∧ i < to ∧ Hid (DigRest s i x to)))) (fun _ t => s.size - (intOf t).toNat)
  case atStart => exact ⟨i, [], hi, by simp, rfl, rfl, .inl ⟨rfl, rfl⟩⟩
  case round =>
    obtain ⟨to, x, hto, hxl, rfl, rfl, hh⟩ := hrel
    have hbd := bl_bound s to hto
    rcases hh with ⟨rfl, rfl⟩ | ⟨hx, hlt, hh⟩
    · cases hd : Sp.digit (bat s to) with
      | true =>
        obtain ⟨hk, hdr⟩ | ⟨_, _, h0⟩ := drop_bat s to
        case inr => rw [h0] at hd; exact absurd hd (by decide)
        have hsp := Sp.spread_yes Sp.digit (bat s to) ((bs s).drop (to + 1)) hd
        have hlow := (Sp.digit_facts (bat s to) hd).2.1
        have hex := extract_bat s to hk
        have Hsp := Lib.hid hsp
        have Hdr := Lib.hid hdr
        have Hex := Lib.hid hex
        have Hlow := Lib.hid hlow
        clear hsp hdr hex hlow
        go_wp2_with (first
          | (go_at_call 219; refine (rbehind_c g s at_ rg err bad to hto (by unfold maxLen; omega) _ H).mono ?_; rintro e w' ⟨rfl, rfl⟩)
          | (go_at_call 153; refine (rat_c g s at_ rg err bad to _ H).mono ?_; rintro e w' ⟨rfl, rfl⟩)
          | (go_at_call 152; refine (rdigit_c _ _).mono ?_; rw [hd]; rintro e w' ⟨rfl, rfl⟩))
        go_round
        case rel =>
          refine ⟨to + 1, [bat s to], by omega, by simp, by go_num, ?_, .inr ⟨by simp, by omega, Lib.hid ⟨?_, ?_⟩⟩⟩
          · rw [Hex.out]; rfl
          · rw [Hdr.out, Hsp.out, Hlow.out]; rfl
          · rw [Hdr.out, Hsp.out]; dsimp only; omega
        case measure => simp [intOf]; omega
      | false =>
        have hfin : Sp.spread Sp.digit ((bs s).drop to) = ([], 0) := by
          obtain ⟨_, hdr⟩ | ⟨_, hdr, _⟩ := drop_bat s to
          · rw [hdr]; exact Sp.spread_not Sp.digit _ _ hd
          · rw [hdr]; rfl
        have Hfin := Lib.hid hfin
        clear hfin
        go_wp2_with (first
          | (go_at_call 219; refine (rbehind_c g s at_ rg err bad to hto (by unfold maxLen; omega) _ H).mono ?_; rintro e w' ⟨rfl, rfl⟩)
          | (go_at_call 153; refine (rat_c g s at_ rg err bad to _ H).mono ?_; rintro e w' ⟨rfl, rfl⟩)
          | (go_at_call 152; refine (rdigit_c _ _).mono ?_; rw [hd]; rintro e w' ⟨rfl, rfl⟩))
        go_ret2
        rw [Hfin.out]
        exact ⟨rfl, rfl⟩
    · have hat := Sp.spreadGo_at Sp.digit ((bs s).drop to)
      have htl : Sp.tl ((bs s).drop to) = (bs s).drop (to + Sp.bl ((bs s).drop to)) := by unfold Sp.tl; rw [List.drop_drop]
      rw [htl] at hat
      generalize hb : Sp.bl ((bs s).drop to) = b at *
      have hxe : x.isEmpty = false := by cases x <;> simp at hx ⊢
      have hxs : x.length + 1 ≤ 9223372036854775807 := by omega
      cases hd : Sp.digit (bat s (to + b)) with
      | true =>
        obtain ⟨hk, hdr⟩ | ⟨_, _, h0⟩ := drop_bat s (to + b)
        case inr => rw [h0] at hd; exact absurd hd (by decide)
        have hlow := (Sp.digit_facts (bat s (to + b)) hd).2.1
        have hat' : Sp.spreadGo Sp.digit ((bs s).drop to) 0 = (bat s (to + b) :: (Sp.spreadGo Sp.digit ((bs s).drop (to + b + 1)) 0).1, b + 1 + (Sp.spreadGo Sp.digit ((bs s).drop (to + b + 1)) 0).2) := by
          rcases hat with ⟨c, t, e1, e2, e3⟩ | ⟨h1, _⟩
          · rw [hdr] at e1
            injection e1 with e1 e4
            rw [e3, ← e1, ← e4, hlow]
          · exact absurd (h1 _ _ hdr) (by rw [hd]; decide)
        have hex := extract_bat s (to + b) hk
        have hcat := bcat x [bat s (to + b)]
        have Hat := Lib.hid hat'
        have Hex := Lib.hid hex
        have Hcat := Lib.hid hcat
        have Hb := Lib.hid hb
        clear hat hat' hdr hex hlow hcat hb htl
        go_wp2_with (first
          | (go_at_call 219; refine (rbehind_c g s at_ rg err bad to hto (by unfold maxLen; omega) _ H).mono ?_; rw [Hb.out]; rintro e w' ⟨rfl, rfl⟩)
          | (go_at_call 153; refine (rat_c g s at_ rg err bad (to + b) _ H).mono ?_; rintro e w' ⟨rfl, rfl⟩)
          | (go_at_call 152; refine (rdigit_c _ _).mono ?_; rw [hd]; rintro e w' ⟨rfl, rfl⟩))
        go_round
        case rel =>
          refine ⟨to + b + 1, x ++ [bat s (to + b)], by omega, by simp; omega, by go_num, ?_, .inr ⟨by simp, by omega, Lib.hid ⟨?_, ?_⟩⟩⟩
          · rw [Hex.out, Hcat.out]
          · rw [hh.out.1, Hat.out, List.append_assoc]; rfl
          · rw [hh.out.2, Hat.out]; dsimp only; omega
        case measure => simp [intOf]; omega
      | false =>
        have hat' : Sp.spreadGo Sp.digit ((bs s).drop to) 0 = ([], 0) := by
          rcases hat with ⟨c, t, e1, e2, e3⟩ | ⟨_, h2⟩
          · obtain ⟨_, hdr⟩ | ⟨_, hdr, _⟩ := drop_bat s (to + b)
            · rw [hdr] at e1
              injection e1 with e1 e4
              rw [e1, e2] at hd; cases hd
            · rw [hdr] at e1; cases e1
          · exact h2
        have Hat := Lib.hid hat'
        have Hb := Lib.hid hb
        clear hat hat' hb htl
        go_wp2_with (first
          | (go_at_call 219; refine (rbehind_c g s at_ rg err bad to hto (by unfold maxLen; omega) _ H).mono ?_; rw [Hb.out]; rintro e w' ⟨rfl, rfl⟩)
          | (go_at_call 153; refine (rat_c g s at_ rg err bad (to + b) _ H).mono ?_; rintro e w' ⟨rfl, rfl⟩)
          | (go_at_call 152; refine (rdigit_c _ _).mono ?_; rw [hd]; rintro e w' ⟨rfl, rfl⟩))
        go_ret2
        obtain ⟨e1, e2⟩ := hh.out
        rw [Hat.out] at e1 e2
        rw [e1, e2, List.append_nil, Nat.add_zero]
        exact ⟨rfl, rfl⟩
/-! the same at indexes that are spelled otherwise -/
theorem rbehind_i (n g : Nat) (s : ByteArray) (at_ rg err bad : Int) (i : Int) (hn : i = n) (hi : n ≤ s.size) (hs : s.size ≤ 140737488355328) (w : World) (H : RefR w g s at_ rg err bad) :
    Calls Tryz.prog 219 #[.pointer (some ⟨g, 0, none⟩), .int .i64 i] w fun e w' => e = .returned (.int .i64 ((n + Sp.bl ((bs s).drop n) : Nat) : Int)) ∧ w = w' := by
  subst hn; exact rbehind_c g s at_ rg err bad n hi (by unfold maxLen; omega) w H
theorem rat_i (n g : Nat) (s : ByteArray) (at_ rg err bad : Int) (i : Int) (hn : i = n) (w : World) (H : RefR w g s at_ rg err bad) :
    Calls Tryz.prog 153 #[.pointer (some ⟨g, 0, none⟩), .int .i64 i] w fun e w' => e = .returned (.int .u8 ((bat s n).toNat : Int)) ∧ w = w' := by
  subst hn; exact rat_c g s at_ rg err bad n w H
theorem rdigits_i (n g : Nat) (s : ByteArray) (at_ rg err bad : Int) (i : Int) (hn : i = n) (hi : n ≤ s.size) (hs : s.size ≤ 140737488355328) (w : World) (H : RefR w g s at_ rg err bad) :
    Calls Tryz.prog 218 #[.pointer (some ⟨g, 0, none⟩), .int .i64 i] w fun e w' => e = digE s n ∧ w = w' := by
  subst hn; exact rdigits_c g s at_ rg err bad n hi hs w H
theorem getD_bat (s : ByteArray) (i n : Nat) : ((bs s).drop i).getD n 0 = bat s (i + n) := by
  rw [bat_eq, List.getD_eq_getElem?_getD, List.getD_eq_getElem?_getD, List.getElem?_drop]
end Go.Proofs.YtjghijeblddijaaGreatDoor
namespace Go.Proofs.YtjghijeblddijaaGreatDoor
open Go.RowKit
theorem low_ne (c : UInt8) (h : Sp.low c ≠ 101) : (((Sp.low c).toNat : Int) != 101) = true := by
  rw [bne_iff_ne]; intro h'; exact h ((u8eq _ 101 101 rfl).2 h')
theorem u8z (c d : UInt8) (z : Int) (hd : (d.toNat : Int) = z) : c = d ↔ (c.toNat : Int) = z := by
  rw [← hd, ← UInt8.toNat_inj]; omega
theorem byte_is (c d : UInt8) (z : Int) (hd : (d.toNat : Int) = z) (h : c = d) : ((c.toNat : Int) == z) = true := by
  rw [beq_iff_eq]; exact (u8z c d z hd).1 h
theorem byte_isnt (c d : UInt8) (z : Int) (hd : (d.toNat : Int) = z) (h : c ≠ d) : ((c.toNat : Int) == z) = false := by
  rw [beq_eq_false_iff_ne]; intro h'; exact h ((u8z c d z hd).2 h')
theorem byte_ne (c d : UInt8) (z : Int) (hd : (d.toNat : Int) = z) (h : c ≠ d) : ((c.toNat : Int) != z) = true := by
  rw [bne_iff_ne]; intro h'; exact h ((u8z c d z hd).2 h')
theorem byte_nn (c d : UInt8) (z : Int) (hd : (d.toNat : Int) = z) (h : c = d) : ((c.toNat : Int) != z) = false := by
  rw [bne_eq_false_iff_eq]; exact (u8z c d z hd).1 h
theorem bat_lt (s : ByteArray) (i : Nat) (h : bat s i ≠ 0) : i < s.size := by
  rcases drop_bat s i with ⟨h1, _⟩ | ⟨_, _, h2⟩
  · exact h1
  · exact absurd h2 h
theorem letter_zero (r : Nat) : Sp.letter r 0 = false := by simp [Sp.letter, Sp.small, Sp.capital]
theorem rexp_none (g : Nat) (s : ByteArray) (at_ rg err bad : Int) (h0 : 0 ≤ rg) (i b : Nat) (hi : i ≤ s.size) (hs : s.size ≤ 140737488355328) (w : World) (H : RefR w g s at_ rg err bad) (hb : Sp.bl ((bs s).drop i) = b)
    (hh : (Sp.letter rg.toNat (bat s (i + b)) && Sp.low (bat s (i + b)) == 101) = false) :
    Calls Tryz.prog 222 #[.pointer (some ⟨g, 0, none⟩), .int .i64 (i : Int)] w fun e w' => e = expE (Sp.exponent rg.toNat ((bs s).drop i)) i ∧ w = w' := by
  have R := H
  obtain ⟨c0, c1, c2, c4, c5⟩ := H
  have hfin := exponent_no rg.toNat s i b hb (by rw [← bat_eq]; exact hh)
  have Hb := Lib.hid hb
  have Hfin := Lib.hid hfin
  clear hb hfin
  by_cases h1 : Sp.low (bat s (i + b)) = 101
  · have hl : Sp.letter rg.toNat (bat s (i + b)) = false := by rw [h1] at hh; simpa using hh
    have e1 : (((Sp.low (bat s (i + b))).toNat : Int) != 101) = false := byte_nn _ 101 101 rfl h1
    clear hh h1
    go_enter Tryz.func222, Tryz.ntmps222
    go_wp2_with (first
      | (go_at_call 219; refine (rbehind_i i g s at_ rg err bad _ (by omega) hi hs _ R).mono ?_; rw [Hb.out]; rintro e w' ⟨rfl, rfl⟩)
      | (go_at_call 153; refine (rat_i (i + b) g s at_ rg err bad _ (by omega) _ R).mono ?_; rintro e w' ⟨rfl, rfl⟩)
      | (go_at_call 128; refine (rlower_c _ _).mono ?_; rintro e w' ⟨rfl, rfl⟩)
      | (go_at_call 155; refine (rletter_c g s at_ rg err bad h0 _ _ R).mono ?_; rw [hl]; rintro e w' ⟨rfl, rfl⟩))
    go_ret2
    rw [Hfin.out]
    exact ⟨rfl, rfl⟩
  · have e1 := low_ne _ h1
    clear hh h1
    go_enter Tryz.func222, Tryz.ntmps222
    go_wp2_with (first
      | (go_at_call 219; refine (rbehind_i i g s at_ rg err bad _ (by omega) hi hs _ R).mono ?_; rw [Hb.out]; rintro e w' ⟨rfl, rfl⟩)
      | (go_at_call 153; refine (rat_i (i + b) g s at_ rg err bad _ (by omega) _ R).mono ?_; rintro e w' ⟨rfl, rfl⟩)
      | (go_at_call 128; refine (rlower_c _ _).mono ?_; rintro e w' ⟨rfl, rfl⟩))
    go_ret2
    rw [Hfin.out]
    exact ⟨rfl, rfl⟩
set_option maxRecDepth 100000 in
set_option maxHeartbeats 4000000 in
theorem rexp_yes (g : Nat) (s : ByteArray) (at_ rg err bad : Int) (h0 : 0 ≤ rg) (i b k2 : Nat) (hi : i ≤ s.size) (hs : s.size ≤ 140737488355328) (w : World) (H : RefR w g s at_ rg err bad) (hb : Sp.bl ((bs s).drop i) = b)
    (hl : Sp.letter rg.toNat (bat s (i + b)) = true) (h1 : Sp.low (bat s (i + b)) = 101) (hk2 : Sp.bl ((bs s).drop (i + b + 1)) = k2) :
    Calls Tryz.prog 222 #[.pointer (some ⟨g, 0, none⟩), .int .i64 (i : Int)] w fun e w' => e = expE (Sp.exponent rg.toNat ((bs s).drop i)) i ∧ w = w' := by
  have R := H
  obtain ⟨c0, c1, c2, c4, c5⟩ := H
  have hh : (Sp.letter rg.toNat ((bs s).getD (i + b) 0) && Sp.low ((bs s).getD (i + b) 0) == 101) = true := by rw [← bat_eq, hl, h1]; rfl
  have hlt : i + b < s.size := bat_lt s _ (by intro h; rw [h, letter_zero] at hl; cases hl)
  have e1 : (((Sp.low (bat s (i + b))).toNat : Int) != 101) = false := byte_nn _ 101 101 rfl h1
  have hp2 := bl_bound s (i + b + 1) (by omega)
  rw [hk2] at hp2
  have Hb := Lib.hid hb
  have Hk2 := Lib.hid hk2
  by_cases hg : bat s (i + b + 1 + k2) = 43 ∨ bat s (i + b + 1 + k2) = 45
  · have hlt2 : i + b + 1 + k2 < s.size := bat_lt s _ (by intro h; rw [h] at hg; revert hg; decide)
    have hp3 := bl_bound s (i + b + 1 + k2 + 1) (by omega)
    generalize hk3 : Sp.bl ((bs s).drop (i + b + 1 + k2 + 1)) = k3 at hp3
    have hle := Sp.spread_le Sp.digit ((bs s).drop (i + b + 1 + k2 + 1 + k3))
    rw [List.length_drop, bs_length] at hle
    generalize hx : Sp.spread Sp.digit ((bs s).drop (i + b + 1 + k2 + 1 + k3)) = x at hle
    have hfin := exponent_sign rg.toNat s i b k2 k3 x hb hh hk2 (by rw [← bat_eq]; exact hg) hk3 hx
    rw [← bat_eq] at hfin
    have hsl := extract_bat s (i + b + 1 + k2) hlt2
    have Hk3 := Lib.hid hk3
    have Hx := Lib.hid hx
    have Hfin := Lib.hid hfin
    have Hsl := Lib.hid hsl
    have hgd : (((bat s (i + b + 1 + k2)).toNat : Int) == 43) = true ∨ ((((bat s (i + b + 1 + k2)).toNat : Int) == 43) = false ∧ (((bat s (i + b + 1 + k2)).toNat : Int) == 45) = true) := by
      rcases hg with hg | hg
      · exact .inl (by rw [hg]; rfl)
      · exact .inr ⟨by rw [hg]; rfl, by rw [hg]; rfl⟩
    clear hb hk2 hk3 hx hfin hh hsl hg h1
    rcases hgd with e2 | ⟨e2, e3⟩
    all_goals
      go_enter Tryz.func222, Tryz.ntmps222
      go_wp2_with (first
        | (go_at_call 219; first
            | (refine (rbehind_i i g s at_ rg err bad _ (by omega) hi hs _ R).mono ?_; rw [Hb.out]; rintro e w' ⟨rfl, rfl⟩)
            | (refine (rbehind_i (i + b + 1) g s at_ rg err bad _ (by omega) (by omega) hs _ R).mono ?_; rw [Hk2.out]; rintro e w' ⟨rfl, rfl⟩)
            | (refine (rbehind_i (i + b + 1 + k2 + 1) g s at_ rg err bad _ (by omega) (by omega) hs _ R).mono ?_; rw [Hk3.out]; rintro e w' ⟨rfl, rfl⟩))
        | (go_at_call 153; first | (refine (rat_i (i + b) g s at_ rg err bad _ (by omega) _ R).mono ?_; rintro e w' ⟨rfl, rfl⟩) | (refine (rat_i (i + b + 1 + k2) g s at_ rg err bad _ (by omega) _ R).mono ?_; rintro e w' ⟨rfl, rfl⟩))
        | (go_at_call 128; refine (rlower_c _ _).mono ?_; rintro e w' ⟨rfl, rfl⟩)
        | (go_at_call 155; refine (rletter_c g s at_ rg err bad h0 _ _ R).mono ?_; rw [hl]; rintro e w' ⟨rfl, rfl⟩)
        | (go_at_call 218; refine (rdigits_i (i + b + 1 + k2 + 1 + k3) g s at_ rg err bad _ (by omega) (by omega) hs _ R).mono ?_; unfold digE; rw [Hx.out]; rintro e w' ⟨rfl, rfl⟩))
      · have h : x.1.isEmpty = true := by assumption
        go_ret2
        rw [Hfin.out, if_pos (by simpa using h)]
        exact ⟨rfl, rfl⟩
      · have h : x.1.isEmpty = false := by assumption
        go_ret2
        rw [Hfin.out, if_neg (by intro h'; rw [h'] at h; cases h)]
        refine ⟨?_, rfl⟩
        have e5 : (⟨#[101]⟩ : ByteArray) ++ s.extract (i + b + 1 + k2) (i + b + 1 + k2 + 1) ++ ⟨x.1.toArray⟩ = ⟨(101 :: bat s (i + b + 1 + k2) :: x.1).toArray⟩ := by
          rw [Hsl.out]
          exact (congrArg (· ++ (⟨x.1.toArray⟩ : ByteArray)) (bcat [101] [bat s (i + b + 1 + k2)])).trans (bcat _ _)
        have e6 : ((i + (b + 1 + k2 + 1 + k3 + x.2) : Nat) : Int) = (i : Int) + b + 1 + k2 + 1 + k3 + x.2 := by omega
        unfold expE
        rw [e6, ← e5]; rfl
  · have hle := Sp.spread_le Sp.digit ((bs s).drop (i + b + 1 + k2))
    rw [List.length_drop, bs_length] at hle
    generalize hx : Sp.spread Sp.digit ((bs s).drop (i + b + 1 + k2)) = x at hle
    have hfin := exponent_bare rg.toNat s i b k2 x hb hh hk2 (by rw [← bat_eq]; exact hg) hx
    rw [not_or] at hg
    have e2 := byte_isnt _ 43 43 rfl hg.1
    have e3 := byte_isnt _ 45 45 rfl hg.2
    have Hx := Lib.hid hx
    have Hfin := Lib.hid hfin
    clear hb hk2 hx hfin hh hg h1
    go_enter Tryz.func222, Tryz.ntmps222
    go_wp2_with (first
      | (go_at_call 219; first
          | (refine (rbehind_i i g s at_ rg err bad _ (by omega) hi hs _ R).mono ?_; rw [Hb.out]; rintro e w' ⟨rfl, rfl⟩)
          | (refine (rbehind_i (i + b + 1) g s at_ rg err bad _ (by omega) (by omega) hs _ R).mono ?_; rw [Hk2.out]; rintro e w' ⟨rfl, rfl⟩))
      | (go_at_call 153; first | (refine (rat_i (i + b) g s at_ rg err bad _ (by omega) _ R).mono ?_; rintro e w' ⟨rfl, rfl⟩) | (refine (rat_i (i + b + 1 + k2) g s at_ rg err bad _ (by omega) _ R).mono ?_; rintro e w' ⟨rfl, rfl⟩))
      | (go_at_call 128; refine (rlower_c _ _).mono ?_; rintro e w' ⟨rfl, rfl⟩)
      | (go_at_call 155; refine (rletter_c g s at_ rg err bad h0 _ _ R).mono ?_; rw [hl]; rintro e w' ⟨rfl, rfl⟩)
      | (go_at_call 218; refine (rdigits_i (i + b + 1 + k2) g s at_ rg err bad _ (by omega) (by omega) hs _ R).mono ?_; unfold digE; rw [Hx.out]; rintro e w' ⟨rfl, rfl⟩))
    · have h : x.1.isEmpty = true := by assumption
      go_ret2
      rw [Hfin.out, if_pos (by simpa using h)]
      exact ⟨rfl, rfl⟩
    · have h : x.1.isEmpty = false := by assumption
      go_ret2
      rw [Hfin.out, if_neg (by intro h'; rw [h'] at h; cases h)]
      refine ⟨?_, rfl⟩
      have e5 : (⟨#[101]⟩ : ByteArray) ++ ⟨#[]⟩ ++ ⟨x.1.toArray⟩ = ⟨(101 :: x.1).toArray⟩ := by
        exact (congrArg (· ++ (⟨x.1.toArray⟩ : ByteArray)) (bcat [101] [])).trans (bcat _ _)
      have e6 : ((i + (b + 1 + k2 + x.2) : Nat) : Int) = (i : Int) + b + 1 + k2 + x.2 := by omega
      unfold expE
      rw [e6, ← e5]; rfl
theorem rexponent_c (g : Nat) (s : ByteArray) (at_ rg err bad : Int) (h0 : 0 ≤ rg) (i : Nat) (hi : i ≤ s.size) (hs : s.size ≤ 140737488355328) (w : World) (H : RefR w g s at_ rg err bad) :
    Calls Tryz.prog 222 #[.pointer (some ⟨g, 0, none⟩), .int .i64 (i : Int)] w fun e w' => e = expE (Sp.exponent rg.toNat ((bs s).drop i)) i ∧ w = w' := by
  cases h : (Sp.letter rg.toNat (bat s (i + Sp.bl ((bs s).drop i))) && Sp.low (bat s (i + Sp.bl ((bs s).drop i))) == 101) with
  | false => exact rexp_none g s at_ rg err bad h0 i _ hi hs w H rfl h
  | true =>
    rw [Bool.and_eq_true] at h
    exact rexp_yes g s at_ rg err bad h0 i _ _ hi hs w H rfl h.1 (by simpa using h.2) rfl
/-- What a step of the reference leaves. -/
def RPost (B : Nat) (w : World) (g : Nat) (s : ByteArray) (i : Nat) (rg bad : Int) (out : List Sp.Sym) : Sp.Step → Ending → World → Prop
  | .sym k t n, e, w' => e = .returned (.tuple #[]) ∧ (∃ A c, Ref B w' g s ((i + n : Nat) : Int) rg (out ++ [⟨k, t, (i : Int)⟩]) A c 0 bad) ∧ Below B w w'
  | .skip n r, e, w' => e = .returned (.tuple #[]) ∧ (∃ A c, Ref B w' g s ((i + n : Nat) : Int) (r : Int) out A c 0 bad) ∧ Below B w w'
  | .fault o c, e, w' => e = .returned (.tuple #[]) ∧ (∃ at' rg' out' A' c', Ref B w' g s at' rg' out' A' c' c ((i + o : Nat) : Int)) ∧ Below B w w'
end Go.Proofs.YtjghijeblddijaaGreatDoor
