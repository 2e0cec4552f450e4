/- Walks of the reference of chapter 04: bits. Printed by wip/tools/bitsG.py. Walks of the reference of chapter 04: number. Walks of the reference of chapter 04: number. -/
import Derived.Test.YtjghijeblddijaaGreatDoorRefWalkE
import Derived.Deep.Cut
import Derived.Test.YtjghijeblddijaaGreatDoorStropWalkP
namespace Go.Proofs.YtjghijeblddijaaGreatDoor
open Go.RowKit
namespace Sp
theorem hex_yes (r : Nat) (c : UInt8) (h : hexish r c = true) : rhex (low c) = (hexval (low c) : Int) ∧ (digit c = true ∨ letter r c = true) := by
  unfold hexish at h
  rw [Bool.or_eq_true, Bool.and_eq_true, decide_eq_true_eq] at h
  rcases h with h | ⟨h1, h2⟩
  · have hl : low c = c := (digit_facts c h).2.1
    refine ⟨?_, .inl h⟩
    rw [hl]
    unfold rhex hexval
    rw [if_pos h, if_pos h]
    rw [digit_iff] at h
    have : (48 : UInt8).toNat = 48 := rfl
    rw [UInt8.toNat_sub_of_le c 48 (by rw [UInt8.le_iff_toNat_le, this]; omega), this]
    omega
  · refine ⟨?_, .inr h1⟩
    have hs : 97 ≤ ((low c).toNat : Int) := by
      simp only [letter, Bool.or_eq_true, Bool.and_eq_true] at h1
      rw [low_int]
      rcases h1 with h1 | ⟨_, h1⟩
      · rw [small_iff] at h1; split <;> omega
      · rw [if_pos h1]; rw [capital_iff] at h1; omega
    have h102 : (102 : UInt8).toNat = 102 := rfl
    rw [UInt8.le_iff_toNat_le, h102] at h2
    generalize low c = e at hs h2
    have hd : ¬ digit e = true := by rw [digit_iff]; omega
    unfold rhex hexval
    rw [if_neg hd, if_pos ⟨hs, by omega⟩, if_neg hd]
    have : (97 : UInt8).toNat = 97 := rfl
    rw [UInt8.toNat_sub_of_le e 97 (by rw [UInt8.le_iff_toNat_le, this]; omega), this]
    omega
theorem hex_no (r : Nat) (c : UInt8) (h : hexish r c = false) : rhex (low c) < 0 ∨ (0 ≤ rhex (low c) ∧ digit c = false ∧ letter r c = false) := by
  unfold hexish at h
  rw [Bool.or_eq_false_iff, Bool.and_eq_false_iff, decide_eq_false_iff_not] at h
  obtain ⟨h1, h2⟩ := h
  by_cases h0 : rhex (low c) < 0
  · exact .inl h0
  · refine .inr ⟨by omega, h1, ?_⟩
    rcases h2 with h2 | h2
    · exact h2
    · have h102 : (102 : UInt8).toNat = 102 := rfl
      rw [UInt8.le_iff_toNat_le, h102] at h2
      refine absurd ?_ h0
      unfold rhex
      have hnd : ¬ digit (low c) = true := by rw [digit_iff]; omega
      rw [if_neg hnd, if_neg (by omega)]
      decide
theorem hexish_zero (r : Nat) : hexish r 0 = false := by simp [hexish, digit, letter, small, capital]
theorem hexish_blank (r : Nat) (c : UInt8) (h : hexish r c = true) : blank c = false := by
  rcases (hex_yes r c h).2 with h | h
  · exact head_letter r c (by rw [h]; cases letter r c <;> rfl)
  · exact head_letter r c (by rw [h]; rfl)
theorem right_snoc (d x : List UInt8) (c : UInt8) (n : Int) (h : n = (hexval c : Int)) : (!(rightBits d (x ++ [c]))) = (!(rightBits d x) || decide ((radixOf d : Int) ≤ n)) := by
  subst h
  unfold rightBits
  rw [List.all_append, List.all_cons, List.all_nil, Bool.and_true]
  by_cases h : hexval c < radixOf d
  · rw [decide_eq_true h, decide_eq_false (show ¬ (radixOf d : Int) ≤ (hexval c : Int) from by omega)]; simp
  · rw [decide_eq_false h, decide_eq_true (show (radixOf d : Int) ≤ (hexval c : Int) from by omega)]; simp
/-- A number's value. -/
def decval (l : List UInt8) : Int := l.foldl (fun n c => 10 * n + ((c.toNat : Int) - 48)) 0
theorem decval_snoc (l : List UInt8) (c : UInt8) : decval (l ++ [c]) = 10 * decval l + ((c.toNat : Int) - 48) := by unfold decval; rw [List.foldl_append]; rfl
theorem radOf_cases (d : List UInt8) (h : radixOf d ≠ 0) : (d == [50]) = true ∨ ((d == [50]) = false ∧ (d == [52]) = true) ∨ ((d == [50]) = false ∧ (d == [52]) = false ∧ (d == [56]) = true) ∨ ((d == [50]) = false ∧ (d == [52]) = false ∧ (d == [56]) = false ∧ (d == [49, 54]) = true) := by
  unfold radixOf at h
  by_cases h1 : d = [50]
  · subst h1; exact .inl rfl
  · by_cases h2 : d = [52]
    · subst h2; exact .inr (.inl ⟨rfl, rfl⟩)
    · by_cases h3 : d = [56]
      · subst h3; exact .inr (.inr (.inl ⟨rfl, rfl, rfl⟩))
      · by_cases h4 : d = [49, 54]
        · subst h4; exact .inr (.inr (.inr ⟨rfl, rfl, rfl, rfl⟩))
        · rw [if_neg h1, if_neg h2, if_neg h3, if_neg h4] at h; exact absurd rfl h
theorem radOf_none (d : List UInt8) (h : radixOf d = 0) : (d == [50]) = false ∧ (d == [52]) = false ∧ (d == [56]) = false ∧ (d == [49, 54]) = false := by
  have key : ∀ l : List UInt8, radixOf l ≠ 0 → d ≠ l := fun l hl e => hl (e ▸ h)
  exact ⟨beq_eq_false_iff_ne.2 (key _ (by decide)), beq_eq_false_iff_ne.2 (key _ (by decide)), beq_eq_false_iff_ne.2 (key _ (by decide)), beq_eq_false_iff_ne.2 (key _ (by decide))⟩
theorem radOf_val (d : List UInt8) (h : radixOf d ≠ 0) : decval d = radixOf d ∧ d.length ≤ 2 ∧ (∀ c ∈ d, digit c = true) := by
  rcases radOf_cases d h with h1 | ⟨_, h1⟩ | ⟨_, _, h1⟩ | ⟨_, _, _, h1⟩ <;> (rw [beq_iff_eq] at h1; subst h1; exact ⟨by decide, by decide, by decide⟩)
theorem rsize_count (l : List UInt8) (h : ∀ c ∈ l, low c = c) : rsize l = count l := by
  unfold rsize count
  congr 1
  refine List.filter_congr fun c hc => ?_
  rw [h c hc]
theorem low_low (c : UInt8) : low (low c) = low c := by
  have h1 := low_int c
  have h2 := capital_iff (low c)
  have h3 := capital_iff c
  have : ¬ capital (low c) = true := by
    rw [h2, h1]
    split
    · rename_i h; rw [h3] at h; omega
    · rename_i h; rw [h3] at h; omega
  generalize low c = e at this
  unfold low
  rw [if_neg this]
end Sp
/-- What bits come to, with the digits of the radix read, from m on. -/
def bitsStep (r : Nat) (s : ByteArray) (d : List UInt8) (from_ m : Nat) : Sp.Step :=
  if 100 < Sp.count (d ++ 114 :: (Sp.spread (Sp.hexish r) ((bs s).drop m)).1) then .fault 0 3
  else if Sp.rightBits d (Sp.spread (Sp.hexish r) ((bs s).drop m)).1 then .sym 5 (d ++ 114 :: (Sp.spread (Sp.hexish r) ((bs s).drop m)).1) (m + (Sp.spread (Sp.hexish r) ((bs s).drop m)).2 - from_)
  else .fault 0 11
theorem not_false {b : Bool} (h : false = !b) : b = true := by cases b <;> simp_all
theorem not_true {b : Bool} (h : true = !b) : ¬ b = true := by cases b <;> simp_all
theorem rsize_i (t : List UInt8) (text : ByteArray) (ht : text = ⟨t.toArray⟩) (hs : t.length ≤ 140737488355328) (w : World) :
    Calls Tryz.prog 223 #[.string text] w fun e w' => e = .returned (.int .i64 (Sp.rsize t : Int)) ∧ w = w' := by
  subst ht; exact rsize_c _ (by rw [size_of]; exact hs) w
theorem radd_l (t : List UInt8) (n : Nat) (B g : Nat) (s : ByteArray) (i : Nat) (rg : Int) (out : List Sp.Sym) (A : Option Addr) (c : Nat) (err bad : Int) (kind : Int) (text : ByteArray) (ht : text = ⟨t.toArray⟩) (to_ : Int) (hn : to_ = (n : Int)) (w : World) (H : Ref B w g s (i : Int) rg out A c err bad) (hl : out.length ≤ 1000000) :
    Calls Tryz.prog 151 #[.pointer (some ⟨g, 0, none⟩), .int .i64 kind, .string text, .int .i64 (i : Int), .int .i64 to_] w fun e w' =>
      e = .returned (.tuple #[]) ∧ (∃ A' c', Ref B w' g s (n : Int) rg (out ++ [⟨kind, t, (i : Int)⟩]) A' c' err bad) ∧ Below B w w' := by
  subst ht; subst hn
  exact (radd_c B g s i rg out A c err bad kind _ _ _ w H hl).mono fun e w' h => by simpa [bs_of] using h
set_option maxRecDepth 100000 in
set_option maxHeartbeats 8000000 in
theorem rbits_c (B g : Nat) (s : ByteArray) (from_ : Nat) (rg bad : Int) (hr : 0 ≤ rg) (out : List Sp.Sym) (A : Option Addr) (c : Nat) (d : List UInt8) (m : Nat) (W : World) (H : Ref B W g s from_ rg out A c 0 bad) (hs : s.size ≤ 1000000000) (hl : out.length ≤ 1000000)
    (hd : ∀ c ∈ d, Sp.low c = c) (hdl : d.length ≤ s.size) (hm : m < s.size) (hfm : from_ ≤ m) (hx : Sp.hexish rg.toNat (bat s m) = true) :
    Calls Tryz.prog 221 #[.pointer (some ⟨g, 0, none⟩), .string ⟨d.toArray⟩, .int .i64 (from_ : Int), .int .i64 (m : Int)] W (RPost B W g s from_ rg bad out (bitsStep rg.toNat s d from_ m)) := by
  have hBw : B ≤ W.heap.size := Nat.le_trans H.base (Nat.le_of_lt H.lt)
  have hstart := Lib.hid (SprRest.start (p := Sp.hexish rg.toNat) hm hx (Sp.hexish_blank _ _ hx))
  have hcat0 := Lib.hid (bcat d [114])
  have Hd := Lib.hid hd
  clear hx hd
  obtain ⟨c0, c1, c2, c4, c5⟩ := H.R
  have hbd : Hid (decide (Sp.radixOf d = 0) = !(Sp.rightBits d [])) := Lib.hid (by unfold Sp.rightBits; by_cases h : Sp.radixOf d = 0 <;> simp [h])
  generalize hBD : decide (Sp.radixOf d = 0) = bd0 at hbd
  have HBD := Lib.hid hBD
  clear hBD
  go_enter Tryz.func221, Tryz.ntmps221
  go_upto_region 1 with fail
  go_cut [10] from 12 (fun b wx => b = .bool bd0 ∧ W = wx)
  case first =>
    by_cases hrad : Sp.radixOf d = 0
    · obtain ⟨e1, e2, e3, e4⟩ := Sp.radOf_none d hrad
      have hb1 : true = bd0 := by rw [← HBD.out, decide_eq_true hrad]
      have Hb1 := Lib.hid hb1
      clear hrad hb1
      go_wp2
      go_meet
      exact ⟨congrArg Value.bool Hb1.out, rfl⟩
    · have hb1 : false = bd0 := by rw [← HBD.out, decide_eq_false hrad]
      have hcs := Sp.radOf_cases d hrad
      have Hb1 := Lib.hid hb1
      clear hrad hb1
      rcases hcs with e1 | ⟨e1, e2⟩ | ⟨e1, e2, e3⟩ | ⟨e1, e2, e3, e4⟩
      all_goals
        go_wp2
        go_meet
        exact ⟨congrArg Value.bool Hb1.out, rfl⟩
  case rest =>
    obtain ⟨rfl, rfl⟩ := hcut
    generalize hZ : (Sp.radixOf d : Int) = Z
    have HZ := Lib.hid hZ
    clear hZ
    go_upto_if 34 with fail
    go_cut [11] from 12 (fun v wx => v = .int .i64 Z ∧ W = wx)
    case first =>
      by_cases hrad : Sp.radixOf d = 0
      · obtain rfl : bd0 = true := by rw [← HBD.out, decide_eq_true hrad]
        have hz0 : (0 : Int) = Z := by rw [← HZ.out, hrad]; rfl
        have Hz0 := Lib.hid hz0
        clear hrad hz0
        go_wp2
        go_meet
        exact ⟨congrArg (Value.int .i64) Hz0.out, rfl⟩
      · obtain rfl : bd0 = false := by rw [← HBD.out, decide_eq_false hrad]
        obtain ⟨hv, hv2, hv3⟩ := Sp.radOf_val d hrad
        have Hv := Lib.hid hv
        have Hv3 := Lib.hid hv3
        clear hv hv3 hrad
        go_wp2
        go_loop [11, 12] (fun v t => ∃ (k : Nat) (n : Int), k ≤ d.length ∧ t = .int .i64 k ∧ v = .int .i64 n ∧ ((k = 0 ∧ n = 0) ∨ (k = 1 ∧ 0 ≤ n ∧ n ≤ 9) ∨ (k = 2 ∧ 0 ≤ n ∧ n ≤ 99)) ∧ Hid (n = Sp.decval (d.take k))) (fun _ t => d.length - (intOf t).toNat)
        case atStart => exact ⟨0, 0, by omega, rfl, rfl, .inl ⟨rfl, rfl⟩, Lib.hid rfl⟩
        case round =>
          obtain ⟨k, n, hk, rfl, rfl, hkn, hh⟩ := hrel
          by_cases hlt : k < d.length
          · have hdk := Hv3.out d[k] (List.getElem_mem _)
            rw [Sp.digit_iff] at hdk
            have hsn := Lib.hid (Sp.decval_snoc (d.take k) d[k])
            have htk := Lib.hid (List.take_append_getElem hlt)
            have hke : ((⟨d.toArray⟩ : ByteArray)[k]'(by rw [size_of]; exact hlt)) = d[k] := rfl
            go_wp2
            go_round
            case rel => exact ⟨k + 1, 10 * n + ((d[k].toNat : Int) - 48), by omega, by go_num, by go_num, by omega, Lib.hid (by rw [← htk.out, hsn.out, ← hh.out])⟩
            case measure => simp [intOf]; omega
          · have hval : Hid (n = Z) := Lib.hid (by
              have h := hh.out
              rw [List.take_of_length_le (by omega), Hv.out, HZ.out] at h
              exact h)
            have hn : 0 ≤ n ∧ n ≤ 99 := by omega
            clear hh hkn
            go_wp2
            go_meet
            exact ⟨congrArg (Value.int .i64) hval.out, rfl⟩
    case rest =>
      obtain ⟨rfl, rfl⟩ := hcut
      have hval : Hid (Z = (Sp.radixOf d : Int)) := Lib.hid HZ.out.symm
      go_wp2
      have hbd0 := hbd
      go_loopw [8, 9, 10, 13, 14, 15] (fun o t b _ _ _ wr => ∃ (to : Nat) (x : List UInt8) (bd : Bool), to ≤ s.size ∧ x.length ≤ to ∧ t = .int .i64 to ∧ o = .string ⟨(d ++ 114 :: x).toArray⟩ ∧ b = .bool bd ∧ Below W.heap.size W wr ∧ Hid ((∀ c ∈ x, Sp.low c = c) ∧ (bd = !(Sp.rightBits d x)) ∧ SprRest (Sp.hexish rg.toNat) s m x to)) (fun _ t _ _ _ _ _ => s.size - (intOf t).toNat)
      case atStart => exact ⟨m, [], _, by omega, by simp, rfl, by rw [← hcat0.out], rfl, Below.refl _ _, Lib.hid ⟨by simp, hbd0.out, hstart.out⟩⟩
      case round =>
        obtain ⟨to, x, bd, hto, hxl, rfl, rfl, rfl, hB, hh⟩ := hrel
        have H2 := H.later hB
        have R2 := H2.R
        clear c0 c1 c2 c4 c5
        obtain ⟨c0, c1, c2, c4, c5⟩ := H2.R
        have hbl := bl_bound s to hto
        generalize hb : Sp.bl ((bs s).drop to) = b at hbl
        have Hb := Lib.hid hb
        clear hb
        have hxs : d.length + (x.length + 1) + 1 ≤ 9223372036854775807 := by omega
        cases hhx : Sp.hexish rg.toNat (bat s (to + b)) with
        | true =>
          have hlt : to + b < s.size := bat_lt s _ (by intro h0; rw [h0, Sp.hexish_zero] at hhx; cases hhx)
          obtain ⟨hv1, hv2⟩ := Sp.hex_yes _ _ hhx
          have hstep := Lib.hid (hh.out.2.2.step Hb.out hlt hhx)
          have hcat := Lib.hid (bcat (d ++ 114 :: x) [Sp.low (bat s (to + b))])
          have hcv := one_byte wr _ (Sp.low (bat s (to + b))) rfl
          have hrs := Lib.hid (Sp.right_snoc d x (Sp.low (bat s (to + b))) _ hv1)
          have hge : ¬ Sp.rhex (Sp.low (bat s (to + b))) < 0 := by omega
          have hcase : Sp.digit (bat s (to + b)) = true ∨ (Sp.digit (bat s (to + b)) = false ∧ Sp.letter rg.toNat (bat s (to + b)) = true) := by
            rcases hv2 with h | h
            · exact .inl h
            · cases hdd : Sp.digit (bat s (to + b))
              · exact .inr ⟨rfl, h⟩
              · exact .inl rfl
          clear hv1 hv2 hhx
          generalize hz : Sp.rhex (Sp.low (bat s (to + b))) = z at hrs hge
          have Hz := Lib.hid (fun v => hz ▸ rhex_c (Sp.low (bat s (to + b))) v)
          clear hz
          rcases hcase with hdig | ⟨hdig, hlet⟩
          all_goals
            cases bd with
            | true =>
              go_wp2_with (first
                | (go_at_call 219; refine (rbehind_i to g s from_ rg 0 bad _ (by omega) hto (by omega) _ R2).mono ?_; rw [Hb.out]; rintro e w' ⟨rfl, rfl⟩)
                | (go_at_call 153; refine (rat_i (to + b) g s from_ rg 0 bad _ (by omega) _ R2).mono ?_; rintro e w' ⟨rfl, rfl⟩)
                | (go_at_call 155; refine (rletter_c g s from_ rg 0 bad hr _ _ R2).mono ?_; rw [hlet]; rintro e w' ⟨rfl, rfl⟩)
                | (go_at_call 152; refine (rdigit_c _ _).mono ?_; rw [hdig]; rintro e w' ⟨rfl, rfl⟩)
                | (go_at_call 220; refine (Hz.out _).mono ?_; rintro e w' ⟨rfl, rfl⟩)
                | (go_at_call 128; refine (rlower_c _ _).mono ?_; rintro e w' ⟨rfl, rfl⟩))
              go_roundw
              case rel =>
                refine ⟨to + b + 1, x ++ [Sp.low (bat s (to + b))], true, by omega, by simp; omega, by go_num, ?_, rfl, below_alloc0 hB _, Lib.hid ⟨?_, ?_, hstep.out⟩⟩
                · rw [hcat.out, List.append_assoc]; rfl
                · intro c hc
                  rcases List.mem_append.1 hc with hc | hc
                  · exact hh.out.1 c hc
                  · rw [List.mem_singleton.1 hc]; exact Sp.low_low _
                · rw [hrs.out, ← hh.out.2.1]; rfl
              case measure => simp [intOf]; omega
            | false =>
              go_wp2_with (first
                | (go_at_call 219; refine (rbehind_i to g s from_ rg 0 bad _ (by omega) hto (by omega) _ R2).mono ?_; rw [Hb.out]; rintro e w' ⟨rfl, rfl⟩)
                | (go_at_call 153; refine (rat_i (to + b) g s from_ rg 0 bad _ (by omega) _ R2).mono ?_; rintro e w' ⟨rfl, rfl⟩)
                | (go_at_call 155; refine (rletter_c g s from_ rg 0 bad hr _ _ R2).mono ?_; rw [hlet]; rintro e w' ⟨rfl, rfl⟩)
                | (go_at_call 152; refine (rdigit_c _ _).mono ?_; rw [hdig]; rintro e w' ⟨rfl, rfl⟩)
                | (go_at_call 220; refine (Hz.out _).mono ?_; rintro e w' ⟨rfl, rfl⟩)
                | (go_at_call 128; refine (rlower_c _ _).mono ?_; rintro e w' ⟨rfl, rfl⟩))
              go_roundw
              case rel =>
                refine ⟨to + b + 1, x ++ [Sp.low (bat s (to + b))], _, by omega, by simp; omega, by go_num, ?_, rfl, below_alloc0 hB _, Lib.hid ⟨?_, ?_, hstep.out⟩⟩
                · rw [hcat.out, List.append_assoc]; rfl
                · intro c hc
                  rcases List.mem_append.1 hc with hc | hc
                  · exact hh.out.1 c hc
                  · rw [List.mem_singleton.1 hc]; exact Sp.low_low _
                · rw [hrs.out, ← hh.out.2.1, Bool.false_or, ← hval.out]; try (first | rfl | (simp; done) | (simp; omega))
              case measure => simp [intOf]; omega
        | false =>
          have hstop := hh.out.2.2.stop Hb.out hhx
          have hto2 : m ≤ to := by omega
          have Hstop := Lib.hid hstop
          have hfin := Lib.hid (show bitsStep rg.toNat s d from_ m = if 100 < Sp.count (d ++ 114 :: x) then .fault 0 3 else if Sp.rightBits d x then .sym 5 (d ++ 114 :: x) (to - from_) else .fault 0 11 by unfold bitsStep; rw [hstop.1, hstop.2])
          have hcount := Lib.hid (Sp.rsize_count (d ++ 114 :: x) (fun c hc => by
            rcases List.mem_append.1 hc with hc | hc
            · exact Hd.out c hc
            · rcases List.mem_cons.1 hc with rfl | hc
              · rfl
              · exact hh.out.1 c hc))
          have hle : Sp.rsize (d ++ 114 :: x) ≤ d.length + (x.length + 1) := by have := Sp.rsize_le (d ++ 114 :: x); simpa using this
          have hlen : (d ++ 114 :: x).length ≤ 140737488355328 := by simp; omega
          have hcase : (Sp.rhex (Sp.low (bat s (to + b))) < 0) ∨ (¬ Sp.rhex (Sp.low (bat s (to + b))) < 0 ∧ Sp.digit (bat s (to + b)) = false ∧ Sp.letter rg.toNat (bat s (to + b)) = false) := by
            rcases Sp.hex_no _ _ hhx with h | ⟨h1, h2⟩
            · exact .inl h
            · exact .inr ⟨by omega, h2⟩
          have Hlen := Lib.hid hlen
          clear hstop hhx hlen
          generalize hz : Sp.rhex (Sp.low (bat s (to + b))) = z at hcase
          have Hz := Lib.hid (fun v => hz ▸ rhex_c (Sp.low (bat s (to + b))) v)
          clear hz
          generalize hq : Sp.rsize (d ++ 114 :: x) = q at hle
          have Hq := Lib.hid hq
          clear hq
          by_cases h100 : 100 < q
          · have h100' : (100 : Int) < (q : Int) := by omega
            rcases hcase with hneg | ⟨hneg, hdig, hlet⟩
            all_goals
              cases bd with
              | true =>
                go_wp2_with (first
                  | (go_at_call 219; refine (rbehind_i to g s from_ rg 0 bad _ (by omega) hto (by omega) _ R2).mono ?_; rw [Hb.out]; rintro e w' ⟨rfl, rfl⟩)
                  | (go_at_call 153; refine (rat_i (to + b) g s from_ rg 0 bad _ (by omega) _ R2).mono ?_; rintro e w' ⟨rfl, rfl⟩)
                  | (go_at_call 155; refine (rletter_c g s from_ rg 0 bad hr _ _ R2).mono ?_; rw [hlet]; rintro e w' ⟨rfl, rfl⟩)
                  | (go_at_call 152; refine (rdigit_c _ _).mono ?_; rw [hdig]; rintro e w' ⟨rfl, rfl⟩)
                  | (go_at_call 220; refine (Hz.out _).mono ?_; rintro e w' ⟨rfl, rfl⟩)
                  | (go_at_call 128; refine (rlower_c _ _).mono ?_; rintro e w' ⟨rfl, rfl⟩)
                  | (go_at_call 223; refine (rsize_i (d ++ 114 :: x) _ rfl Hlen.out _).mono ?_; rw [Hq.out]; rintro e w' ⟨rfl, rfl⟩)
                  | (go_at_call 147; have tk := hs3; clear tk; refine (rfail_later B g s from_ rg out A c 3 _ 11 _ (by decide) _ hs3).mono ?_; rintro e w4 ⟨rfl, rfl⟩)
                  | (go_at_call 147; refine (rfail_first B g s from_ rg out A c bad 3 _ _ H2).mono ?_; rintro e w3 ⟨rfl, hs3, hb3⟩)
                  | (go_at_call 151; refine (radd_l (d ++ 114 :: x) to B g s from_ rg out A c 3 _ 5 _ rfl _ (by omega) _ hs3 hl).mono ?_; rintro e w4 ⟨rfl, ⟨A', c', hs4⟩, hb4⟩))
                go_end0
                rw [hfin.out, ← hcount.out, Hq.out, if_pos h100]
                exact ⟨rfl, ⟨_, _, _, _, _, hs4⟩, ((hB.mono hBw).trans hb3).trans hb4⟩
              | false =>
                go_wp2_with (first
                  | (go_at_call 219; refine (rbehind_i to g s from_ rg 0 bad _ (by omega) hto (by omega) _ R2).mono ?_; rw [Hb.out]; rintro e w' ⟨rfl, rfl⟩)
                  | (go_at_call 153; refine (rat_i (to + b) g s from_ rg 0 bad _ (by omega) _ R2).mono ?_; rintro e w' ⟨rfl, rfl⟩)
                  | (go_at_call 155; refine (rletter_c g s from_ rg 0 bad hr _ _ R2).mono ?_; rw [hlet]; rintro e w' ⟨rfl, rfl⟩)
                  | (go_at_call 152; refine (rdigit_c _ _).mono ?_; rw [hdig]; rintro e w' ⟨rfl, rfl⟩)
                  | (go_at_call 220; refine (Hz.out _).mono ?_; rintro e w' ⟨rfl, rfl⟩)
                  | (go_at_call 128; refine (rlower_c _ _).mono ?_; rintro e w' ⟨rfl, rfl⟩)
                  | (go_at_call 223; refine (rsize_i (d ++ 114 :: x) _ rfl Hlen.out _).mono ?_; rw [Hq.out]; rintro e w' ⟨rfl, rfl⟩)
                  | (go_at_call 147; refine (rfail_first B g s from_ rg out A c bad 3 _ _ H2).mono ?_; rintro e w3 ⟨rfl, hs3, hb3⟩)
                  | (go_at_call 151; refine (radd_l (d ++ 114 :: x) to B g s from_ rg out A c 3 _ 5 _ rfl _ (by omega) _ hs3 hl).mono ?_; rintro e w4 ⟨rfl, ⟨A', c', hs4⟩, hb4⟩))
                go_end0
                rw [hfin.out, ← hcount.out, Hq.out, if_pos h100]
                exact ⟨rfl, ⟨_, _, _, _, _, hs4⟩, ((hB.mono hBw).trans hb3).trans hb4⟩
          · have h100' : ¬ (100 : Int) < (q : Int) := by omega
            rcases hcase with hneg | ⟨hneg, hdig, hlet⟩
            all_goals
              cases bd with
              | true =>
                go_wp2_with (first
                  | (go_at_call 219; refine (rbehind_i to g s from_ rg 0 bad _ (by omega) hto (by omega) _ R2).mono ?_; rw [Hb.out]; rintro e w' ⟨rfl, rfl⟩)
                  | (go_at_call 153; refine (rat_i (to + b) g s from_ rg 0 bad _ (by omega) _ R2).mono ?_; rintro e w' ⟨rfl, rfl⟩)
                  | (go_at_call 155; refine (rletter_c g s from_ rg 0 bad hr _ _ R2).mono ?_; rw [hlet]; rintro e w' ⟨rfl, rfl⟩)
                  | (go_at_call 152; refine (rdigit_c _ _).mono ?_; rw [hdig]; rintro e w' ⟨rfl, rfl⟩)
                  | (go_at_call 220; refine (Hz.out _).mono ?_; rintro e w' ⟨rfl, rfl⟩)
                  | (go_at_call 128; refine (rlower_c _ _).mono ?_; rintro e w' ⟨rfl, rfl⟩)
                  | (go_at_call 223; refine (rsize_i (d ++ 114 :: x) _ rfl Hlen.out _).mono ?_; rw [Hq.out]; rintro e w' ⟨rfl, rfl⟩)
                  | (go_at_call 147; refine (rfail_first B g s from_ rg out A c bad 11 _ _ H2).mono ?_; rintro e w3 ⟨rfl, hs3, hb3⟩)
                  | (go_at_call 151; refine (radd_l (d ++ 114 :: x) to B g s from_ rg out A c 11 _ 5 _ rfl _ (by omega) _ hs3 hl).mono ?_; rintro e w4 ⟨rfl, ⟨A', c', hs4⟩, hb4⟩))
                go_end0
                rw [hfin.out, ← hcount.out, Hq.out, if_neg h100, if_neg (not_true hh.out.2.1)]
                exact ⟨rfl, ⟨_, _, _, _, _, hs4⟩, ((hB.mono hBw).trans hb3).trans hb4⟩
              | false =>
                go_wp2_with (first
                  | (go_at_call 219; refine (rbehind_i to g s from_ rg 0 bad _ (by omega) hto (by omega) _ R2).mono ?_; rw [Hb.out]; rintro e w' ⟨rfl, rfl⟩)
                  | (go_at_call 153; refine (rat_i (to + b) g s from_ rg 0 bad _ (by omega) _ R2).mono ?_; rintro e w' ⟨rfl, rfl⟩)
                  | (go_at_call 155; refine (rletter_c g s from_ rg 0 bad hr _ _ R2).mono ?_; rw [hlet]; rintro e w' ⟨rfl, rfl⟩)
                  | (go_at_call 152; refine (rdigit_c _ _).mono ?_; rw [hdig]; rintro e w' ⟨rfl, rfl⟩)
                  | (go_at_call 220; refine (Hz.out _).mono ?_; rintro e w' ⟨rfl, rfl⟩)
                  | (go_at_call 128; refine (rlower_c _ _).mono ?_; rintro e w' ⟨rfl, rfl⟩)
                  | (go_at_call 223; refine (rsize_i (d ++ 114 :: x) _ rfl Hlen.out _).mono ?_; rw [Hq.out]; rintro e w' ⟨rfl, rfl⟩)
                  | (go_at_call 151; refine (radd_l (d ++ 114 :: x) to B g s from_ rg out A c 0 bad 5 _ rfl _ (by omega) _ H2 hl).mono ?_; rintro e w4 ⟨rfl, hs4, hb4⟩))
                go_end0
                rw [hfin.out, ← hcount.out, Hq.out, if_neg h100, if_pos (not_false hh.out.2.1)]
                refine ⟨rfl, ?_, (hB.mono hBw).trans hb4⟩
                rw [show from_ + (to - from_) = to by omega]
                exact hs4
end Go.Proofs.YtjghijeblddijaaGreatDoor
namespace Go.Proofs.YtjghijeblddijaaGreatDoor
open Go.RowKit
theorem rbehind_end (g : Nat) (s : ByteArray) (at_ rg err bad : Int) (i : Nat) (hi : s.size ≤ i) (w : World) (H : RefR w g s at_ rg err bad) :
    Calls Tryz.prog 219 #[.pointer (some ⟨g, 0, none⟩), .int .i64 (i : Int)] w fun e w' => e = .returned (.int .i64 (i : Int)) ∧ w = w' := by
  obtain ⟨c0, c1, c2, c4, c5⟩ := H
  have hlt : ¬ (i : Int) < (s.size : Int) := by omega
  go_enter Tryz.func219, Tryz.ntmps219
  go_wp2
  go_loop [1] (fun t => t = .int .i64 i) (fun _ => 0)
  case atStart => rfl
  case round =>
    obtain rfl := hrel
    go_wp2
    go_ret
    exact ⟨rfl, rfl⟩
theorem rbehind_any (n k g : Nat) (s : ByteArray) (at_ rg err bad : Int) (i : Int) (hn : i = n) (hk : n + Sp.bl ((bs s).drop n) = k) (hs : s.size ≤ 140737488355328) (w : World) (H : RefR w g s at_ rg err bad) :
    Calls Tryz.prog 219 #[.pointer (some ⟨g, 0, none⟩), .int .i64 i] w fun e w' => e = .returned (.int .i64 (k : Int)) ∧ w = w' := by
  subst hn; subst hk
  by_cases h : n ≤ s.size
  · exact rbehind_i n g s at_ rg err bad _ rfl h hs w H
  · refine (rbehind_end g s at_ rg err bad n (by omega) w H).mono ?_
    rw [bs_drop_end s n (by omega)]
    exact fun e w' h => h
theorem spread_at (p : UInt8 → Bool) (s : ByteArray) (m : Nat) (h0 : p 0 = false) : ((Sp.spread p ((bs s).drop m)).1 = [] ↔ p (bat s m) = false) := by
  obtain ⟨_, hd⟩ | ⟨_, hd, hz⟩ := drop_bat s m
  · rw [hd]
    cases hp : p (bat s m) with
    | true => rw [Sp.spread_yes p _ _ hp]; simp
    | false => rw [Sp.spread_not p _ _ hp]; simp
  · rw [hd, hz, h0]; simp [Sp.spread]
theorem radix_when (r : Nat) (s : ByteArray) (to k m : Nat) (hk : to + Sp.bl ((bs s).drop to) = k) (hm : k + 1 + Sp.bl ((bs s).drop (k + 1)) = m) :
    (Sp.low (bat s k) = 114 ∧ Sp.letter r (bat s k) = true ∧ Sp.hexish r (bat s m) = true ∧ Sp.radix r ((bs s).drop to) = (114 :: (Sp.spread (Sp.hexish r) ((bs s).drop m)).1, m - to + (Sp.spread (Sp.hexish r) ((bs s).drop m)).2)) ∨
    (Sp.radix r ((bs s).drop to) = ([], 0) ∧ (Sp.low (bat s k) ≠ 114 ∨ (Sp.low (bat s k) = 114 ∧ Sp.letter r (bat s k) = false) ∨ (Sp.low (bat s k) = 114 ∧ Sp.letter r (bat s k) = true ∧ Sp.hexish r (bat s m) = false))) := by
  subst hk; subst hm
  by_cases h1 : Sp.low (bat s (to + Sp.bl ((bs s).drop to))) = 114
  · cases h2 : Sp.letter r (bat s (to + Sp.bl ((bs s).drop to))) with
    | true =>
      have hr := radix_at r s to _ _ _ rfl (by rw [← bat_eq, h1, h2]; rfl) rfl rfl
      cases h3 : Sp.hexish r (bat s (to + Sp.bl ((bs s).drop to) + 1 + Sp.bl ((bs s).drop (to + Sp.bl ((bs s).drop to) + 1)))) with
      | true =>
        refine .inl ⟨h1, rfl, rfl, ?_⟩
        rw [hr, if_neg (fun h => by rw [(spread_at _ _ _ (Sp.hexish_zero r)).1 h] at h3; cases h3)]
        congr 1
        omega
      | false =>
        refine .inr ⟨?_, .inr (.inr ⟨h1, rfl, rfl⟩)⟩
        rw [hr, if_pos ((spread_at _ _ _ (Sp.hexish_zero r)).2 h3)]
    | false => exact .inr ⟨radix_no r s to _ rfl (by rw [← bat_eq, h2]; rfl), .inr (.inl ⟨h1, rfl⟩)⟩
  · exact .inr ⟨radix_no r s to _ rfl (by rw [← bat_eq, beq_eq_false_iff_ne.2 h1, Bool.and_false]), .inl h1⟩
/-- A fraction, by indexes. -/
theorem fraction_when (s : ByteArray) (to k : Nat) (hk : to + Sp.bl ((bs s).drop to) = k) :
    Sp.fraction ((bs s).drop to) = if (bat s k == 46 && Sp.digit (bat s (k + 1))) = true then (46 :: (Sp.spread Sp.digit ((bs s).drop (k + 1))).1, k - to + 1 + (Sp.spread Sp.digit ((bs s).drop (k + 1))).2) else ([], 0) := by
  subst hk
  rw [fraction_eq s to _ rfl, ← bat_eq, ← bat_eq, show to + Sp.bl ((bs s).drop to) - to = Sp.bl ((bs s).drop to) from by omega]
theorem digits_low (l : List UInt8) : ∀ c ∈ (Sp.spread Sp.digit l).1, Sp.low c = c := fun c hc => (Sp.digit_facts c (Sp.spread_digits l c hc)).2.1
theorem fraction_low (l : List UInt8) : ∀ c ∈ (Sp.fraction l).1, Sp.low c = c := by
  unfold Sp.fraction
  dsimp only
  split
  · intro c hc
    rcases List.mem_cons.1 hc with rfl | hc
    · rfl
    · exact digits_low _ c hc
  · intro c hc; cases hc
theorem exponent_low (r : Nat) (l : List UInt8) : ∀ c ∈ (Sp.exponent r l).1, Sp.low c = c := by
  unfold Sp.exponent
  dsimp only
  split
  · split
    · rename_i hg
      split
      · intro c hc; cases hc
      · intro c hc
        rcases List.mem_cons.1 hc with rfl | hc
        · rfl
        · rcases List.mem_cons.1 hc with rfl | hc
          · rw [Bool.or_eq_true, beq_iff_eq, beq_iff_eq] at hg
            rcases hg with hg | hg <;> rw [hg] <;> rfl
          · exact digits_low _ c hc
    · split
      · intro c hc; cases hc
      · intro c hc
        rcases List.mem_cons.1 hc with rfl | hc
        · rfl
        · exact digits_low _ c hc
  · intro c hc; cases hc
theorem rexponent_i (n : Nat) (g : Nat) (s : ByteArray) (at_ rg err bad : Int) (h0 : 0 ≤ rg) (i : Int) (hn : i = n) (hi : n ≤ s.size) (hs : s.size ≤ 140737488355328) (w : World) (H : RefR w g s at_ rg err bad) :
    Calls Tryz.prog 222 #[.pointer (some ⟨g, 0, none⟩), .int .i64 i] w fun e w' => e = expE (Sp.exponent rg.toNat ((bs s).drop n)) n ∧ w = w' := by
  subst hn; exact rexponent_c g s at_ rg err bad h0 n hi hs w H
theorem RPost.ret {B : Nat} {w : World} {g : Nat} {s : ByteArray} {i : Nat} {rg bad : Int} {out : List Sp.Sym} {st : Sp.Step} {e : Ending} {w' : World} (h : RPost B w g s i rg bad out st e w') : e = .returned (.tuple #[]) := by
  cases st <;> exact h.1
end Go.Proofs.YtjghijeblddijaaGreatDoor
namespace Go.Proofs.YtjghijeblddijaaGreatDoor
open Go.RowKit
set_option maxRecDepth 100000 in
set_option maxHeartbeats 4000000 in
theorem rnumber_c (B g : Nat) (s : ByteArray) (i : Nat) (rg bad : Int) (hr : 0 ≤ rg) (out : List Sp.Sym) (A : Option Addr) (c : Nat) (w : World) (H : Ref B w g s i rg out A c 0 bad) (hi : i < s.size) (hs : s.size ≤ 1000000000) (hl : out.length ≤ 1000000)
    (hhead : Sp.digit (bat s i) = true ∨ (bat s i = 46 ∧ Sp.digit (bat s (i + 1)) = true)) :
    Calls Tryz.prog 154 #[.pointer (some ⟨g, 0, none⟩)] w (RPost B w g s i rg bad out (Sp.number rg.toNat ((bs s).drop i))) := by
  have hBw : B ≤ w.heap.size := Nat.le_trans H.base (Nat.le_of_lt H.lt)
  have R := H.R
  have hs2 : s.size ≤ 140737488355328 := by omega
  have hnum := number_eq rg.toNat (bs s) i
  dsimp only at hnum
  have hdle := Sp.spread_le Sp.digit ((bs s).drop i)
  rw [List.length_drop, bs_length] at hdle
  have hdlow := digits_low ((bs s).drop i)
  have hd0 := spread_at Sp.digit s i (by decide)
  have hbat := bat_in s i hi
  have hhd : ((((s[i].toNat : Int) != 46) = true) ∧ (Sp.spread Sp.digit ((bs s).drop i)).1 ≠ []) ∨ ((((s[i].toNat : Int) != 46) = false) ∧ Sp.spread Sp.digit ((bs s).drop i) = ([], 0) ∧ Sp.bl ((bs s).drop i) = 0 ∧ Sp.digit (bat s (i + 1)) = true ∧ bat s i = 46) := by
    rcases hhead with h | ⟨h, h2⟩
    · refine .inl ⟨?_, fun h0 => by rw [hd0.1 h0] at h; cases h⟩
      refine byte_ne _ 46 46 rfl (fun h0 => ?_)
      rw [hbat, h0] at h
      revert h; decide
    · refine .inr ⟨by rw [← hbat, h]; rfl, ?_, ?_, h2, h⟩
      · obtain ⟨_, hd⟩ | ⟨h1, _⟩ := drop_bat s i
        · rw [hd]; exact Sp.spread_not _ _ _ (by rw [h]; decide)
        · omega
      · obtain ⟨_, hd⟩ | ⟨h1, _⟩ := drop_bat s i
        · rw [hd, h]; rfl
        · omega
  generalize hdE : Sp.spread Sp.digit ((bs s).drop i) = d at *
  generalize hto : i + d.2 = to at *
  have htole : to ≤ s.size := by omega
  have hito : i ≤ to := by omega
  have hkle := bl_bound s to htole
  generalize hk : to + Sp.bl ((bs s).drop to) = k at *
  have htk : to ≤ k := by omega
  have hm0 : k + 1 ≤ k + 1 + Sp.bl ((bs s).drop (k + 1)) := by omega
  generalize hm : k + 1 + Sp.bl ((bs s).drop (k + 1)) = m at *
  have hrw := radix_when rg.toNat s to k m hk hm
  have hfw := fraction_when s to k hk
  have hfle := Sp.fraction_facts ((bs s).drop to)
  rw [List.length_drop, bs_length] at hfle
  have hflow := fraction_low ((bs s).drop to)
  generalize hfE : Sp.fraction ((bs s).drop to) = f at *
  generalize hn1 : to + f.2 = n1 at *
  have hn1le : n1 ≤ s.size := by omega
  have hele := Sp.exponent_facts rg.toNat ((bs s).drop n1)
  rw [List.length_drop, bs_length] at hele
  have helow := exponent_low rg.toNat ((bs s).drop n1)
  have he0 := Sp.exponent_none rg.toNat ((bs s).drop n1)
  generalize heE : Sp.exponent rg.toNat ((bs s).drop n1) = e at *
  have hin2 : i ≤ n1 + e.2 := by omega
  have hcountB := Sp.rsize_count (d.1 ++ f.1 ++ e.1) (fun c hc => by
    rcases List.mem_append.1 hc with hc | hc
    · rcases List.mem_append.1 hc with hc | hc
      · exact hdlow c hc
      · exact hflow c hc
    · exact helow c hc)
  have hdl : d.1.length ≤ s.size := by omega
  have hfl : f.1.length ≤ s.size + 1 := by omega
  have hel : e.1.length ≤ s.size + 2 := by omega
  have hkd : d.1 = [] → (k = i ∧ bat s k = 46 ∧ Sp.digit (bat s (k + 1)) = true) := by
    intro h0
    rcases hhd with ⟨_, h⟩ | ⟨_, h, h2, h3, h4⟩
    · exact absurd h0 h
    · subst hto; rw [h] at hk
      have : k = i := by rw [← hk]; simp only [Nat.add_zero]; rw [h2]; rfl
      rw [this]; exact ⟨rfl, h4, h3⟩
  generalize hK1 : (if f.1 = [] then (3 : Int) else 4) = K1
  generalize hK2 : (if f.1 = [] ∧ e.1 = [] then (3 : Int) else 4) = K2 at *
  generalize hfr : (bat s k == 46 && Sp.digit (bat s (k + 1))) = fr at *
  have Hnum := Lib.hid hnum
  have HdE := Lib.hid hdE
  have Hto := Lib.hid hto
  have Hk := Lib.hid hk
  have Hm := Lib.hid hm
  have Hrw := Lib.hid hrw
  have Hfw := Lib.hid hfw
  have HfE := Lib.hid hfE
  have Hn1 := Lib.hid hn1
  have HeE := Lib.hid heE
  have He0 := Lib.hid he0
  have HcountB := Lib.hid hcountB
  have Hkd := Lib.hid hkd
  have HK1 := Lib.hid hK1
  have HK2 := Lib.hid hK2
  have Hfr := Lib.hid hfr
  have Hhd := Lib.hid hhd
  have Hdlow := Lib.hid hdlow
  have Hbat := Lib.hid hbat
  clear hnum hdE hto hk hm hrw hfw hfE hn1 heE he0 hcountB hkd hK1 hK2 hfr hhd hdlow hbat hhead hd0 hflow helow
  obtain ⟨c0, c1, c2, c4, c5⟩ := H.R
  go_enter Tryz.func154, Tryz.ntmps154
  go_upto_if 25 with fail
  go_cut [3, 4] from 5 (fun dv tv wx => dv = .string ⟨d.1.toArray⟩ ∧ tv = .int .i64 (to : Int) ∧ w = wx)
  case first =>
    rcases Hhd.out with ⟨e46, _⟩ | ⟨e46, h2, _⟩
    · go_wp2_with (go_at_call 218; refine (rdigits_i i g s i rg 0 bad _ (by omega) (by omega) hs2 _ R).mono ?_; unfold digE; rw [HdE.out, Hto.out]; rintro e w' ⟨rfl, rfl⟩)
      go_meet
      exact ⟨rfl, rfl, rfl⟩
    · have hti : (i : Int) = (to : Int) := by have := Hto.out; rw [h2] at this; exact congrArg _ this
      have Hti := Lib.hid hti
      have hde : ([] : List UInt8) = d.1 := by rw [h2]
      have Hde := Lib.hid hde
      clear h2 hti hde
      go_wp2
      go_meet
      exact ⟨congrArg (fun l : List UInt8 => Value.string ⟨l.toArray⟩) Hde.out, congrArg (Value.int .i64) Hti.out, rfl⟩
  case rest =>
    obtain ⟨rfl, rfl, rfl⟩ := hcut
    go_upto_if 34 with fail
    go_cut [] from 7 (fun wx => w = wx ∧ Hid (¬ (d.1 ≠ [] ∧ (Sp.radix rg.toNat ((bs s).drop to)).1 ≠ [])))
    case first =>
      by_cases hd1 : d.1 = []
      · have hd2 : d.1.isEmpty = true := by rw [hd1]; rfl
        have Hd1 := Lib.hid hd1
        clear hd1
        simp only [hd2, Bool.not_true]
        go_wp2
        go_meet
        exact ⟨rfl, Lib.hid (fun h => h.1 Hd1.out)⟩
      · have hd2 : d.1.isEmpty = false := by cases h : d.1 with
          | nil => exact absurd h hd1
          | cons a t => rfl
        have Hd1 := Lib.hid hd1
        clear hd1
        simp only [hd2, Bool.not_false]
        rcases Hrw.out with ⟨h1, h2, h3, h4⟩ | ⟨h4, hno⟩
        · obtain ⟨h5, h6⟩ := Sp.hex_yes _ _ h3
          have hmlt : m < s.size := bat_lt s _ (by intro h0; rw [h0, Sp.hexish_zero] at h3; cases h3)
          have hfin := Lib.hid (show Sp.number rg.toNat ((bs s).drop i) = bitsStep rg.toNat s d.1 i m by
            rw [Hnum.out, if_pos ⟨Hd1.out, by rw [h4]; simp⟩, h4]
            unfold bitsStep
            rw [show d.2 + (m - to + (Sp.spread (Sp.hexish rg.toNat) ((bs s).drop m)).2) = m + (Sp.spread (Sp.hexish rg.toNat) ((bs s).drop m)).2 - i from by have := Hto.out; omega]
            rfl)
          have e114 := byte_is (Sp.low (bat s k)) 114 114 rfl h1
          have hge : Sp.rhex (Sp.low (bat s m)) ≥ 0 := by rw [h5]; omega
          generalize hz : Sp.rhex (Sp.low (bat s m)) = z at hge
          have Hz := Lib.hid (fun v => hz ▸ rhex_c (Sp.low (bat s m)) v)
          have H3 := Lib.hid h3
          have hcase : Sp.digit (bat s m) = true ∨ (Sp.digit (bat s m) = false ∧ Sp.letter rg.toNat (bat s m) = true) := by
            rcases h6 with h | h
            · exact .inl h
            · cases hdd : Sp.digit (bat s m)
              · exact .inr ⟨rfl, h⟩
              · exact .inl rfl
          clear h1 h3 h4 h5 h6 hz
          rcases hcase with hdig | ⟨hdig, hlet⟩
          · go_wp2_with (first
              | (go_at_call 219; first
                  | (refine (rbehind_any to k g s i rg 0 bad _ (by omega) Hk.out hs2 _ R).mono ?_; rintro e w' ⟨rfl, rfl⟩)
                  | (refine (rbehind_any (k + 1) m g s i rg 0 bad _ (by omega) Hm.out hs2 _ R).mono ?_; rintro e w' ⟨rfl, rfl⟩))
              | (go_at_call 153; first
                  | (refine (rat_i k g s i rg 0 bad _ (by omega) _ R).mono ?_; rintro e w' ⟨rfl, rfl⟩)
                  | (refine (rat_i m g s i rg 0 bad _ (by omega) _ R).mono ?_; rintro e w' ⟨rfl, rfl⟩))
              | (go_at_call 128; refine (rlower_c _ _).mono ?_; rintro e w' ⟨rfl, rfl⟩)
              | (go_at_call 155; refine (rletter_c g s i rg 0 bad hr _ _ R).mono ?_; rw [h2]; rintro e w' ⟨rfl, rfl⟩)
              | (go_at_call 220; refine (Hz.out _).mono ?_; rintro e w' ⟨rfl, rfl⟩)
              | (go_at_call 152; refine (rdigit_c _ _).mono ?_; rw [hdig]; rintro e w' ⟨rfl, rfl⟩)
              | (go_at_call 221; refine (rbits_c B g s i rg bad hr out A c d.1 m _ H hs hl Hdlow.out hdl hmlt (by omega) H3.out).mono ?_; rw [← hfin.out]; intro e w' hpost; obtain rfl := hpost.ret))
            go_end0
            exact hpost
          · go_wp2_with (first
              | (go_at_call 219; first
                  | (refine (rbehind_any to k g s i rg 0 bad _ (by omega) Hk.out hs2 _ R).mono ?_; rintro e w' ⟨rfl, rfl⟩)
                  | (refine (rbehind_any (k + 1) m g s i rg 0 bad _ (by omega) Hm.out hs2 _ R).mono ?_; rintro e w' ⟨rfl, rfl⟩))
              | (go_at_call 153; first
                  | (refine (rat_i k g s i rg 0 bad _ (by omega) _ R).mono ?_; rintro e w' ⟨rfl, rfl⟩)
                  | (refine (rat_i m g s i rg 0 bad _ (by omega) _ R).mono ?_; rintro e w' ⟨rfl, rfl⟩))
              | (go_at_call 128; refine (rlower_c _ _).mono ?_; rintro e w' ⟨rfl, rfl⟩)
              | (go_at_call 155; refine (rletter_c g s i rg 0 bad hr _ _ R).mono ?_; (first | rw [h2] | rw [hlet]); rintro e w' ⟨rfl, rfl⟩)
              | (go_at_call 220; refine (Hz.out _).mono ?_; rintro e w' ⟨rfl, rfl⟩)
              | (go_at_call 152; refine (rdigit_c _ _).mono ?_; rw [hdig]; rintro e w' ⟨rfl, rfl⟩)
              | (go_at_call 221; refine (rbits_c B g s i rg bad hr out A c d.1 m _ H hs hl Hdlow.out hdl hmlt (by omega) H3.out).mono ?_; rw [← hfin.out]; intro e w' hpost; obtain rfl := hpost.ret))
            go_end0
            exact hpost
        · have hmeet : Hid (¬ (d.1 ≠ [] ∧ (Sp.radix rg.toNat ((bs s).drop to)).1 ≠ [])) := Lib.hid (by rw [h4]; simp)
          clear h4
          rcases hno with h1 | ⟨h1, h2⟩ | ⟨h1, h2, h3⟩
          · have e114 := byte_isnt (Sp.low (bat s k)) 114 114 rfl h1
            clear h1
            go_wp2_with (first
              | (go_at_call 219; first
                  | (refine (rbehind_any to k g s i rg 0 bad _ (by omega) Hk.out hs2 _ R).mono ?_; rintro e w' ⟨rfl, rfl⟩)
                  | (refine (rbehind_any (k + 1) m g s i rg 0 bad _ (by omega) Hm.out hs2 _ R).mono ?_; rintro e w' ⟨rfl, rfl⟩))
              | (go_at_call 153; first
                  | (refine (rat_i k g s i rg 0 bad _ (by omega) _ R).mono ?_; rintro e w' ⟨rfl, rfl⟩)
                  | (refine (rat_i m g s i rg 0 bad _ (by omega) _ R).mono ?_; rintro e w' ⟨rfl, rfl⟩))
              | (go_at_call 128; refine (rlower_c _ _).mono ?_; rintro e w' ⟨rfl, rfl⟩))
            go_meet
            exact ⟨rfl, hmeet⟩
          · have e114 := byte_is (Sp.low (bat s k)) 114 114 rfl h1
            clear h1
            go_wp2_with (first
              | (go_at_call 219; first
                  | (refine (rbehind_any to k g s i rg 0 bad _ (by omega) Hk.out hs2 _ R).mono ?_; rintro e w' ⟨rfl, rfl⟩)
                  | (refine (rbehind_any (k + 1) m g s i rg 0 bad _ (by omega) Hm.out hs2 _ R).mono ?_; rintro e w' ⟨rfl, rfl⟩))
              | (go_at_call 153; first
                  | (refine (rat_i k g s i rg 0 bad _ (by omega) _ R).mono ?_; rintro e w' ⟨rfl, rfl⟩)
                  | (refine (rat_i m g s i rg 0 bad _ (by omega) _ R).mono ?_; rintro e w' ⟨rfl, rfl⟩))
              | (go_at_call 128; refine (rlower_c _ _).mono ?_; rintro e w' ⟨rfl, rfl⟩)
              | (go_at_call 155; refine (rletter_c g s i rg 0 bad hr _ _ R).mono ?_; rw [h2]; rintro e w' ⟨rfl, rfl⟩))
            go_meet
            exact ⟨rfl, hmeet⟩
          · have e114 := byte_is (Sp.low (bat s k)) 114 114 rfl h1
            have hcase : (Sp.rhex (Sp.low (bat s m)) < 0) ∨ (0 ≤ Sp.rhex (Sp.low (bat s m)) ∧ Sp.digit (bat s m) = false ∧ Sp.letter rg.toNat (bat s m) = false) := Sp.hex_no _ _ h3
            generalize hz : Sp.rhex (Sp.low (bat s m)) = z at hcase
            have Hz := Lib.hid (fun v => hz ▸ rhex_c (Sp.low (bat s m)) v)
            clear h1 h3 hz
            rcases hcase with hneg | ⟨hneg, hdig, hlet⟩
            · go_wp2_with (first
              | (go_at_call 219; first
                  | (refine (rbehind_any to k g s i rg 0 bad _ (by omega) Hk.out hs2 _ R).mono ?_; rintro e w' ⟨rfl, rfl⟩)
                  | (refine (rbehind_any (k + 1) m g s i rg 0 bad _ (by omega) Hm.out hs2 _ R).mono ?_; rintro e w' ⟨rfl, rfl⟩))
              | (go_at_call 153; first
                  | (refine (rat_i k g s i rg 0 bad _ (by omega) _ R).mono ?_; rintro e w' ⟨rfl, rfl⟩)
                  | (refine (rat_i m g s i rg 0 bad _ (by omega) _ R).mono ?_; rintro e w' ⟨rfl, rfl⟩))
              | (go_at_call 128; refine (rlower_c _ _).mono ?_; rintro e w' ⟨rfl, rfl⟩)
                | (go_at_call 220; refine (Hz.out _).mono ?_; rintro e w' ⟨rfl, rfl⟩)
                | (go_at_call 155; refine (rletter_c g s i rg 0 bad hr _ _ R).mono ?_; rw [h2]; rintro e w' ⟨rfl, rfl⟩))
              go_meet
              exact ⟨rfl, hmeet⟩
            · go_wp2_with (first
              | (go_at_call 219; first
                  | (refine (rbehind_any to k g s i rg 0 bad _ (by omega) Hk.out hs2 _ R).mono ?_; rintro e w' ⟨rfl, rfl⟩)
                  | (refine (rbehind_any (k + 1) m g s i rg 0 bad _ (by omega) Hm.out hs2 _ R).mono ?_; rintro e w' ⟨rfl, rfl⟩))
              | (go_at_call 153; first
                  | (refine (rat_i k g s i rg 0 bad _ (by omega) _ R).mono ?_; rintro e w' ⟨rfl, rfl⟩)
                  | (refine (rat_i m g s i rg 0 bad _ (by omega) _ R).mono ?_; rintro e w' ⟨rfl, rfl⟩))
              | (go_at_call 128; refine (rlower_c _ _).mono ?_; rintro e w' ⟨rfl, rfl⟩)
                | (go_at_call 220; refine (Hz.out _).mono ?_; rintro e w' ⟨rfl, rfl⟩)
                | (go_at_call 152; refine (rdigit_c _ _).mono ?_; rw [hdig]; rintro e w' ⟨rfl, rfl⟩)
                | (go_at_call 155; refine (rletter_c g s i rg 0 bad hr _ _ R).mono ?_; (first | rw [h2] | rw [hlet]); rintro e w' ⟨rfl, rfl⟩))
              go_meet
              exact ⟨rfl, hmeet⟩
    case rest =>
      obtain ⟨rfl, hnA⟩ := hcut
      have hfin := Lib.hid (show Sp.number rg.toNat ((bs s).drop i) = if 100 < Sp.count (d.1 ++ f.1 ++ e.1) then .fault 0 3 else .sym K2 (d.1 ++ f.1 ++ e.1) (n1 + e.2 - i) by
        rw [Hnum.out, if_neg hnA.out, show d.2 + f.2 + e.2 = n1 + e.2 - i from by have h1 := Hto.out; have h2 := Hn1.out; omega])
      go_upto_region 11 with (go_at_call 219; refine (rbehind_any to k g s i rg 0 bad _ (by omega) Hk.out hs2 _ R).mono ?_; rintro e w' ⟨rfl, rfl⟩)
      go_cut [101] from 10 (fun v wx => v = .bool fr ∧ w = wx)
      case first =>
        by_cases h46 : bat s k = 46
        · have e46 := byte_is _ 46 46 rfl h46
          cases hdg : Sp.digit (bat s (k + 1)) with
          | true =>
            have hfr2 : true = fr := by rw [← Hfr.out, h46, hdg]; rfl
            have Hfr2 := Lib.hid hfr2
            clear h46 hfr2
            by_cases hd1 : d.1 = []
            · have hki : ((k : Int) == (i : Int)) = true := by rw [(Hkd.out hd1).1]; exact beq_self_eq_true _
              have hd2 : d.1.isEmpty = true := by rw [hd1]; rfl
              clear hd1
              go_wp2_with (first
                | (go_at_call 153; first
                    | (refine (rat_i k g s i rg 0 bad _ (by omega) _ R).mono ?_; rintro e w' ⟨rfl, rfl⟩)
                    | (refine (rat_i (k + 1) g s i rg 0 bad _ (by omega) _ R).mono ?_; rintro e w' ⟨rfl, rfl⟩))
                | (go_at_call 152; refine (rdigit_c _ _).mono ?_; rw [hdg]; rintro e w' ⟨rfl, rfl⟩))
              go_meet
              exact ⟨congrArg Value.bool Hfr2.out, rfl⟩
            · have hd2 : d.1.isEmpty = false := by cases h : d.1 with
                | nil => exact absurd h hd1
                | cons a t => rfl
              clear hd1
              go_wp2_with (first
                | (go_at_call 153; first
                    | (refine (rat_i k g s i rg 0 bad _ (by omega) _ R).mono ?_; rintro e w' ⟨rfl, rfl⟩)
                    | (refine (rat_i (k + 1) g s i rg 0 bad _ (by omega) _ R).mono ?_; rintro e w' ⟨rfl, rfl⟩))
                | (go_at_call 152; refine (rdigit_c _ _).mono ?_; rw [hdg]; rintro e w' ⟨rfl, rfl⟩))
              go_meet
              exact ⟨congrArg Value.bool Hfr2.out, rfl⟩
          | false =>
            have hfr2 : false = fr := by rw [← Hfr.out, hdg, Bool.and_false]
            have Hfr2 := Lib.hid hfr2
            clear h46 hfr2
            go_wp2_with (first
              | (go_at_call 153; first
                  | (refine (rat_i k g s i rg 0 bad _ (by omega) _ R).mono ?_; rintro e w' ⟨rfl, rfl⟩)
                  | (refine (rat_i (k + 1) g s i rg 0 bad _ (by omega) _ R).mono ?_; rintro e w' ⟨rfl, rfl⟩))
              | (go_at_call 152; refine (rdigit_c _ _).mono ?_; rw [hdg]; rintro e w' ⟨rfl, rfl⟩))
            go_meet
            exact ⟨congrArg Value.bool Hfr2.out, rfl⟩
        · have e46 := byte_isnt _ 46 46 rfl h46
          have hfr2 : false = fr := by rw [← Hfr.out, beq_eq_false_iff_ne.2 h46, Bool.false_and]
          have Hfr2 := Lib.hid hfr2
          clear h46 hfr2
          go_wp2_with (first
            | (go_at_call 153; refine (rat_i k g s i rg 0 bad _ (by omega) _ R).mono ?_; rintro e w' ⟨rfl, rfl⟩))
          go_meet
          exact ⟨congrArg Value.bool Hfr2.out, rfl⟩
      case rest =>
        obtain ⟨rfl, rfl⟩ := hcut
        go_upto_if 101 with fail
        go_cut [4, 5, 6] from 7 (fun tv xv kv wx => tv = .int .i64 (n1 : Int) ∧ xv = .string ⟨(d.1 ++ f.1).toArray⟩ ∧ kv = .int .i64 K1 ∧ w = wx)
        case first =>
          cases fr with
          | true =>
            have hf := Hfw.out
            rw [if_pos rfl] at hf
            have hk1 : k + 1 ≤ s.size := by
              have : bat s k ≠ 0 := by
                intro h0
                have := Hfr.out
                rw [h0] at this
                exact absurd this (by rw [show ((0 : UInt8) == 46) = false from rfl, Bool.false_and]; decide)
              exact bat_lt s k this
            generalize hyE : Sp.spread Sp.digit ((bs s).drop (k + 1)) = y at hf
            have HyE := Lib.hid hyE
            have hn : ((k + 1 + y.2 : Nat) : Int) = (n1 : Int) := by
              have h := Hn1.out
              rw [hf] at h
              have h : to + (k - to + 1 + y.2) = n1 := h
              omega
            have hf1 : f.1 = 46 :: y.1 := by rw [hf]
            have hk3 : (4 : Int) = K1 := by rw [← HK1.out, hf1]; rfl
            have hx : (⟨(d.1 ++ 46 :: y.1).toArray⟩ : ByteArray) = ⟨(d.1 ++ f.1).toArray⟩ := by rw [hf1]
            have hyl : y.1.length + 1 ≤ s.size + 1 := by rw [hf1] at hfl; exact hfl
            have hc1 := bcat d.1 [46]
            have hc2 := bcat (d.1 ++ [46]) y.1
            rw [List.append_assoc] at hc2
            have Hn := Lib.hid hn
            have Hk3 := Lib.hid hk3
            have Hx := Lib.hid hx
            have Hc1 := Lib.hid hc1
            have Hc2 := Lib.hid hc2
            have hsz : d.1.length + 1 + y.1.length ≤ 9223372036854775807 := by omega
            clear hf hyE hn hf1 hk3 hx hc1 hc2
            go_wp2_with (go_at_call 218; refine (rdigits_i (k + 1) g s i rg 0 bad _ (by omega) hk1 hs2 _ R).mono ?_; unfold digE; rw [HyE.out]; rintro e w' ⟨rfl, rfl⟩)
            go_meet
            refine ⟨?_, ?_, congrArg (Value.int .i64) Hk3.out, rfl⟩
            · rw [← Hn.out]; rfl
            · rw [← Hx.out]; exact congrArg Value.string ((congrArg (· ++ (⟨y.1.toArray⟩ : ByteArray)) Hc1.out).trans Hc2.out)
          | false =>
            have hf := Hfw.out
            rw [if_neg (by decide)] at hf
            have hn : (to : Int) = (n1 : Int) := by have h := Hn1.out; rw [hf] at h; exact congrArg _ h
            have hf1 : f.1 = [] := by rw [hf]
            have hk3 : (3 : Int) = K1 := by rw [← HK1.out, hf1]; rfl
            have hx : (⟨d.1.toArray⟩ : ByteArray) = ⟨(d.1 ++ f.1).toArray⟩ := by rw [hf1, List.append_nil]
            have Hn := Lib.hid hn
            have Hk3 := Lib.hid hk3
            have Hx := Lib.hid hx
            clear hf hn hf1 hk3 hx
            go_wp2
            go_meet
            exact ⟨congrArg (Value.int .i64) Hn.out, congrArg Value.string Hx.out, congrArg (Value.int .i64) Hk3.out, rfl⟩
        case rest =>
          obtain ⟨rfl, rfl, rfl, rfl⟩ := hcut
          go_upto_if 121 with (go_at_call 222; refine (rexponent_i n1 g s i rg 0 bad hr _ (by omega) hn1le hs2 _ R).mono ?_; rw [HeE.out]; unfold expE; rintro e w' ⟨rfl, rfl⟩)
          go_cut [4, 5, 6] from 7 (fun tv xv kv wx => tv = .int .i64 ((n1 + e.2 : Nat) : Int) ∧ xv = .string ⟨(d.1 ++ f.1 ++ e.1).toArray⟩ ∧ kv = .int .i64 K2 ∧ w = wx)
          case first =>
            by_cases he1 : e.1 = []
            · have he2 : e.1.isEmpty = true := by rw [he1]; rfl
              have hn : (n1 : Int) = ((n1 + e.2 : Nat) : Int) := by rw [He0.out he1]; rfl
              have hx : (⟨(d.1 ++ f.1).toArray⟩ : ByteArray) = ⟨(d.1 ++ f.1 ++ e.1).toArray⟩ := by rw [he1, List.append_nil]
              have hk3 : K1 = K2 := by rw [← HK1.out, ← HK2.out]; simp only [he1, and_true]
              have Hn := Lib.hid hn
              have Hk3 := Lib.hid hk3
              have Hx := Lib.hid hx
              clear he1 hn hk3 hx
              simp only [he2, Bool.not_true]
              go_wp2
              go_meet
              exact ⟨congrArg (Value.int .i64) Hn.out, congrArg Value.string Hx.out, congrArg (Value.int .i64) Hk3.out, rfl⟩
            · have he2 : e.1.isEmpty = false := by cases h : e.1 with
                | nil => exact absurd h he1
                | cons a t => rfl
              have hk3 : (4 : Int) = K2 := by rw [← HK2.out, if_neg (fun h => he1 h.2)]
              have hc1 := bcat (d.1 ++ f.1) e.1
              have Hk3 := Lib.hid hk3
              have Hc1 := Lib.hid hc1
              have hsz : (d.1 ++ f.1).length + e.1.length ≤ 9223372036854775807 := by rw [List.length_append]; omega
              clear he1 hk3 hc1
              simp only [he2, Bool.not_false]
              go_wp2
              go_meet
              refine ⟨?_, congrArg Value.string Hc1.out, congrArg (Value.int .i64) Hk3.out, rfl⟩
              first | rfl | (congr 1; push_cast; rfl)
          case rest =>
            obtain ⟨rfl, rfl, rfl, rfl⟩ := hcut
            have hlen : (d.1 ++ f.1 ++ e.1).length ≤ 140737488355328 := by rw [List.length_append, List.length_append]; omega
            have hle : Sp.rsize (d.1 ++ f.1 ++ e.1) ≤ 140737488355328 := Nat.le_trans (Sp.rsize_le _) hlen
            generalize hx : d.1 ++ f.1 ++ e.1 = x at *
            have Hlen := Lib.hid hlen
            clear hlen
            generalize hq : Sp.rsize x = q at *
            have Hq := Lib.hid hq
            clear hq
            by_cases h100 : 100 < q
            · have h100' : (100 : Int) < (q : Int) := by omega
              go_wp2_with (first
                | (go_at_call 223; refine (rsize_i x _ rfl Hlen.out _).mono ?_; rw [Hq.out]; rintro e w' ⟨rfl, rfl⟩)
                | (go_at_call 147; refine (rfail_first B g s i rg out A c bad 3 _ _ H).mono ?_; rintro e w3 ⟨rfl, hs3, hb3⟩)
                | (go_at_call 151; have tk := hs3; clear tk; refine (radd_l x (n1 + e.2) B g s i rg out A c 3 _ K2 _ rfl _ (by omega) _ hs3 hl).mono ?_; rintro e w4 ⟨rfl, ⟨A', c', hs4⟩, hb4⟩))
              go_end0
              rw [hfin.out, ← HcountB.out, if_pos h100]
              exact ⟨rfl, ⟨_, _, _, _, _, hs4⟩, hb3.trans hb4⟩
            · have h100' : ¬ (100 : Int) < (q : Int) := by omega
              go_wp2_with (first
                | (go_at_call 223; refine (rsize_i x _ rfl Hlen.out _).mono ?_; rw [Hq.out]; rintro e w' ⟨rfl, rfl⟩)
                | (go_at_call 151; refine (radd_l x (n1 + e.2) B g s i rg out A c 0 bad K2 _ rfl _ (by omega) _ H hl).mono ?_; rintro e w4 ⟨rfl, hs4, hb4⟩))
              go_end0
              rw [hfin.out, ← HcountB.out, if_neg h100]
              refine ⟨rfl, ?_, hb4⟩
              rw [show i + (n1 + e.2 - i) = n1 + e.2 by omega]
              exact hs4
end Go.Proofs.YtjghijeblddijaaGreatDoor
