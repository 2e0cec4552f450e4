/- Walks of the reference of chapter 04: text, format. Walks of the reference of chapter 04: tag. -/
import Derived.Test.YtjghijeblddijaaGreatDoorRefWalkA
namespace Go.Proofs.YtjghijeblddijaaGreatDoor
open Go.RowKit
set_option maxRecDepth 100000 in
set_option maxHeartbeats 4000000 in
theorem rtext_c (B g : Nat) (s : ByteArray) (i : Nat) (rg bad : Int) (out : List Sp.Sym) (A : Option Addr) (c : Nat) (w : World) (H : Ref B w g s i rg out A c 0 bad) (hi : i < s.size) (hs : s.size ≤ 140737488355328) (hl : out.length ≤ 1000000) :
    Calls Tryz.prog 157 #[.pointer (some ⟨g, 0, none⟩)] w (RPost B w g s i rg bad out (Sp.quoted ((bs s).drop i))) := by
  have hBw : B ≤ w.heap.size := Nat.le_trans H.base (Nat.le_of_lt H.lt)
  obtain ⟨c0, c1, c2, c4, c5⟩ := H.R
  go_enter Tryz.func157, Tryz.ntmps157
  go_wp2
  go_quiet (fail)
  have hB1 : Below B w (w.drewN nq) := bdrewN (Below.refl _ _) nq
  have H1 := H.later (bdrewN (Below.refl _ _) nq)
  have hHB : Hid (Below B w (w.drewN nq)) := Lib.hid hB1
  clear hB1
  clear c0 c1 c2 c4 c5
  generalize w.drewN nq = W at *
  obtain ⟨c0, c1, c2, c4, c5⟩ := H1.R
  have R1 := H1.R
  go_wp2
  go_loop [3, 4, 5] (fun t o _ => ∃ (k : Nat) (bb : List UInt8), k ≤ s.size ∧ i < k ∧ t = .int .i64 k ∧ o = .string ⟨bb.toArray⟩ ∧ bb.length ≤ k ∧
      Hid (Sp.quotedGo ((bs s).drop (i + 1)) 1 = Sp.pre bb (Sp.quotedGo ((bs s).drop k) (k - i)))) (fun t _ _ => s.size - (intOf t).toNat)
  case atStart => exact ⟨i + 1, [], by omega, by omega, by go_num, rfl, by simp, Lib.hid (by rw [Sp.pre_nil]; congr 1; omega)⟩
  case round =>
    obtain ⟨k, bb, hk, hik, rfl, rfl, hbb, hh⟩ := hrel
    by_cases hlt : k < s.size
    · have hd := Lib.hid (bs_drop s k hlt)
      by_cases hq : s[k] = 34
      · have e34 : ((s[k].toNat : Int) == 34) = true := by rw [hq]; rfl
        have e9 : ((s[k].toNat : Int) == 9) = false := by rw [hq]; rfl
        have e10 : ((s[k].toNat : Int) == 10) = false := by rw [hq]; rfl
        have hp : Sp.permitted s[k] = true := by rw [hq]; decide
        have Hq := Lib.hid hq
        clear hq
        by_cases hq2 : bat s (k + 1) = 34
        · have hk1 : k + 1 < s.size := bat_lt s _ (by rw [hq2]; decide)
          have e35 : (((bat s (k + 1)).toNat : Int) != 34) = false := by rw [hq2]; rfl
          have hd2 := Lib.hid (bs_drop s (k + 1) hk1)
          have hex := Lib.hid (extract_bat s (k + 1) hk1)
          have hcat := Lib.hid (bcat bb [bat s (k + 1)])
          have hx1 : bb.length + 1 ≤ 9223372036854775807 := by omega
          have Hq2 := Lib.hid hq2
          clear hq2
          go_wp2_with (first | (go_at_call 153; refine (rat_i (k + 1) g s i rg 0 bad _ (by omega) _ R1).mono ?_; rintro e w' ⟨rfl, rfl⟩) | (go_at_call 146; refine (rByte_c _ _).mono ?_; rw [hp]; rintro e w' ⟨rfl, rfl⟩))
          go_round
          case rel =>
            refine ⟨k + 2, bb ++ [34], by omega, by omega, by go_num, ?_, by simp; omega, Lib.hid ?_⟩
            · rw [← Hq2.out, ← hcat.out, ← hex.out]
            · have e := Sp.quotedGo_two ((bs s).drop (k + 1 + 1)) (k - i)
              have e2 := Hq2.out
              rw [bat_in s _ hk1] at e2
              rw [hh.out, hd.out, hd2.out, Hq.out, e2, e, Sp.pre_pre]
              congr 2
              omega
          case measure => simp [intOf]; omega
        · have e35 := byte_ne _ 34 34 rfl hq2
          have hfin := Lib.hid (quoted_ok s i (k - i + 1) bb (by
            have hne : ((bs s).drop (k + 1)).getD 0 0 ≠ 34 := by rw [getD_bat]; exact hq2
            rw [hh.out, hd.out, Hq.out, Sp.quotedGo_end _ _ hne]; simp [Sp.pre]))
          clear hq2
          go_wp2_with (first | (go_at_call 153; refine (rat_i (k + 1) g s i rg 0 bad _ (by omega) _ R1).mono ?_; rintro e w' ⟨rfl, rfl⟩) | (go_at_call 151; refine (radd_c B g s i rg out A c 0 bad 6 _ _ _ _ H1 hl).mono ?_; rintro e w3 ⟨rfl, hs3, hb3⟩))
          go_end0
          rw [hfin.out]
          refine ⟨rfl, ?_, hHB.out.trans hb3⟩
          rw [show ((i + (k - i + 1) : Nat) : Int) = (k : Int) + 1 by omega]
          simpa [bs_of] using hs3
      · have e34 := byte_isnt _ 34 34 rfl hq
        have Hq := Lib.hid (show s[k] ≠ 34 from hq)
        clear hq
        by_cases hln : s[k] = 9 ∨ s[k] = 10
        · have hp : Sp.permitted s[k] = true := by rcases hln with h | h <;> rw [h] <;> decide
          have hfin := Lib.hid (quoted_err s i (k - i) 9 (by rw [hh.out, hd.out, Sp.quotedGo_line _ _ _ hp hln]; rfl))
          clear hp
          have hgd : ((s[k].toNat : Int) == 9) = true ∨ (((s[k].toNat : Int) == 9) = false ∧ ((s[k].toNat : Int) == 10) = true) := by
            rcases hln with h | h
            · exact .inl (by rw [h]; rfl)
            · exact .inr ⟨by rw [h]; rfl, by rw [h]; rfl⟩
          clear hln
          rcases hgd with e9 | ⟨e9, e10⟩
          all_goals
            go_wp2_with (first | (go_at_call 147; refine (rfail_first B g s i rg out A c bad 9 _ _ H1).mono ?_; rintro e w3 ⟨rfl, hs3, hb3⟩))
            go_end0
            rw [hfin.out]
            exact ⟨rfl, ⟨_, _, _, _, _, by rw [show (i + (k - i) : Nat) = k by omega]; exact hs3⟩, hHB.out.trans hb3⟩
        · have hln' := not_or.1 hln
          have e9 := byte_isnt _ 9 9 rfl hln'.1
          have e10 := byte_isnt _ 10 10 rfl hln'.2
          have Hln := Lib.hid hln
          clear hln hln'
          cases hp : Sp.permitted s[k] with
          | true =>
            have hex := Lib.hid (extract_bat s k hlt)
            have hcat := Lib.hid (bcat bb [bat s k])
            have hx1 : bb.length + 1 ≤ 9223372036854775807 := by omega
            go_wp2_with (first | (go_at_call 146; refine (rByte_c _ _).mono ?_; rw [hp]; rintro e w' ⟨rfl, rfl⟩))
            go_round
            case rel =>
              refine ⟨k + 1, bb ++ [s[k]], by omega, by omega, by go_num, ?_, by simp; omega, Lib.hid ?_⟩
              · rw [← bat_in s k hlt, ← hcat.out, ← hex.out]
              · rw [hh.out, hd.out, Sp.quotedGo_any _ _ _ hp Hln.out Hq.out, Sp.pre_pre]
                congr 2
                omega
            case measure => simp [intOf]; omega
          | false =>
            have hfin := Lib.hid (quoted_err s i (k - i) 2 (by rw [hh.out, hd.out, Sp.quotedGo_bad _ _ _ hp]; rfl))
            go_wp2_with (first | (go_at_call 146; refine (rByte_c _ _).mono ?_; rw [hp]; rintro e w' ⟨rfl, rfl⟩) | (go_at_call 147; refine (rfail_first B g s i rg out A c bad 2 _ _ H1).mono ?_; rintro e w3 ⟨rfl, hs3, hb3⟩))
            go_end0
            rw [hfin.out]
            exact ⟨rfl, ⟨_, _, _, _, _, by rw [show (i + (k - i) : Nat) = k by omega]; exact hs3⟩, hHB.out.trans hb3⟩
    · have hfin := Lib.hid (quoted_err s i 0 16 (by rw [hh.out, bs_drop_end s k (by omega)]; rfl))
      go_wp2_with (first | (go_at_call 147; refine (rfail_first B g s i rg out A c bad 16 _ _ H1).mono ?_; rintro e w3 ⟨rfl, hs3, hb3⟩))
      go_end0
      rw [hfin.out]
      exact ⟨rfl, ⟨_, _, _, _, _, hs3⟩, hHB.out.trans hb3⟩
set_option maxRecDepth 100000 in
set_option maxHeartbeats 4000000 in
theorem rformat_c (B g : Nat) (s : ByteArray) (i : Nat) (rg bad : Int) (out : List Sp.Sym) (A : Option Addr) (c : Nat) (w : World) (H : Ref B w g s i rg out A c 0 bad) (hi : i < s.size) (hs : s.size ≤ 140737488355328) (hl : out.length ≤ 1000000) :
    Calls Tryz.prog 158 #[.pointer (some ⟨g, 0, none⟩)] w (RPost B w g s i rg bad out (Sp.format ((bs s).drop i))) := by
  have hBw : B ≤ w.heap.size := Nat.le_trans H.base (Nat.le_of_lt H.lt)
  obtain ⟨c0, c1, c2, c4, c5⟩ := H.R
  go_enter Tryz.func158, Tryz.ntmps158
  go_wp2
  go_quiet (fail)
  have hB1 : Below B w (w.drewN nq) := bdrewN (Below.refl _ _) nq
  have H1 := H.later (bdrewN (Below.refl _ _) nq)
  have hHB : Hid (Below B w (w.drewN nq)) := Lib.hid hB1
  clear hB1
  clear c0 c1 c2 c4 c5
  generalize w.drewN nq = W at *
  obtain ⟨c0, c1, c2, c4, c5⟩ := H1.R
  have R1 := H1.R
  go_wp2
  go_loop [3, 4, 5] (fun t b _ => ∃ (k : Nat) (q : Bool), k ≤ s.size ∧ i < k ∧ t = .int .i64 k ∧ b = .bool q ∧
      Hid (Sp.formatGo ((bs s).drop (i + 1)) 1 false = Sp.pre (((bs s).drop (i + 1)).take (k - (i + 1))) (Sp.formatGo ((bs s).drop k) (k - i) q))) (fun t _ _ => s.size - (intOf t).toNat)
  case atStart => exact ⟨i + 1, false, by omega, by omega, by go_num, rfl, Lib.hid (by rw [show i + 1 - (i + 1) = 0 by omega, List.take_zero, Sp.pre_nil]; congr 1; omega)⟩
  case round =>
    obtain ⟨k, q, hk, hik, rfl, rfl, hh⟩ := hrel
    by_cases hlt : k < s.size
    · have hd := Lib.hid (bs_drop s k hlt)
      have hmid := Lib.hid (mid_snoc s (i + 1) k hlt (by omega))
      by_cases hend : s[k] = 36 ∧ q = false
      · obtain ⟨hx, rfl⟩ := hend
        have e36 : ((s[k].toNat : Int) == 36) = true := by rw [hx]; rfl
        have hfin := Lib.hid (format_ok s i (k - i + 1) (((bs s).drop (i + 1)).take (k - (i + 1))) (by
          rw [hh.out, hd.out, hx, Sp.formatGo_end]; simp [Sp.pre]))
        have hex := Lib.hid (extract_eq s (i + 1) k)
        have x1 : (0 : Int) ≤ (i : Int) + 1 := by omega
        have x2 : (i : Int) + 1 ≤ (k : Int) := by omega
        have x3 : (k : Int) ≤ (s.size : Int) := by omega
        clear hx
        go_wp2_with (first | (go_at_call 151; refine (radd_c B g s i rg out A c 0 bad 7 _ _ _ _ H1 hl).mono ?_; rintro e w3 ⟨rfl, hs3, hb3⟩))
        go_end0
        rw [hfin.out]
        refine ⟨rfl, ?_, hHB.out.trans hb3⟩
        rw [show ((i + (k - i + 1) : Nat) : Int) = (k : Int) + 1 by omega]
        rw [hex.out] at hs3
        simpa [bs_of] using hs3
      · have hgd : ((s[k].toNat : Int) == 36) = false ∨ (((s[k].toNat : Int) == 36) = true ∧ q = true) := by
          by_cases hx : s[k] = 36
          · exact .inr ⟨by rw [hx]; rfl, by cases q; exact absurd ⟨hx, rfl⟩ hend; rfl⟩
          · exact .inl (byte_isnt _ 36 36 rfl hx)
        have Hend := Lib.hid hend
        clear hend
        cases hp : Sp.permitted s[k] with
        | false =>
          have hfin := Lib.hid (format_err s i (k - i) 2 (by rw [hh.out, hd.out, Sp.formatGo_bad _ _ _ _ hp]; rfl))
          rcases hgd with e36 | ⟨e36, rfl⟩
          all_goals
            go_wp2_with (first | (go_at_call 146; refine (rByte_c _ _).mono ?_; rw [hp]; rintro e w' ⟨rfl, rfl⟩) | (go_at_call 147; refine (rfail_first B g s i rg out A c bad 2 _ _ H1).mono ?_; rintro e w3 ⟨rfl, hs3, hb3⟩))
            go_end0
            rw [hfin.out]
            exact ⟨rfl, ⟨_, _, _, _, _, by rw [show (i + (k - i) : Nat) = k by omega]; exact hs3⟩, hHB.out.trans hb3⟩
        | true =>
          by_cases hln : s[k] = 9 ∨ s[k] = 10
          · have hfin := Lib.hid (format_err s i (k - i) 9 (by rw [hh.out, hd.out, Sp.formatGo_line _ _ _ _ hp hln]; rfl))
            have hgl : ((s[k].toNat : Int) == 9) = true ∨ (((s[k].toNat : Int) == 9) = false ∧ ((s[k].toNat : Int) == 10) = true) := by
              rcases hln with h | h
              · exact .inl (by rw [h]; rfl)
              · exact .inr ⟨by rw [h]; rfl, by rw [h]; rfl⟩
            have e36 : ((s[k].toNat : Int) == 36) = false := by rcases hln with h | h <;> rw [h] <;> rfl
            clear hln hgd
            rcases hgl with e9 | ⟨e9, e10⟩
            all_goals
              go_wp2_with (first | (go_at_call 146; refine (rByte_c _ _).mono ?_; rw [hp]; rintro e w' ⟨rfl, rfl⟩) | (go_at_call 147; refine (rfail_first B g s i rg out A c bad 9 _ _ H1).mono ?_; rintro e w3 ⟨rfl, hs3, hb3⟩))
              go_end0
              rw [hfin.out]
              exact ⟨rfl, ⟨_, _, _, _, _, by rw [show (i + (k - i) : Nat) = k by omega]; exact hs3⟩, hHB.out.trans hb3⟩
          · have hln' := not_or.1 hln
            have e9 := byte_isnt _ 9 9 rfl hln'.1
            have e10 := byte_isnt _ 10 10 rfl hln'.2
            have Hln := Lib.hid hln
            clear hln hln'
            have hstep := Lib.hid (Sp.formatGo_any s[k] ((bs s).drop (k + 1)) (k - i) q hp Hln.out Hend.out)
            have hq34 : (((s[k].toNat : Int) == 34) = true ∧ Hid (s[k] = 34)) ∨ (((s[k].toNat : Int) == 34) = false ∧ Hid (¬ s[k] = 34)) := by
              by_cases h : s[k] = 34
              · exact .inl ⟨byte_is _ 34 34 rfl h, Lib.hid h⟩
              · exact .inr ⟨byte_isnt _ 34 34 rfl h, Lib.hid h⟩
            rcases hgd with e36 | ⟨e36, rfl⟩
            all_goals
              rcases hq34 with ⟨e34, Hq⟩ | ⟨e34, Hq⟩
              · go_wp2_with (first | (go_at_call 146; refine (rByte_c _ _).mono ?_; rw [hp]; rintro e w' ⟨rfl, rfl⟩))
                go_round
                case rel =>
                  refine ⟨k + 1, _, by omega, by omega, by go_num, rfl, Lib.hid ?_⟩
                  rw [hh.out, hd.out, hstep.out, Sp.pre_pre, hmid.out, if_pos Hq.out]
                  congr 2
                  omega
                case measure => simp [intOf]; omega
              · go_wp2_with (first | (go_at_call 146; refine (rByte_c _ _).mono ?_; rw [hp]; rintro e w' ⟨rfl, rfl⟩))
                go_round
                case rel =>
                  refine ⟨k + 1, _, by omega, by omega, by go_num, rfl, Lib.hid ?_⟩
                  rw [hh.out, hd.out, hstep.out, Sp.pre_pre, hmid.out, if_neg Hq.out]
                  congr 2
                  omega
                case measure => simp [intOf]; omega
    · have hfin := Lib.hid (format_err s i 0 16 (by rw [hh.out, bs_drop_end s k (by omega)]; rfl))
      go_wp2_with (first | (go_at_call 147; refine (rfail_first B g s i rg out A c bad 16 _ _ H1).mono ?_; rintro e w3 ⟨rfl, hs3, hb3⟩))
      go_end0
      rw [hfin.out]
      exact ⟨rfl, ⟨_, _, _, _, _, hs3⟩, hHB.out.trans hb3⟩
end Go.Proofs.YtjghijeblddijaaGreatDoor
namespace Go.Proofs.YtjghijeblddijaaGreatDoor
open Go.RowKit
/-- string([]byte{c}) -/
theorem one_byte (W : World) (v : Value) (c : UInt8) (hv : v = .int .u8 (c.toNat : Int)) :
    (convert 104 9 (.slice (some ⟨W.heap.size, 0, none⟩) 1 1)).run Tryz.prog (W.alloc (.cells #[v] 5)) = .ok (.string ⟨[c].toArray⟩) (W.alloc (.cells #[v] 5)) := by
  subst hv
  have hh := run_convert_bytes_arg (W.alloc (.cells #[.int .u8 (c.toNat : Int)] 5)) 104 5 Tryz.underlying104 Tryz.underlying5 W.heap.size 0 1 1 [(c.toNat : Int)] (by simp) (fun i hi => ?_) 9 Tryz.underlying9
  · rw [show strOfNums [(c.toNat : Int)] = ⟨[c].toArray⟩ from nums_of [c]] at hh
    exact hh
  · obtain rfl : i = 0 := by omega
    rw [cell_of_blk (heap_alloc_new W _)]
    rfl
/-- What stands ahead is read: x so far, the rest from 'to' on. -/
def SprRest (p : UInt8 → Bool) (s : ByteArray) (i : Nat) (x : List UInt8) (to : Nat) : Prop :=
  (Sp.spread p ((bs s).drop i)).1 = x ++ (Sp.spreadGo p ((bs s).drop to) 0).1 ∧ i + (Sp.spread p ((bs s).drop i)).2 = to + (Sp.spreadGo p ((bs s).drop to) 0).2
theorem SprRest.start {p : UInt8 → Bool} {s : ByteArray} {i : Nat} (h : i < s.size) (hp : p (bat s i) = true) (hb : Sp.blank (bat s i) = false) : SprRest p s i [] i := by
  obtain ⟨_, hd⟩ | ⟨h1, _⟩ := drop_bat s i
  · have e : Sp.spreadGo p ((bs s).drop i) 0 = Sp.spread p ((bs s).drop i) := by
      rw [hd, Sp.spread_yes p _ _ hp, Sp.spreadGo.eq_def]
      dsimp only
      rw [if_neg (by rw [hb]; decide), if_pos hp, Nat.zero_add]
    exact ⟨by rw [e]; rfl, by rw [e]⟩
  · omega
theorem SprRest.step {p : UInt8 → Bool} {s : ByteArray} {i : Nat} {x : List UInt8} {to b : Nat} (h : SprRest p s i x to) (hb : Sp.bl ((bs s).drop to) = b) (hlt : to + b < s.size) (hp : p (bat s (to + b)) = true) : SprRest p s i (x ++ [Sp.low (bat s (to + b))]) (to + b + 1) := by
  have htl : Sp.tl ((bs s).drop to) = (bs s).drop (to + b) := by unfold Sp.tl; rw [List.drop_drop, hb]
  have e : Sp.spreadGo p ((bs s).drop to) 0 = (Sp.low (bat s (to + b)) :: (Sp.spreadGo p ((bs s).drop (to + b + 1)) 0).1, b + 1 + (Sp.spreadGo p ((bs s).drop (to + b + 1)) 0).2) := by
    obtain ⟨_, hd⟩ | ⟨h1, _⟩ := drop_bat s (to + b)
    · rcases Sp.spreadGo_at p ((bs s).drop to) with ⟨c, t, e1, e2, e3⟩ | ⟨h1, _⟩
      · rw [htl, hd] at e1
        injection e1 with e1 e4
        rw [e3, ← e1, ← e4, hb]
      · rw [htl] at h1
        exact absurd (h1 _ _ hd) (by rw [hp]; decide)
    · omega
  obtain ⟨h1, h2⟩ := h
  rw [e] at h1 h2
  exact ⟨by rw [h1, List.append_assoc]; rfl, by rw [h2]; dsimp only; omega⟩
theorem SprRest.stop {p : UInt8 → Bool} {s : ByteArray} {i : Nat} {x : List UInt8} {to b : Nat} (h : SprRest p s i x to) (hb : Sp.bl ((bs s).drop to) = b) (hp : p (bat s (to + b)) = false) : (Sp.spread p ((bs s).drop i)).1 = x ∧ i + (Sp.spread p ((bs s).drop i)).2 = to := by
  have htl : Sp.tl ((bs s).drop to) = (bs s).drop (to + b) := by unfold Sp.tl; rw [List.drop_drop, hb]
  have e : Sp.spreadGo p ((bs s).drop to) 0 = ([], 0) := by
    rcases Sp.spreadGo_at p ((bs s).drop to) with ⟨c, t, e1, e2, e3⟩ | ⟨_, h2⟩
    · rw [htl] at e1
      obtain ⟨_, hd⟩ | ⟨_, hd, _⟩ := drop_bat s (to + b)
      · rw [hd] at e1
        injection e1 with e1 e4
        rw [e1, e2] at hp; cases hp
      · rw [hd] at e1; cases e1
    · exact h2
  obtain ⟨h1, h2⟩ := h
  rw [e] at h1 h2
  exact ⟨by rw [h1, List.append_nil], h2⟩
theorem tag_count (r : Nat) (l : List UInt8) : Sp.count (Sp.spread (fun c => Sp.letter r c || Sp.digit c) l).1 = (Sp.spread (fun c => Sp.letter r c || Sp.digit c) l).1.length := by
  unfold Sp.count
  rw [List.filter_eq_self.2]
  intro x hx
  obtain ⟨c, hc, rfl⟩ := Sp.spread_mem _ l x hx
  simp only [Bool.or_eq_true] at hc ⊢
  rcases hc with hc | hc
  · right
    simp only [Sp.letter, Bool.or_eq_true, Bool.and_eq_true] at hc
    have hs : Sp.small (Sp.low c) = true := by
      rcases hc with hc | ⟨_, hc⟩
      · have : Sp.low c = c := by
          unfold Sp.low
          rw [if_neg]
          intro h
          rw [Sp.small_iff] at hc; rw [Sp.capital_iff] at h; omega
        rw [this]; exact hc
      · rw [Sp.small_iff, Sp.low_int, if_pos hc]
        rw [Sp.capital_iff] at hc; omega
    have : Sp.low (Sp.low c) = Sp.low c := by
      generalize Sp.low c = d at hs
      unfold Sp.low
      rw [if_neg]
      intro h
      rw [Sp.small_iff] at hs; rw [Sp.capital_iff] at h; omega
    rw [this]; exact hs
  · left
    exact ((Sp.digit_facts c hc).2.1).symm ▸ hc
theorem head_letter (r : Nat) (c : UInt8) (h : (Sp.letter r c || Sp.digit c) = true) : Sp.blank c = false := by
  rw [Bool.eq_false_iff]
  intro hb
  rw [Sp.blank_iff] at hb
  rw [Bool.or_eq_true, Sp.digit_iff] at h
  simp only [Sp.letter, Bool.or_eq_true, Bool.and_eq_true, Sp.small_iff, Sp.capital_iff] at h
  omega
theorem tag_some (r : Nat) (s : ByteArray) (i to : Nat) (x : List UInt8) (h : (Sp.spread (fun c => Sp.letter r c || Sp.digit c) ((bs s).drop i)).1 = x ∧ i + (Sp.spread (fun c => Sp.letter r c || Sp.digit c) ((bs s).drop i)).2 = to) :
    Sp.tag r ((bs s).drop i) = if 40 < x.length then .fault 0 3 else .sym 2 x (to - i) := by
  unfold Sp.tag
  dsimp only
  rw [tag_count, h.1, show (Sp.spread (fun c => Sp.letter r c || Sp.digit c) ((bs s).drop i)).2 = to - i from by omega]
set_option maxRecDepth 100000 in
set_option maxHeartbeats 4000000 in
theorem rtag_c (B g : Nat) (s : ByteArray) (i : Nat) (rg bad : Int) (hr : 0 ≤ rg) (out : List Sp.Sym) (A : Option Addr) (c : Nat) (w : World) (H : Ref B w g s i rg out A c 0 bad) (hi : i < s.size) (hs : s.size ≤ 140737488355328) (hl : out.length ≤ 1000000) (hh0 : Sp.letter rg.toNat (bat s i) = true) :
    Calls Tryz.prog 156 #[.pointer (some ⟨g, 0, none⟩)] w (RPost B w g s i rg bad out (Sp.tag rg.toNat ((bs s).drop i))) := by
  have hBw : B ≤ w.heap.size := Nat.le_trans H.base (Nat.le_of_lt H.lt)
  obtain ⟨c0, c1, c2, c4, c5⟩ := H.R
  have hstart := Lib.hid (SprRest.start (p := fun c => Sp.letter rg.toNat c || Sp.digit c) hi (by rw [hh0]; rfl) (head_letter rg.toNat _ (by rw [hh0]; rfl)))
  clear hh0
  go_enter Tryz.func156, Tryz.ntmps156
  go_wp2
  go_quiet (fail)
  have hB1 : Below B w (w.drewN nq) := bdrewN (Below.refl _ _) nq
  have H1 := H.later (bdrewN (Below.refl _ _) nq)
  have hB2 : B ≤ (w.drewN nq).heap.size := Nat.le_trans H1.base (Nat.le_of_lt H1.lt)
  have hHB : Hid (Below B w (w.drewN nq)) := Lib.hid hB1
  clear hB1
  clear c0 c1 c2 c4 c5
  generalize w.drewN nq = W at *
  obtain ⟨c0, c1, c2, c4, c5⟩ := H1.R
  go_wp2
  go_loopw [3, 4, 5, 6] (fun t o _ _ wr => ∃ (to : Nat) (x : List UInt8), to ≤ s.size ∧ x.length ≤ to ∧ t = .int .i64 to ∧ o = .string ⟨x.toArray⟩ ∧ Below W.heap.size W wr ∧ Hid (SprRest (fun c => Sp.letter rg.toNat c || Sp.digit c) s i x to)) (fun t _ _ _ _ => s.size - (intOf t).toNat)
  case atStart => exact ⟨i, [], by omega, by simp, rfl, rfl, Below.refl _ _, hstart⟩
  case round =>
    obtain ⟨to, x, hto, hxl, rfl, rfl, hB, hh⟩ := hrel
    have H2 := H1.later hB
    have R2 := H2.R
    clear c0 c1 c2 c4 c5
    obtain ⟨c0, c1, c2, c4, c5⟩ := H2.R
    have hbd := bl_bound s to hto
    generalize hb : Sp.bl ((bs s).drop to) = b at hbd
    have Hb := Lib.hid hb
    clear hb
    have hgo : (Sp.letter rg.toNat (bat s (to + b)) || Sp.digit (bat s (to + b))) = true → to + b < s.size := fun h => bat_lt s _ (by
      intro h0; rw [h0, letter_zero] at h; revert h; decide)
    have hxs : x.length + 1 ≤ 9223372036854775807 := by omega
    cases hlet : Sp.letter rg.toNat (bat s (to + b)) with
    | true =>
      have hlt := hgo (by rw [hlet]; rfl)
      have hstep := Lib.hid (hh.out.step Hb.out hlt (by rw [hlet]; rfl))
      have hcat := Lib.hid (bcat x [Sp.low (bat s (to + b))])
      have hcv := one_byte wr _ (Sp.low (bat s (to + b))) rfl
      have Hbat := Lib.hid (bat_in s _ hlt)
      clear hgo
      go_wp2_with (first
        | (go_at_call 219; refine (rbehind_i to g s i rg 0 bad _ (by omega) hto hs _ R2).mono ?_; rw [Hb.out]; rintro e w' ⟨rfl, rfl⟩)
        | (go_at_call 153; refine (rat_i (to + b) g s i rg 0 bad _ (by omega) _ R2).mono ?_; rintro e w' ⟨rfl, rfl⟩)
        | (go_at_call 155; refine (rletter_c g s i rg 0 bad hr _ _ R2).mono ?_; rw [hlet]; rintro e w' ⟨rfl, rfl⟩)
        | (go_at_call 128; refine (rlower_c _ _).mono ?_; rw [← Hbat.out]; rintro e w' ⟨rfl, rfl⟩))
      go_roundw
      case rel =>
        refine ⟨to + b + 1, x ++ [Sp.low (bat s (to + b))], by omega, by simp; omega, by go_num, ?_, below_alloc0 hB _, hstep⟩
        rw [hcat.out]
      case measure => simp [intOf]; omega
    | false =>
      cases hdig : Sp.digit (bat s (to + b)) with
      | true =>
        have hlt := hgo (by rw [hdig]; cases Sp.letter rg.toNat (bat s (to + b)) <;> rfl)
        have hstep := Lib.hid (hh.out.step Hb.out hlt (by rw [hlet, hdig]; rfl))
        have hcat := Lib.hid (bcat x [Sp.low (bat s (to + b))])
        have hcv := one_byte wr _ (Sp.low (bat s (to + b))) rfl
        have Hbat := Lib.hid (bat_in s _ hlt)
        clear hgo
        go_wp2_with (first
          | (go_at_call 219; refine (rbehind_i to g s i rg 0 bad _ (by omega) hto hs _ R2).mono ?_; rw [Hb.out]; rintro e w' ⟨rfl, rfl⟩)
          | (go_at_call 153; refine (rat_i (to + b) g s i rg 0 bad _ (by omega) _ R2).mono ?_; rintro e w' ⟨rfl, rfl⟩)
          | (go_at_call 155; refine (rletter_c g s i rg 0 bad hr _ _ R2).mono ?_; rw [hlet]; rintro e w' ⟨rfl, rfl⟩)
          | (go_at_call 152; refine (rdigit_c _ _).mono ?_; rw [hdig]; rintro e w' ⟨rfl, rfl⟩)
          | (go_at_call 128; refine (rlower_c _ _).mono ?_; rw [← Hbat.out]; rintro e w' ⟨rfl, rfl⟩))
        go_roundw
        case rel =>
          refine ⟨to + b + 1, x ++ [Sp.low (bat s (to + b))], by omega, by simp; omega, by go_num, ?_, below_alloc0 hB _, hstep⟩
          rw [hcat.out]
        case measure => simp [intOf]; omega
      | false =>
        have hfin := Lib.hid (tag_some rg.toNat s i to x (hh.out.stop Hb.out (by rw [hlet, hdig]; rfl)))
        have hto2 : Hid (i ≤ to) := Lib.hid (by have := (hh.out.stop Hb.out (by rw [hlet, hdig]; rfl)).2; omega)
        have hxl2 : (x.length : Int) ≤ 140737488355328 := by omega
        clear hgo
        by_cases h40 : 40 < x.length
        · have h40' : (40 : Int) < (x.length : Int) := by omega
          go_wp2_with (first
            | (go_at_call 219; refine (rbehind_i to g s i rg 0 bad _ (by omega) hto hs _ R2).mono ?_; rw [Hb.out]; rintro e w' ⟨rfl, rfl⟩)
            | (go_at_call 153; refine (rat_i (to + b) g s i rg 0 bad _ (by omega) _ R2).mono ?_; rintro e w' ⟨rfl, rfl⟩)
            | (go_at_call 155; refine (rletter_c g s i rg 0 bad hr _ _ R2).mono ?_; rw [hlet]; rintro e w' ⟨rfl, rfl⟩)
            | (go_at_call 152; refine (rdigit_c _ _).mono ?_; rw [hdig]; rintro e w' ⟨rfl, rfl⟩)
            | (go_at_call 147; refine (rfail_first B g s i rg out A c bad 3 _ _ H2).mono ?_; rintro e w3 ⟨rfl, hs3, hb3⟩)
            | (go_at_call 151; refine (radd_c B g s i rg out A c 3 _ 2 _ _ _ _ hs3 hl).mono ?_; rintro e w4 ⟨rfl, ⟨A', c', hs4⟩, hb4⟩))
          go_end0
          rw [hfin.out, if_pos h40]
          exact ⟨rfl, ⟨_, _, _, _, _, hs4⟩, ((hHB.out.trans (hB.mono hB2)).trans hb3).trans hb4⟩
        · have h40' : ¬ (40 : Int) < (x.length : Int) := by omega
          go_wp2_with (first
            | (go_at_call 219; refine (rbehind_i to g s i rg 0 bad _ (by omega) hto hs _ R2).mono ?_; rw [Hb.out]; rintro e w' ⟨rfl, rfl⟩)
            | (go_at_call 153; refine (rat_i (to + b) g s i rg 0 bad _ (by omega) _ R2).mono ?_; rintro e w' ⟨rfl, rfl⟩)
            | (go_at_call 155; refine (rletter_c g s i rg 0 bad hr _ _ R2).mono ?_; rw [hlet]; rintro e w' ⟨rfl, rfl⟩)
            | (go_at_call 152; refine (rdigit_c _ _).mono ?_; rw [hdig]; rintro e w' ⟨rfl, rfl⟩)
            | (go_at_call 151; refine (radd_c B g s i rg out A c 0 bad 2 _ _ _ _ H2 hl).mono ?_; rintro e w4 ⟨rfl, hs4, hb4⟩))
          go_end0
          rw [hfin.out, if_neg h40]
          refine ⟨rfl, ?_, (hHB.out.trans (hB.mono hB2)).trans hb4⟩
          rw [show ((i + (to - i) : Nat) : Int) = (to : Int) by have := hto2.out; omega]
          simpa [bs_of] using hs4
end Go.Proofs.YtjghijeblddijaaGreatDoor
