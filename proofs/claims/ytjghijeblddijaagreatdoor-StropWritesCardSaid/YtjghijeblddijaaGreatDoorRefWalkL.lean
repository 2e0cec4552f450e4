/- Walks of the reference of chapter 04: remark. Walks of the reference of chapter 04: next, all but the signs. Printed by wip/tools/nextM.py. Walks of the reference of chapter 04: next at a sign; next. Printed by wip/tools/nextN.py. Walks of the reference of chapter 04: Symbols. -/
import Derived.Test.YtjghijeblddijaaGreatDoorRefWalkJ
import Derived.Test.YtjghijeblddijaaGreatDoorStropWalkR
import Derived.Deep.CutRange
import Derived.Test.YtjghijeblddijaaGreatDoorStropWalkU
import Derived.Test.YtjghijeblddijaaGreatDoorStropWalkZ
import Derived.Test.YtjghijeblddijaaGreatDoorStropFault
namespace Go.Proofs.YtjghijeblddijaaGreatDoor
open Go.RowKit
set_option maxRecDepth 100000 in
set_option maxHeartbeats 4000000 in
theorem rremark_hash (B g : Nat) (s : ByteArray) (i : Nat) (rg bad : Int) (h0 : 0 ≤ rg) (out : List Sp.Sym) (A : Option Addr) (c : Nat) (w : World) (H : Ref B w g s i rg out A c 0 bad) (hi : i < s.size) (hs : s.size ≤ 140737488355328) :
    Calls Tryz.prog 148 #[.pointer (some ⟨g, 0, none⟩), .string ⟨#[35]⟩, .int .i64 (i : Int), .int .i64 ((i : Int) + 1)] w (RPost B w g s i rg bad out (Sp.comment rg.toNat ((bs s).drop i))) := by
  obtain ⟨c0, c1, c2, c4, c5⟩ := H.R
  go_enter Tryz.func148, Tryz.ntmps148
  go_wp2
  go_loop [3, 9, 10, 11] (fun t _ _ _ => ∃ k : Nat, k ≤ s.size ∧ i < k ∧ t = .int .i64 k ∧ Hid (Sp.commentGo ((bs s).drop (i + 1)) 1 = Sp.commentGo ((bs s).drop k) (k - i))) (fun t _ _ _ => s.size - (intOf t).toNat)
  case atStart => exact ⟨i + 1, by omega, by omega, by go_num, Lib.hid (by congr 1; omega)⟩
  case round =>
    obtain ⟨k, hk, hik, rfl, hh⟩ := hrel
    by_cases hlt : k < s.size
    · cases hp : Sp.permitted s[k] with
      | true =>
        by_cases hq : s[k] = 35
        · have e35 := byte_is _ 35 35 rfl hq
          have hfin := Lib.hid (show Sp.comment rg.toNat ((bs s).drop i) = .skip (k - i + 1) rg.toNat from
            comment_ok _ s i _ (by rw [hh.out, commentGo_cons s k _ hlt, if_neg (by rw [hp]; decide), if_pos (by rw [hq]; rfl)]))
          clear hq
          have f1 := free_of_blk H.blk 1
          go_wp2_with (first | (go_at_call 146; refine (rByte_c _ _).mono ?_; rw [hp]; rintro e w' ⟨rfl, rfl⟩))
          go_end0
          rw [hfin.out]
          refine ⟨rfl, ⟨A, c, ?_⟩, (Below.refl B w).setCell H.base _⟩
          rw [show ((i + (k - i + 1) : Nat) : Int) = (k : Int) + 1 by omega, Int.toNat_of_nonneg h0]
          exact H.setAt _
        · have e35 := byte_isnt _ 35 35 rfl hq
          have hstep := Lib.hid (show Sp.commentGo ((bs s).drop k) (k - i) = Sp.commentGo ((bs s).drop (k + 1)) (k + 1 - i) from by
            rw [commentGo_cons s k _ hlt, if_neg (by rw [hp]; decide), if_neg (by rw [beq_iff_eq]; exact hq), show k - i + 1 = k + 1 - i by omega])
          clear hq
          go_wp2_with (first | (go_at_call 146; refine (rByte_c _ _).mono ?_; rw [hp]; rintro e w' ⟨rfl, rfl⟩))
          go_round
          case rel => exact ⟨k + 1, by omega, by omega, by go_num, Lib.hid (by rw [hh.out, hstep.out])⟩
          case measure => simp [intOf]; omega
      | false =>
        have hfin := Lib.hid (show Sp.comment rg.toNat ((bs s).drop i) = .fault (k - i) 2 from
          comment_err _ s i _ _ (by rw [hh.out, commentGo_cons s k _ hlt, if_pos (by rw [hp]; rfl)]))
        go_wp2_with (first | (go_at_call 146; refine (rByte_c _ _).mono ?_; rw [hp]; rintro e w' ⟨rfl, rfl⟩) | (go_at_call 147; refine (rfail_first B g s i rg out A c bad 2 _ _ H).mono ?_; rintro e w3 ⟨rfl, hs3, hb3⟩))
        go_end0
        rw [hfin.out]
        exact ⟨rfl, ⟨_, _, _, _, _, by rw [show (i + (k - i) : Nat) = k by omega]; exact hs3⟩, hb3⟩
    · have hfin := Lib.hid (show Sp.comment rg.toNat ((bs s).drop i) = .fault 0 16 from
        comment_err _ s i _ _ (by rw [hh.out, bs_drop_end s k (by omega)]; rfl))
      go_wp2_with (first | (go_at_call 147; refine (rfail_first B g s i rg out A c bad 16 _ _ H).mono ?_; rintro e w3 ⟨rfl, hs3, hb3⟩))
      go_end0
      rw [hfin.out]
      exact ⟨rfl, ⟨_, _, _, _, _, hs3⟩, hb3⟩
/-- What a remark with a bold word comes to. -/
theorem word_ok (r : Nat) (wl : List UInt8) (hw : wl = Sp.CO ∨ wl = Sp.COMMENT ∨ wl = Sp.PR ∨ wl = Sp.PRAGMAT) (s : ByteArray) (i n m : Nat) (b : List UInt8) (h : Sp.untilGo r wl ((bs s).drop (i + n)) n 0 false = .ok (b, m)) :
    Sp.word r wl n ((bs s).drop i) = .skip m (if wl = Sp.PR ∨ wl = Sp.PRAGMAT then Sp.regimeOf r b else r) := by
  unfold Sp.word
  rw [List.drop_drop, h]
  rcases hw with rfl | rfl | rfl | rfl
  · rw [if_pos (by decide), if_neg (by decide)]
  · rw [if_pos (by decide), if_neg (by decide)]
  · rw [if_neg (by decide), if_pos (by decide), if_pos (by decide)]
  · rw [if_neg (by decide), if_pos (by decide), if_pos (by decide)]
theorem word_err (r : Nat) (wl : List UInt8) (hw : wl = Sp.CO ∨ wl = Sp.COMMENT ∨ wl = Sp.PR ∨ wl = Sp.PRAGMAT) (s : ByteArray) (i n o : Nat) (cd : Int) (h : Sp.untilGo r wl ((bs s).drop (i + n)) n 0 false = .error (o, cd)) :
    Sp.word r wl n ((bs s).drop i) = .fault o cd := by
  unfold Sp.word
  rw [List.drop_drop, h]
  rcases hw with rfl | rfl | rfl | rfl
  · rw [if_pos (by decide)]
  · rw [if_pos (by decide)]
  · rw [if_neg (by decide), if_pos (by decide)]
  · rw [if_neg (by decide), if_pos (by decide)]
theorem boldE_shape (k : Nat) (bo : Option (List UInt8 × Nat)) : ∃ (wd : List UInt8) (tt : Nat), boldE k bo = .returned (.tuple #[.string ⟨wd.toArray⟩, .int .i64 (tt : Int)]) ∧ ((bo = none ∧ tt = k) ∨ (∃ n, bo = some (wd, n) ∧ tt = k + n)) := by
  cases bo with
  | none => exact ⟨[], k, rfl, .inl ⟨rfl, rfl⟩⟩
  | some p => exact ⟨p.1, k + p.2, rfl, .inr ⟨p.2, rfl, rfl⟩⟩
set_option maxRecDepth 100000 in
set_option maxHeartbeats 4000000 in
theorem rremark_word (B g : Nat) (s : ByteArray) (i n : Nat) (rg bad : Int) (h0 : 0 ≤ rg) (h2 : rg ≤ 2) (out : List Sp.Sym) (A : Option Addr) (c : Nat) (wl : List UInt8) (hw : wl = Sp.CO ∨ wl = Sp.COMMENT ∨ wl = Sp.PR ∨ wl = Sp.PRAGMAT) (w : World) (H : Ref B w g s i rg out A c 0 bad) (hi : i + n ≤ s.size) (hs : s.size ≤ 1000000000) :
    Calls Tryz.prog 148 #[.pointer (some ⟨g, 0, none⟩), .string ⟨wl.toArray⟩, .int .i64 (i : Int), .int .i64 ((i + n : Nat) : Int)] w (RPost B w g s i rg bad out (Sp.word rg.toNat wl n ((bs s).drop i))) := by
  have hBw : B ≤ w.heap.size := Nat.le_trans H.base (Nat.le_of_lt H.lt)
  have hs2 : s.size ≤ 140737488355328 := by omega
  have hok := Lib.hid (word_ok rg.toNat wl hw s i n)
  have herr := Lib.hid (word_err rg.toNat wl hw s i n)
  have ew0 : (wl == [35]) = false := by rcases hw with h | h | h | h <;> rw [h] <;> rfl
  have ewc : ((wl == [80, 82]) = true ∧ Hid (wl = Sp.PR ∨ wl = Sp.PRAGMAT)) ∨ ((wl == [80, 82]) = false ∧ (wl == [80, 82, 65, 71, 77, 65, 84]) = true ∧ Hid (wl = Sp.PR ∨ wl = Sp.PRAGMAT)) ∨ ((wl == [80, 82]) = false ∧ (wl == [80, 82, 65, 71, 77, 65, 84]) = false ∧ Hid (¬ (wl = Sp.PR ∨ wl = Sp.PRAGMAT))) := by
    rcases hw with h | h | h | h <;> rw [h]
    · exact .inr (.inr ⟨rfl, rfl, Lib.hid (by decide)⟩)
    · exact .inr (.inr ⟨rfl, rfl, Lib.hid (by decide)⟩)
    · exact .inl ⟨rfl, Lib.hid (by decide)⟩
    · exact .inr (.inl ⟨rfl, rfl, Lib.hid (by decide)⟩)
  have Ewc := Lib.hid ewc
  clear ewc hw
  have hin : i ≤ i + n := by omega
  have hni : i + n - i = n := by omega
  generalize hf : i + n = F at *
  have HF := Lib.hid hf
  have Hni := Lib.hid hni
  clear hf hni
  obtain ⟨c0, c1, c2, c4, c5⟩ := H.R
  generalize hX : Sp.untilGo rg.toNat wl ((bs s).drop F) n 0 false = X at *
  have HX := Lib.hid hX
  clear hX
  go_enter Tryz.func148, Tryz.ntmps148
  go_wp2
  go_loopw [3, 9, 10, 11] (fun t _ _ _ wr => ∃ k : Nat, k ≤ s.size ∧ F ≤ k ∧ t = .int .i64 k ∧ Below w.heap.size w wr ∧
      Hid (X = Sp.pre (((bs s).drop F).take (k - F)) (Sp.untilGo rg.toNat wl ((bs s).drop k) (k - i) 0 (glAt s F k)))) (fun t _ _ _ _ => s.size - (intOf t).toNat)
  case atStart => exact ⟨F, hi, Nat.le_refl _, rfl, Below.refl _ _, Lib.hid (by rw [← HX.out, Nat.sub_self, List.take_zero, Sp.pre_nil, Hni.out]; simp [glAt])⟩
  case round =>
    obtain ⟨k, hk, hfk, rfl, hB, hh⟩ := hrel
    have H1 := H.later hB
    have R1 := H1.R
    clear c0 c1 c2 c4 c5
    obtain ⟨c0, c1, c2, c4, c5⟩ := H1.R
    have hBr : Hid (Below B w wr) := Lib.hid (hB.mono hBw)
    by_cases hlt : k < s.size
    · have hd := Lib.hid (bs_drop s k hlt)
      cases hp : Sp.permitted s[k] with
      | false =>
        have hfin := Lib.hid (herr.out (k - i) 2 (by rw [hh.out, hd.out, Sp.until_bad _ _ _ _ _ _ hp]; rfl))
        go_wp2_with (first | (go_at_call 146; refine (rByte_c _ _).mono ?_; rw [hp]; rintro e w' ⟨rfl, rfl⟩) | (go_at_call 147; refine (rfail_first B g s i rg out A c bad 2 _ _ H1).mono ?_; rintro e w3 ⟨rfl, hs3, hb3⟩))
        go_end0
        rw [hfin.out]
        exact ⟨rfl, ⟨_, _, _, _, _, by rw [show (i + (k - i) : Nat) = k by omega]; exact hs3⟩, hBr.out.trans hb3⟩
      | true =>
        have hgl : Hid (∀ h : F < k, glAt s F k = (Sp.small (s[k - 1]'(by omega)) || Sp.digit (s[k - 1]'(by omega)))) := Lib.hid (fun h => by
          unfold glAt
          rw [decide_eq_true h, bs_get s (k - 1) (by omega)]; rfl)
        have hgl0 : Hid (¬ F < k → glAt s F k = false) := Lib.hid (fun h => by unfold glAt; rw [decide_eq_false h]; rfl)
        generalize hbo : Sp.bold rg.toNat ((bs s).drop k) = bo
        have Hbo := Lib.hid hbo
        clear hbo
        generalize hglu : (decide (rg = 0) && glAt s F k) = glu
        have Hglu := Lib.hid hglu
        clear hglu
        obtain ⟨wd, tt, hE, hbt⟩ := boldE_shape k bo
        have HE := Lib.hid hE
        have Hbt := Lib.hid hbt
        clear hE hbt
        go_upto_region 9 with (first
          | (go_at_call 146; refine (rByte_c _ _).mono ?_; rw [hp]; rintro e w' ⟨rfl, rfl⟩)
          | (go_at_call 149; refine (rbold_i k g s i rg 0 bad h0 h2 _ (by omega) hk hs2 _ R1).mono ?_; rw [Hbo.out, HE.out]; rintro e w1 ⟨rfl, hb1⟩; have H2 := H1.later hb1; clear c0 c1 c2 c4 c5; obtain ⟨c0, c1, c2, c4, c5⟩ := H2.R))
        go_cut [11] from 13 to 119 (fun v wx => v = .bool glu ∧ w1 = wx)
        case first =>
          by_cases hr0 : rg = 0
          · have e0 : (rg == 0) = true := beq_iff_eq.2 hr0
            have Hr0 := Lib.hid hr0
            clear hr0
            by_cases hfl : F < k
            · have x1 : (1 : Int) ≤ (k : Int) := by omega
              have x2 : (k : Int) - 1 < (s.size : Int) := by omega
              have x3 : (F : Int) < (k : Int) := by omega
              have hg := hgl.out hfl
              cases hsm : Sp.small (s[k - 1]'(by omega)) with
              | true =>
                have hgv : true = glu := by rw [← Hglu.out, decide_eq_true Hr0.out, hg, hsm]; rfl
                have Hgv := Lib.hid hgv
                clear hg hgv
                go_wp2_with (go_at_call 215; refine (rsmall_c _ _).mono ?_; rw [hsm]; rintro e w' ⟨rfl, rfl⟩)
                go_meet
                exact ⟨congrArg Value.bool Hgv.out, rfl⟩
              | false =>
                cases hdg : Sp.digit (s[k - 1]'(by omega)) with
                | true =>
                  have hgv : true = glu := by rw [← Hglu.out, decide_eq_true Hr0.out, hg, hsm, hdg]; rfl
                  have Hgv := Lib.hid hgv
                  clear hg hgv
                  go_wp2_with (first | (go_at_call 215; refine (rsmall_c _ _).mono ?_; rw [hsm]; rintro e w' ⟨rfl, rfl⟩) | (go_at_call 152; refine (rdigit_c _ _).mono ?_; rw [hdg]; rintro e w' ⟨rfl, rfl⟩))
                  go_meet
                  exact ⟨congrArg Value.bool Hgv.out, rfl⟩
                | false =>
                  have hgv : false = glu := by rw [← Hglu.out, hg, hsm, hdg]; cases decide (rg = 0) <;> rfl
                  have Hgv := Lib.hid hgv
                  clear hg hgv
                  go_wp2_with (first | (go_at_call 215; refine (rsmall_c _ _).mono ?_; rw [hsm]; rintro e w' ⟨rfl, rfl⟩) | (go_at_call 152; refine (rdigit_c _ _).mono ?_; rw [hdg]; rintro e w' ⟨rfl, rfl⟩))
                  go_meet
                  exact ⟨congrArg Value.bool Hgv.out, rfl⟩
            · have x3 : ¬ (F : Int) < (k : Int) := by omega
              have hgv : false = glu := by rw [← Hglu.out, hgl0.out hfl, Bool.and_false]
              have Hgv := Lib.hid hgv
              clear hgv
              go_wp2
              go_meet
              exact ⟨congrArg Value.bool Hgv.out, rfl⟩
          · have e0 : (rg == 0) = false := beq_eq_false_iff_ne.2 hr0
            have hgv : false = glu := by rw [← Hglu.out, decide_eq_false hr0]; rfl
            have Hgv := Lib.hid hgv
            clear hgv hr0
            go_wp2
            go_meet
            exact ⟨congrArg Value.bool Hgv.out, rfl⟩
        case rest =>
          obtain ⟨rfl, rfl⟩ := hcut
          have hB2 : Hid (Below w.heap.size w w1) := Lib.hid (bjoin hB hB.size hb1)
          rcases Hbt.out with ⟨hn, rfl⟩ | ⟨n', hn, hnk⟩
          · have Hn := Lib.hid hn
            have x4 : ¬ (tt : Int) < (tt : Int) := by omega
            clear hn
            go_wp2
            go_roundw
            case rel =>
              refine ⟨tt + 1, by omega, by omega, by go_num, hB2.out, Lib.hid ?_⟩
              rw [← HX.out, ← Hni.out]
              refine until_next s _ _ i F tt 1 hfk (by omega) (by omega) (by rw [Hni.out, HX.out]; exact hh.out) ?_
              rw [hd.out, Sp.until_none _ _ _ _ _ _ hp (by rw [← hd.out, Hbo.out]; exact Hn.out)]; rfl
            case measure => simp [intOf]; omega
          · have hbb := Sp.bold_bound _ _ _ _ (Hbo.out.trans hn)
            rw [List.length_drop, bs_length] at hbb
            have x4 : (k : Int) < (tt : Int) := by omega
            have htt : tt ≤ s.size := by omega
            have Hn := Lib.hid hn
            have Hnk := Lib.hid hnk
            clear hn hnk
            have hgo : Hid (glu = true ∨ wd ≠ wl → X = Sp.pre (((bs s).drop F).take (tt - F)) (Sp.untilGo rg.toNat wl ((bs s).drop tt) (tt - i) 0 (glAt s F tt))) := Lib.hid (fun hg => by
              rw [← HX.out, ← Hni.out, Hnk.out]
              refine until_next s _ _ i F k n' hfk (by omega) (by omega) (by rw [Hni.out, HX.out]; exact hh.out) ?_
              rw [hd.out]
              refine Sp.until_some _ _ _ _ _ _ _ wd hp (by rw [← hd.out, Hbo.out]; exact Hn.out) ?_
              rcases hg with hg | hg
              · refine .inl ?_
                rw [← Hglu.out] at hg
                rw [Bool.and_eq_true, decide_eq_true_eq] at hg
                rw [hg.1, hg.2]; rfl
              · exact .inr hg)
            by_cases hwd : wd = wl
            · have ewd : (wd == wl) = true := beq_iff_eq.2 hwd
              have Hwd := Lib.hid hwd
              clear hwd
              cases glu with
              | true =>
                go_wp2
                go_roundw
                case rel => exact ⟨tt, by omega, by omega, by go_num, hB2.out, Lib.hid (hgo.out (.inl rfl))⟩
                case measure => simp [intOf]; omega
              | false =>
                have hX2 : X = .ok (((bs s).drop F).take (k - F), k - i + n') := by
                  have hgz : (rg.toNat == 0 && glAt s F k) = false := by
                    have h := Hglu.out
                    by_cases hr : rg = 0
                    · rw [decide_eq_true hr, Bool.true_and] at h; rw [h, Bool.and_false]
                    · rw [show (rg.toNat == 0) = false from beq_eq_false_iff_ne.2 (by omega)]; rfl
                  have h := Sp.until_hit rg.toNat wl s[k] ((bs s).drop (k + 1)) (k - i) n' (glAt s F k) hp (by rw [← hd.out, Hbo.out, Hn.out, Hwd.out]) hgz
                  rw [hh.out, hd.out, h]
                  simp [Sp.pre]
                have hfin := Lib.hid (hok.out _ _ hX2)
                have hpos : Hid (((i + (k - i + n') : Nat) : Int) = (tt : Int)) := Lib.hid (by have := Hnk.out; omega)
                have f1 := free_of_blk H2.blk 1
                have H3 := H2.setAt (tt : Int)
                have hB3 : Hid (Below B w (w1.setCell ⟨g, 1, none⟩ (.int .i64 (tt : Int)))) := Lib.hid ((hB2.out.mono hBw).setCell H.base _)
                have hex := Lib.hid (bs_extract s F k)
                have hexs : (s.extract F k).size ≤ 1000000000 := by rw [ByteArray.size_extract]; omega
                clear hX2
                rcases Ewc.out with ⟨q1, hq⟩ | ⟨q1, q2, hq⟩ | ⟨q1, q2, hq⟩
                · go_wp2_with (go_at_call 216; refine (rregime_c B g s tt rg h0 out A c 0 bad _ hexs _ H3).mono ?_; rintro e w4 ⟨rfl, H4, hb4⟩)
                  go_end0
                  rw [hfin.out, if_pos hq.out]
                  refine ⟨rfl, ⟨A, c, ?_⟩, hB3.out.trans hb4⟩
                  rw [hpos.out, ← hex.out]
                  exact H4
                · go_wp2_with (go_at_call 216; refine (rregime_c B g s tt rg h0 out A c 0 bad _ hexs _ H3).mono ?_; rintro e w4 ⟨rfl, H4, hb4⟩)
                  go_end0
                  rw [hfin.out, if_pos hq.out]
                  refine ⟨rfl, ⟨A, c, ?_⟩, hB3.out.trans hb4⟩
                  rw [hpos.out, ← hex.out]
                  exact H4
                · go_wp2
                  go_end0
                  rw [hfin.out, if_neg hq.out]
                  refine ⟨rfl, ⟨A, c, ?_⟩, hB3.out⟩
                  rw [hpos.out, Int.toNat_of_nonneg h0]
                  exact H3
            · have ewd : (wd == wl) = false := beq_eq_false_iff_ne.2 hwd
              have Hwd := Lib.hid hwd
              clear hwd
              go_wp2
              go_roundw
              case rel => exact ⟨tt, by omega, by omega, by go_num, hB2.out, Lib.hid (hgo.out (.inr Hwd.out))⟩
              case measure => simp [intOf]; omega
    · have hfin := Lib.hid (herr.out 0 16 (by rw [hh.out, bs_drop_end s k (by omega)]; rfl))
      go_wp2_with (first | (go_at_call 147; refine (rfail_first B g s i rg out A c bad 16 _ _ H1).mono ?_; rintro e w3 ⟨rfl, hs3, hb3⟩))
      go_end0
      rw [hfin.out]
      exact ⟨rfl, ⟨_, _, _, _, _, hs3⟩, hBr.out.trans hb3⟩
end Go.Proofs.YtjghijeblddijaaGreatDoor
set_option linter.unusedVariables false
namespace Go.Proofs.YtjghijeblddijaaGreatDoor
open Go.RowKit
theorem rword_c (wl : List UInt8) (b : Bool) (hb : Hid (b = (decide (wl = Sp.CO) || decide (wl = Sp.COMMENT) || decide (wl = Sp.PR) || decide (wl = Sp.PRAGMAT)))) (w : World) :
    Calls Tryz.prog 150 #[.string ⟨wl.toArray⟩] w fun e w' => e = .returned (.bool b) ∧ w = w' := by
  have e1 : (wl == [67, 79]) = decide (wl = Sp.CO) := Bool.eq_iff_iff.2 (by rw [beq_iff_eq, decide_eq_true_iff]; rfl)
  have e2 : (wl == [67, 79, 77, 77, 69, 78, 84]) = decide (wl = Sp.COMMENT) := Bool.eq_iff_iff.2 (by rw [beq_iff_eq, decide_eq_true_iff]; rfl)
  have e3 : (wl == [80, 82]) = decide (wl = Sp.PR) := Bool.eq_iff_iff.2 (by rw [beq_iff_eq, decide_eq_true_iff]; rfl)
  have e4 : (wl == [80, 82, 65, 71, 77, 65, 84]) = decide (wl = Sp.PRAGMAT) := Bool.eq_iff_iff.2 (by rw [beq_iff_eq, decide_eq_true_iff]; rfl)
  rw [← e1, ← e2, ← e3, ← e4] at hb
  clear e1 e2 e3 e4
  go_enter Tryz.func150, Tryz.ntmps150
  cases h1 : (wl == [67, 79]) with
  | true =>
    have hv : Hid (true = b) := Lib.hid (by rw [hb.out, h1]; simp)
    go_wp2
    go_ret
    exact ⟨by rw [← hv.out]; rfl, rfl⟩
  | false =>
    cases h2 : (wl == [67, 79, 77, 77, 69, 78, 84]) with
    | true =>
      have hv : Hid (true = b) := Lib.hid (by rw [hb.out, h2]; simp)
      go_wp2
      go_ret
      exact ⟨by rw [← hv.out]; rfl, rfl⟩
    | false =>
      cases h3 : (wl == [80, 82]) with
      | true =>
        have hv : Hid (true = b) := Lib.hid (by rw [hb.out, h3]; simp)
        go_wp2
        go_ret
        exact ⟨by rw [← hv.out]; rfl, rfl⟩
      | false =>
        cases h4 : (wl == [80, 82, 65, 71, 77, 65, 84]) with
        | true =>
          have hv : Hid (true = b) := Lib.hid (by rw [hb.out, h4]; simp)
          go_wp2
          go_ret
          exact ⟨by rw [← hv.out]; rfl, rfl⟩
        | false =>
          have hv : Hid (false = b) := Lib.hid (by rw [hb.out, h1, h2, h3, h4]; rfl)
          go_wp2
          go_ret
          exact ⟨by rw [← hv.out]; rfl, rfl⟩
/-- A step's post in a world that came later. -/
theorem RPost.from {B : Nat} {w0 w : World} {g : Nat} {s : ByteArray} {i : Nat} {rg bad : Int} {out : List Sp.Sym} {st : Sp.Step} {e : Ending} {w' : World} (hb : Below B w0 w) (h : RPost B w g s i rg bad out st e w') : RPost B w0 g s i rg bad out st e w' := by
  cases st
  · exact ⟨h.1, h.2.1, hb.trans h.2.2⟩
  · exact ⟨h.1, h.2.1, hb.trans h.2.2⟩
  · exact ⟨h.1, h.2.1, hb.trans h.2.2⟩
/-- How bold words are told apart from what else begins there. -/
theorem bold_none_of (r : Nat) (s : ByteArray) (i : Nat) (h1 : Sp.capital (bat s i) = false ∨ r ≠ 0) (h2 : r ≠ 0 → bat s i ≠ Sp.mark r) : Sp.bold r ((bs s).drop i) = none := by
  by_cases hr : r = 0
  · subst hr
    rcases h1 with h1 | h1
    · exact bold0_no s i h1
    · exact absurd rfl h1
  · exact boldr_no r hr s i (.inl (h2 hr))
set_option maxRecDepth 100000 in
set_option maxHeartbeats 4000000 in
theorem rnext_blank (B g : Nat) (s : ByteArray) (i : Nat) (rg bad : Int) (h0 : 0 ≤ rg) (h2 : rg ≤ 2) (out : List Sp.Sym) (A : Option Addr) (c : Nat) (w : World) (H : Ref B w g s i rg out A c 0 bad) (hi : i < s.size) (hs : s.size ≤ 1000000000) (hl : out.length ≤ 1000000)
    (hbl : Sp.blank s[i] = true) :
    Calls Tryz.prog 82 #[.pointer (some ⟨g, 0, none⟩)] w (RPost B w g s i rg bad out (.skip 1 rg.toNat)) := by
  have f0 : True := trivial
  clear f0
  obtain ⟨c0, c1, c2, c4, c5⟩ := H.R
  go_enter Tryz.func82, Tryz.ntmps82
  go_wp2
  go_quiet (fail)
  have HB1 : Hid (Below B w (w.drewN nq)) := Lib.hid (bdrewN (Below.refl _ _) nq)
  have H1 := H.later (bdrewN (Below.refl _ _) nq)
  clear c0 c1 c2 c4 c5
  generalize w.drewN nq = W at *
  have R1 := H1.R
  obtain ⟨c0, c1, c2, c4, c5⟩ := H1.R
  have f1 := free_of_blk H1.blk 1
  go_wp2_with (first
    | (go_at_call 145; refine (rblank_c _ _).mono ?_; rw [hbl]; rintro e w' ⟨rfl, rfl⟩))
  go_end0
  refine ⟨rfl, ⟨A, c, ?_⟩, HB1.out.setCell H.base _⟩
  rw [Int.toNat_of_nonneg h0]
  exact H1.setAt _
set_option maxRecDepth 100000 in
set_option maxHeartbeats 4000000 in
theorem rnext_bad (B g : Nat) (s : ByteArray) (i : Nat) (rg bad : Int) (h0 : 0 ≤ rg) (h2 : rg ≤ 2) (out : List Sp.Sym) (A : Option Addr) (c : Nat) (w : World) (H : Ref B w g s i rg out A c 0 bad) (hi : i < s.size) (hs : s.size ≤ 1000000000) (hl : out.length ≤ 1000000)
    (hbl : Sp.blank s[i] = false) (hp : Sp.permitted s[i] = false) :
    Calls Tryz.prog 82 #[.pointer (some ⟨g, 0, none⟩)] w (RPost B w g s i rg bad out (Sp.symbol rg.toNat ((bs s).drop i))) := by
  have hfin := Lib.hid (symbol_eq rg.toNat s i hi)
  obtain ⟨c0, c1, c2, c4, c5⟩ := H.R
  go_enter Tryz.func82, Tryz.ntmps82
  go_wp2
  go_quiet (fail)
  have HB1 : Hid (Below B w (w.drewN nq)) := Lib.hid (bdrewN (Below.refl _ _) nq)
  have H1 := H.later (bdrewN (Below.refl _ _) nq)
  clear c0 c1 c2 c4 c5
  generalize w.drewN nq = W at *
  have R1 := H1.R
  obtain ⟨c0, c1, c2, c4, c5⟩ := H1.R
  go_wp2_with (first
    | (go_at_call 145; refine (rblank_c _ _).mono ?_; rw [hbl]; rintro e w' ⟨rfl, rfl⟩)
    | (go_at_call 146; refine (rByte_c _ _).mono ?_; rw [hp]; rintro e w' ⟨rfl, rfl⟩)
    | (go_at_call 147; refine (rfail_first B g s i rg out A c bad 2 _ _ H1).mono ?_; rintro e w3 ⟨rfl, hs3, hb3⟩))
  go_end0
  rw [hfin.out, if_pos (by rw [hp]; rfl)]
  exact ⟨rfl, ⟨_, _, _, _, _, hs3⟩, HB1.out.trans hb3⟩
set_option maxRecDepth 100000 in
set_option maxHeartbeats 4000000 in
theorem rnext_hash (B g : Nat) (s : ByteArray) (i : Nat) (rg bad : Int) (h0 : 0 ≤ rg) (h2 : rg ≤ 2) (out : List Sp.Sym) (A : Option Addr) (c : Nat) (w : World) (H : Ref B w g s i rg out A c 0 bad) (hi : i < s.size) (hs : s.size ≤ 1000000000) (hl : out.length ≤ 1000000)
    (hbl : Sp.blank s[i] = false) (hp : Sp.permitted s[i] = true) (e35 : ((s[i].toNat : Int) == 35) = true) (hfin : Hid (Sp.symbol rg.toNat ((bs s).drop i) = Sp.comment rg.toNat ((bs s).drop i))) :
    Calls Tryz.prog 82 #[.pointer (some ⟨g, 0, none⟩)] w (RPost B w g s i rg bad out (Sp.symbol rg.toNat ((bs s).drop i))) := by
  have f0 : True := trivial
  clear f0
  obtain ⟨c0, c1, c2, c4, c5⟩ := H.R
  go_enter Tryz.func82, Tryz.ntmps82
  go_wp2
  go_quiet (fail)
  have HB1 : Hid (Below B w (w.drewN nq)) := Lib.hid (bdrewN (Below.refl _ _) nq)
  have H1 := H.later (bdrewN (Below.refl _ _) nq)
  clear c0 c1 c2 c4 c5
  generalize w.drewN nq = W at *
  have R1 := H1.R
  obtain ⟨c0, c1, c2, c4, c5⟩ := H1.R
  go_wp2_with (first
    | (go_at_call 145; refine (rblank_c _ _).mono ?_; rw [hbl]; rintro e w' ⟨rfl, rfl⟩)
    | (go_at_call 146; refine (rByte_c _ _).mono ?_; rw [hp]; rintro e w' ⟨rfl, rfl⟩))
  go_still_tail 10, (by kernel_rfl)
  have H3 := H1.later (Below.refl _ _).drew
  have HB3 : Hid (Below B w W.drew) := Lib.hid HB1.out.drew
  go_wp2_with (go_at_call 148; refine (rremark_hash B g s i rg bad h0 out A c _ H3 hi (by omega)).mono ?_; intro e w4 hpost; obtain rfl := hpost.ret)
  go_end0
  rw [hfin.out]
  exact hpost.from HB3.out
set_option maxRecDepth 100000 in
set_option maxHeartbeats 4000000 in
theorem rnext_word (B g : Nat) (s : ByteArray) (i : Nat) (rg bad : Int) (h0 : 0 ≤ rg) (h2 : rg ≤ 2) (out : List Sp.Sym) (A : Option Addr) (c : Nat) (w : World) (H : Ref B w g s i rg out A c 0 bad) (hi : i < s.size) (hs : s.size ≤ 1000000000) (hl : out.length ≤ 1000000)
    (hbl : Sp.blank s[i] = false) (hp : Sp.permitted s[i] = true) (e35 : ((s[i].toNat : Int) == 35) = false) (wd : List UInt8) (n : Nat) (hbo : Sp.bold rg.toNat ((bs s).drop i) = some (wd, n)) (hfin : Hid (Sp.symbol rg.toNat ((bs s).drop i) = Sp.word rg.toNat wd n ((bs s).drop i))) (hw : wd = Sp.CO ∨ wd = Sp.COMMENT ∨ wd = Sp.PR ∨ wd = Sp.PRAGMAT) :
    Calls Tryz.prog 82 #[.pointer (some ⟨g, 0, none⟩)] w (RPost B w g s i rg bad out (Sp.symbol rg.toNat ((bs s).drop i))) := by
  have HBO : Hid (boldE i (Sp.bold rg.toNat ((bs s).drop i)) = .returned (.tuple #[.string ⟨wd.toArray⟩, .int .i64 ((i + n : Nat) : Int)])) := Lib.hid (by rw [hbo]; rfl)
  have hbb := Sp.bold_bound _ _ _ _ hbo
  rw [List.length_drop, bs_length] at hbb
  have hii : (i : Int) < ((i + n : Nat) : Int) := by omega
  have hins : i + n ≤ s.size := by omega
  clear hbo
  have Hwd : Hid (true = (decide (wd = Sp.CO) || decide (wd = Sp.COMMENT) || decide (wd = Sp.PR) || decide (wd = Sp.PRAGMAT))) := Lib.hid (by rcases hw with h | h | h | h <;> subst h <;> rfl)
  have Hw := Lib.hid hw
  clear hw
  obtain ⟨c0, c1, c2, c4, c5⟩ := H.R
  go_enter Tryz.func82, Tryz.ntmps82
  go_wp2
  go_quiet (fail)
  have HB1 : Hid (Below B w (w.drewN nq)) := Lib.hid (bdrewN (Below.refl _ _) nq)
  have H1 := H.later (bdrewN (Below.refl _ _) nq)
  clear c0 c1 c2 c4 c5
  generalize w.drewN nq = W at *
  have R1 := H1.R
  obtain ⟨c0, c1, c2, c4, c5⟩ := H1.R
  go_wp2_with (first
    | (go_at_call 145; refine (rblank_c _ _).mono ?_; rw [hbl]; rintro e w' ⟨rfl, rfl⟩)
    | (go_at_call 146; refine (rByte_c _ _).mono ?_; rw [hp]; rintro e w' ⟨rfl, rfl⟩)
    | (go_at_call 149; refine (rbold_i i g s i rg 0 bad h0 h2 _ (by omega) (by omega) (by omega) _ R1).mono ?_; rw [HBO.out]; rintro e w1 ⟨rfl, hb1⟩; have H2 := H1.later hb1; have R2 := H2.R; have HB2 : Hid (Below B w w1) := Lib.hid (HB1.out.trans (hb1.mono (Nat.le_trans H1.base (Nat.le_of_lt H1.lt)))); clear c0 c1 c2 c4 c5; obtain ⟨c0, c1, c2, c4, c5⟩ := H2.R)
    | (go_at_call 150; refine (rword_c wd _ Hwd _).mono ?_; rintro e w' ⟨rfl, rfl⟩)
    | (go_at_call 148; refine (rremark_word B g s i n rg bad h0 h2 out A c wd Hw.out _ H2 hins hs).mono ?_; intro e w4 hpost; obtain rfl := hpost.ret))
  go_end0
  rw [hfin.out]
  exact hpost.from HB2.out
set_option maxRecDepth 100000 in
set_option maxHeartbeats 4000000 in
theorem rnext_long (B g : Nat) (s : ByteArray) (i : Nat) (rg bad : Int) (h0 : 0 ≤ rg) (h2 : rg ≤ 2) (out : List Sp.Sym) (A : Option Addr) (c : Nat) (w : World) (H : Ref B w g s i rg out A c 0 bad) (hi : i < s.size) (hs : s.size ≤ 1000000000) (hl : out.length ≤ 1000000)
    (hbl : Sp.blank s[i] = false) (hp : Sp.permitted s[i] = true) (e35 : ((s[i].toNat : Int) == 35) = false) (wd : List UInt8) (n : Nat) (hbo : Sp.bold rg.toNat ((bs s).drop i) = some (wd, n)) (hfin : Hid (Sp.symbol rg.toNat ((bs s).drop i) = Sp.word rg.toNat wd n ((bs s).drop i))) (hw : ¬ (wd = Sp.CO ∨ wd = Sp.COMMENT ∨ wd = Sp.PR ∨ wd = Sp.PRAGMAT)) (hcn : Hid (Sp.count wd = wd.length)) (hwl0 : wd.length ≤ s.size) (h40 : 40 < wd.length) :
    Calls Tryz.prog 82 #[.pointer (some ⟨g, 0, none⟩)] w (RPost B w g s i rg bad out (Sp.symbol rg.toNat ((bs s).drop i))) := by
  have HBO : Hid (boldE i (Sp.bold rg.toNat ((bs s).drop i)) = .returned (.tuple #[.string ⟨wd.toArray⟩, .int .i64 ((i + n : Nat) : Int)])) := Lib.hid (by rw [hbo]; rfl)
  have hbb := Sp.bold_bound _ _ _ _ hbo
  rw [List.length_drop, bs_length] at hbb
  have hii : (i : Int) < ((i + n : Nat) : Int) := by omega
  have hins : i + n ≤ s.size := by omega
  clear hbo
  have Hwd : Hid (false = (decide (wd = Sp.CO) || decide (wd = Sp.COMMENT) || decide (wd = Sp.PR) || decide (wd = Sp.PRAGMAT))) := Lib.hid (by
    rw [not_or, not_or, not_or] at hw
    rw [decide_eq_false hw.1, decide_eq_false hw.2.1, decide_eq_false hw.2.2.1, decide_eq_false hw.2.2.2]; rfl)
  have hsym := Lib.hid (show Sp.word rg.toNat wd n ((bs s).drop i) = if 40 < Sp.count wd then .fault 0 3 else .sym 1 wd n from by
    unfold Sp.word
    rw [if_neg (fun h => hw (by rcases h with h | h <;> simp [h])), if_neg (fun h => hw (by rcases h with h | h <;> simp [h]))])
  have hwl : wd.length ≤ 140737488355328 := by omega
  clear hw
  have h40' : (40 : Int) < (wd.length : Int) := by omega
  obtain ⟨c0, c1, c2, c4, c5⟩ := H.R
  go_enter Tryz.func82, Tryz.ntmps82
  go_wp2
  go_quiet (fail)
  have HB1 : Hid (Below B w (w.drewN nq)) := Lib.hid (bdrewN (Below.refl _ _) nq)
  have H1 := H.later (bdrewN (Below.refl _ _) nq)
  clear c0 c1 c2 c4 c5
  generalize w.drewN nq = W at *
  have R1 := H1.R
  obtain ⟨c0, c1, c2, c4, c5⟩ := H1.R
  go_wp2_with (first
    | (go_at_call 145; refine (rblank_c _ _).mono ?_; rw [hbl]; rintro e w' ⟨rfl, rfl⟩)
    | (go_at_call 146; refine (rByte_c _ _).mono ?_; rw [hp]; rintro e w' ⟨rfl, rfl⟩)
    | (go_at_call 149; refine (rbold_i i g s i rg 0 bad h0 h2 _ (by omega) (by omega) (by omega) _ R1).mono ?_; rw [HBO.out]; rintro e w1 ⟨rfl, hb1⟩; have H2 := H1.later hb1; have R2 := H2.R; have HB2 : Hid (Below B w w1) := Lib.hid (HB1.out.trans (hb1.mono (Nat.le_trans H1.base (Nat.le_of_lt H1.lt)))); clear c0 c1 c2 c4 c5; obtain ⟨c0, c1, c2, c4, c5⟩ := H2.R)
    | (go_at_call 150; refine (rword_c wd _ Hwd _).mono ?_; rintro e w' ⟨rfl, rfl⟩)
    | (go_at_call 147; refine (rfail_first B g s i rg out A c bad 3 _ _ H2).mono ?_; rintro e w3 ⟨rfl, hs3, hb3⟩; clear c0 c1 c2 c4 c5; obtain ⟨c0, c1, c2, c4, c5⟩ := hs3.R)
    | (go_at_call 151; have tk := hs3; clear tk; refine (radd_l wd (i + n) B g s i rg out A c 3 _ 1 _ rfl _ (by omega) _ hs3 hl).mono ?_; rintro e w4 ⟨rfl, ⟨A', c', hs4⟩, hb4⟩))
  go_end0
  rw [hfin.out, hsym.out, hcn.out, if_pos h40]
  exact ⟨rfl, ⟨_, _, _, _, _, hs4⟩, (HB2.out.trans hb3).trans hb4⟩
set_option maxRecDepth 100000 in
set_option maxHeartbeats 4000000 in
theorem rnext_bold (B g : Nat) (s : ByteArray) (i : Nat) (rg bad : Int) (h0 : 0 ≤ rg) (h2 : rg ≤ 2) (out : List Sp.Sym) (A : Option Addr) (c : Nat) (w : World) (H : Ref B w g s i rg out A c 0 bad) (hi : i < s.size) (hs : s.size ≤ 1000000000) (hl : out.length ≤ 1000000)
    (hbl : Sp.blank s[i] = false) (hp : Sp.permitted s[i] = true) (e35 : ((s[i].toNat : Int) == 35) = false) (wd : List UInt8) (n : Nat) (hbo : Sp.bold rg.toNat ((bs s).drop i) = some (wd, n)) (hfin : Hid (Sp.symbol rg.toNat ((bs s).drop i) = Sp.word rg.toNat wd n ((bs s).drop i))) (hw : ¬ (wd = Sp.CO ∨ wd = Sp.COMMENT ∨ wd = Sp.PR ∨ wd = Sp.PRAGMAT)) (hcn : Hid (Sp.count wd = wd.length)) (hwl0 : wd.length ≤ s.size) (h40 : ¬ 40 < wd.length) :
    Calls Tryz.prog 82 #[.pointer (some ⟨g, 0, none⟩)] w (RPost B w g s i rg bad out (Sp.symbol rg.toNat ((bs s).drop i))) := by
  have HBO : Hid (boldE i (Sp.bold rg.toNat ((bs s).drop i)) = .returned (.tuple #[.string ⟨wd.toArray⟩, .int .i64 ((i + n : Nat) : Int)])) := Lib.hid (by rw [hbo]; rfl)
  have hbb := Sp.bold_bound _ _ _ _ hbo
  rw [List.length_drop, bs_length] at hbb
  have hii : (i : Int) < ((i + n : Nat) : Int) := by omega
  have hins : i + n ≤ s.size := by omega
  clear hbo
  have Hwd : Hid (false = (decide (wd = Sp.CO) || decide (wd = Sp.COMMENT) || decide (wd = Sp.PR) || decide (wd = Sp.PRAGMAT))) := Lib.hid (by
    rw [not_or, not_or, not_or] at hw
    rw [decide_eq_false hw.1, decide_eq_false hw.2.1, decide_eq_false hw.2.2.1, decide_eq_false hw.2.2.2]; rfl)
  have hsym := Lib.hid (show Sp.word rg.toNat wd n ((bs s).drop i) = if 40 < Sp.count wd then .fault 0 3 else .sym 1 wd n from by
    unfold Sp.word
    rw [if_neg (fun h => hw (by rcases h with h | h <;> simp [h])), if_neg (fun h => hw (by rcases h with h | h <;> simp [h]))])
  have hwl : wd.length ≤ 140737488355328 := by omega
  clear hw
  have h40' : ¬ (40 : Int) < (wd.length : Int) := by omega
  obtain ⟨c0, c1, c2, c4, c5⟩ := H.R
  go_enter Tryz.func82, Tryz.ntmps82
  go_wp2
  go_quiet (fail)
  have HB1 : Hid (Below B w (w.drewN nq)) := Lib.hid (bdrewN (Below.refl _ _) nq)
  have H1 := H.later (bdrewN (Below.refl _ _) nq)
  clear c0 c1 c2 c4 c5
  generalize w.drewN nq = W at *
  have R1 := H1.R
  obtain ⟨c0, c1, c2, c4, c5⟩ := H1.R
  go_wp2_with (first
    | (go_at_call 145; refine (rblank_c _ _).mono ?_; rw [hbl]; rintro e w' ⟨rfl, rfl⟩)
    | (go_at_call 146; refine (rByte_c _ _).mono ?_; rw [hp]; rintro e w' ⟨rfl, rfl⟩)
    | (go_at_call 149; refine (rbold_i i g s i rg 0 bad h0 h2 _ (by omega) (by omega) (by omega) _ R1).mono ?_; rw [HBO.out]; rintro e w1 ⟨rfl, hb1⟩; have H2 := H1.later hb1; have R2 := H2.R; have HB2 : Hid (Below B w w1) := Lib.hid (HB1.out.trans (hb1.mono (Nat.le_trans H1.base (Nat.le_of_lt H1.lt)))); clear c0 c1 c2 c4 c5; obtain ⟨c0, c1, c2, c4, c5⟩ := H2.R)
    | (go_at_call 150; refine (rword_c wd _ Hwd _).mono ?_; rintro e w' ⟨rfl, rfl⟩)
    | (go_at_call 151; refine (radd_l wd (i + n) B g s i rg out A c 0 bad 1 _ rfl _ (by omega) _ H2 hl).mono ?_; rintro e w4 ⟨rfl, hs4, hb4⟩))
  go_end0
  rw [hfin.out, hsym.out, hcn.out, if_neg h40]
  exact ⟨rfl, hs4, HB2.out.trans hb4⟩
set_option maxRecDepth 100000 in
set_option maxHeartbeats 4000000 in
theorem rnext_num (B g : Nat) (s : ByteArray) (i : Nat) (rg bad : Int) (h0 : 0 ≤ rg) (h2 : rg ≤ 2) (out : List Sp.Sym) (A : Option Addr) (c : Nat) (w : World) (H : Ref B w g s i rg out A c 0 bad) (hi : i < s.size) (hs : s.size ≤ 1000000000) (hl : out.length ≤ 1000000)
    (hbl : Sp.blank s[i] = false) (hp : Sp.permitted s[i] = true) (e35 : ((s[i].toNat : Int) == 35) = false) (hbo : Sp.bold rg.toNat ((bs s).drop i) = none) (hdi : Sp.digit s[i] = true) (hfin : Hid (Sp.symbol rg.toNat ((bs s).drop i) = Sp.number rg.toNat ((bs s).drop i))) :
    Calls Tryz.prog 82 #[.pointer (some ⟨g, 0, none⟩)] w (RPost B w g s i rg bad out (Sp.symbol rg.toNat ((bs s).drop i))) := by
  have hbon : boldE i none = .returned (.tuple #[.string ⟨#[]⟩, .int .i64 (i : Int)]) := rfl
  have HBO : Hid (boldE i (Sp.bold rg.toNat ((bs s).drop i)) = .returned (.tuple #[.string ⟨#[]⟩, .int .i64 (i : Int)])) := Lib.hid (by rw [hbo]; rfl)
  have hii : ¬ (i : Int) < (i : Int) := by omega
  clear hbon hbo
  have hhead := Lib.hid (show Sp.digit (bat s i) = true ∨ (bat s i = 46 ∧ Sp.digit (bat s (i + 1)) = true) from .inl (by rw [bat_in s i hi]; exact hdi))
  obtain ⟨c0, c1, c2, c4, c5⟩ := H.R
  go_enter Tryz.func82, Tryz.ntmps82
  go_wp2
  go_quiet (fail)
  have HB1 : Hid (Below B w (w.drewN nq)) := Lib.hid (bdrewN (Below.refl _ _) nq)
  have H1 := H.later (bdrewN (Below.refl _ _) nq)
  clear c0 c1 c2 c4 c5
  generalize w.drewN nq = W at *
  have R1 := H1.R
  obtain ⟨c0, c1, c2, c4, c5⟩ := H1.R
  go_wp2_with (first
    | (go_at_call 145; refine (rblank_c _ _).mono ?_; rw [hbl]; rintro e w' ⟨rfl, rfl⟩)
    | (go_at_call 146; refine (rByte_c _ _).mono ?_; rw [hp]; rintro e w' ⟨rfl, rfl⟩)
    | (go_at_call 149; refine (rbold_i i g s i rg 0 bad h0 h2 _ (by omega) (by omega) (by omega) _ R1).mono ?_; rw [HBO.out]; rintro e w1 ⟨rfl, hb1⟩; have H2 := H1.later hb1; have R2 := H2.R; have HB2 : Hid (Below B w w1) := Lib.hid (HB1.out.trans (hb1.mono (Nat.le_trans H1.base (Nat.le_of_lt H1.lt)))); clear c0 c1 c2 c4 c5; obtain ⟨c0, c1, c2, c4, c5⟩ := H2.R)
    | (go_at_call 152; refine (rdigit_c _ _).mono ?_; rw [hdi]; rintro e w' ⟨rfl, rfl⟩)
    | (go_at_call 154; refine (rnumber_c B g s i rg bad h0 out A c _ H2 hi hs hl hhead.out).mono ?_; intro e w4 hpost; obtain rfl := hpost.ret))
  go_end0
  rw [hfin.out]
  exact hpost.from HB2.out
set_option maxRecDepth 100000 in
set_option maxHeartbeats 4000000 in
theorem rnext_point (B g : Nat) (s : ByteArray) (i : Nat) (rg bad : Int) (h0 : 0 ≤ rg) (h2 : rg ≤ 2) (out : List Sp.Sym) (A : Option Addr) (c : Nat) (w : World) (H : Ref B w g s i rg out A c 0 bad) (hi : i < s.size) (hs : s.size ≤ 1000000000) (hl : out.length ≤ 1000000)
    (hbl : Sp.blank s[i] = false) (hp : Sp.permitted s[i] = true) (e35 : ((s[i].toNat : Int) == 35) = false) (hbo : Sp.bold rg.toNat ((bs s).drop i) = none) (hdi : Sp.digit s[i] = false) (e46 : ((s[i].toNat : Int) == 46) = true) (h46 : Hid (bat s i = 46)) (hd2 : Sp.digit (bat s (i + 1)) = true) (hfin : Hid (Sp.symbol rg.toNat ((bs s).drop i) = Sp.number rg.toNat ((bs s).drop i))) :
    Calls Tryz.prog 82 #[.pointer (some ⟨g, 0, none⟩)] w (RPost B w g s i rg bad out (Sp.symbol rg.toNat ((bs s).drop i))) := by
  have hbon : boldE i none = .returned (.tuple #[.string ⟨#[]⟩, .int .i64 (i : Int)]) := rfl
  have HBO : Hid (boldE i (Sp.bold rg.toNat ((bs s).drop i)) = .returned (.tuple #[.string ⟨#[]⟩, .int .i64 (i : Int)])) := Lib.hid (by rw [hbo]; rfl)
  have hii : ¬ (i : Int) < (i : Int) := by omega
  clear hbon hbo
  have hhead := Lib.hid (show Sp.digit (bat s i) = true ∨ (bat s i = 46 ∧ Sp.digit (bat s (i + 1)) = true) from .inr ⟨h46.out, hd2⟩)
  obtain ⟨c0, c1, c2, c4, c5⟩ := H.R
  go_enter Tryz.func82, Tryz.ntmps82
  go_wp2
  go_quiet (fail)
  have HB1 : Hid (Below B w (w.drewN nq)) := Lib.hid (bdrewN (Below.refl _ _) nq)
  have H1 := H.later (bdrewN (Below.refl _ _) nq)
  clear c0 c1 c2 c4 c5
  generalize w.drewN nq = W at *
  have R1 := H1.R
  obtain ⟨c0, c1, c2, c4, c5⟩ := H1.R
  go_wp2_with (first
    | (go_at_call 145; refine (rblank_c _ _).mono ?_; rw [hbl]; rintro e w' ⟨rfl, rfl⟩)
    | (go_at_call 146; refine (rByte_c _ _).mono ?_; rw [hp]; rintro e w' ⟨rfl, rfl⟩)
    | (go_at_call 149; refine (rbold_i i g s i rg 0 bad h0 h2 _ (by omega) (by omega) (by omega) _ R1).mono ?_; rw [HBO.out]; rintro e w1 ⟨rfl, hb1⟩; have H2 := H1.later hb1; have R2 := H2.R; have HB2 : Hid (Below B w w1) := Lib.hid (HB1.out.trans (hb1.mono (Nat.le_trans H1.base (Nat.le_of_lt H1.lt)))); clear c0 c1 c2 c4 c5; obtain ⟨c0, c1, c2, c4, c5⟩ := H2.R)
    | (go_at_call 153; refine (rat_i (i + 1) g s i rg 0 bad _ (by omega) _ R2).mono ?_; rintro e w' ⟨rfl, rfl⟩)
    | (go_at_call 152; refine (rdigit_c _ _).mono ?_; (first | rw [hdi] | rw [hd2]); rintro e w' ⟨rfl, rfl⟩)
    | (go_at_call 154; refine (rnumber_c B g s i rg bad h0 out A c _ H2 hi hs hl hhead.out).mono ?_; intro e w4 hpost; obtain rfl := hpost.ret))
  go_end0
  rw [hfin.out]
  exact hpost.from HB2.out
set_option maxRecDepth 100000 in
set_option maxHeartbeats 4000000 in
theorem rnext_tag (B g : Nat) (s : ByteArray) (i : Nat) (rg bad : Int) (h0 : 0 ≤ rg) (h2 : rg ≤ 2) (out : List Sp.Sym) (A : Option Addr) (c : Nat) (w : World) (H : Ref B w g s i rg out A c 0 bad) (hi : i < s.size) (hs : s.size ≤ 1000000000) (hl : out.length ≤ 1000000)
    (hbl : Sp.blank s[i] = false) (hp : Sp.permitted s[i] = true) (e35 : ((s[i].toNat : Int) == 35) = false) (hbo : Sp.bold rg.toNat ((bs s).drop i) = none) (hdi : Sp.digit s[i] = false) (hnp : (((s[i].toNat : Int) == 46) = false) ∨ ((((s[i].toNat : Int) == 46) = true) ∧ Sp.digit (bat s (i + 1)) = false)) (hle : Sp.letter rg.toNat s[i] = true) (hle2 : Hid (Sp.letter rg.toNat (bat s i) = true)) (hfin : Hid (Sp.symbol rg.toNat ((bs s).drop i) = Sp.tag rg.toNat ((bs s).drop i))) :
    Calls Tryz.prog 82 #[.pointer (some ⟨g, 0, none⟩)] w (RPost B w g s i rg bad out (Sp.symbol rg.toNat ((bs s).drop i))) := by
  have hbon : boldE i none = .returned (.tuple #[.string ⟨#[]⟩, .int .i64 (i : Int)]) := rfl
  have HBO : Hid (boldE i (Sp.bold rg.toNat ((bs s).drop i)) = .returned (.tuple #[.string ⟨#[]⟩, .int .i64 (i : Int)])) := Lib.hid (by rw [hbo]; rfl)
  have hii : ¬ (i : Int) < (i : Int) := by omega
  clear hbon hbo
  obtain ⟨c0, c1, c2, c4, c5⟩ := H.R
  go_enter Tryz.func82, Tryz.ntmps82
  go_wp2
  go_quiet (fail)
  have HB1 : Hid (Below B w (w.drewN nq)) := Lib.hid (bdrewN (Below.refl _ _) nq)
  have H1 := H.later (bdrewN (Below.refl _ _) nq)
  clear c0 c1 c2 c4 c5
  generalize w.drewN nq = W at *
  have R1 := H1.R
  obtain ⟨c0, c1, c2, c4, c5⟩ := H1.R
  rcases hnp with e46 | ⟨e46, hd2⟩
  · go_wp2_with (first
        | (go_at_call 145; refine (rblank_c _ _).mono ?_; rw [hbl]; rintro e w' ⟨rfl, rfl⟩)
        | (go_at_call 146; refine (rByte_c _ _).mono ?_; rw [hp]; rintro e w' ⟨rfl, rfl⟩)
        | (go_at_call 149; refine (rbold_i i g s i rg 0 bad h0 h2 _ (by omega) (by omega) (by omega) _ R1).mono ?_; rw [HBO.out]; rintro e w1 ⟨rfl, hb1⟩; have H2 := H1.later hb1; have R2 := H2.R; have HB2 : Hid (Below B w w1) := Lib.hid (HB1.out.trans (hb1.mono (Nat.le_trans H1.base (Nat.le_of_lt H1.lt)))); clear c0 c1 c2 c4 c5; obtain ⟨c0, c1, c2, c4, c5⟩ := H2.R)
        | (go_at_call 153; refine (rat_i (i + 1) g s i rg 0 bad _ (by omega) _ R2).mono ?_; rintro e w' ⟨rfl, rfl⟩)
        | (go_at_call 152; refine (rdigit_c _ _).mono ?_; rw [hdi]; rintro e w' ⟨rfl, rfl⟩)
        | (go_at_call 155; refine (rletter_c g s i rg 0 bad h0 _ _ R2).mono ?_; rw [hle]; rintro e w' ⟨rfl, rfl⟩)
        | (go_at_call 156; refine (rtag_c B g s i rg bad h0 out A c _ H2 hi (by omega) hl hle2.out).mono ?_; intro e w4 hpost; obtain rfl := hpost.ret))
    go_end0
    rw [hfin.out]
    exact hpost.from HB2.out
  · go_wp2_with (first
        | (go_at_call 145; refine (rblank_c _ _).mono ?_; rw [hbl]; rintro e w' ⟨rfl, rfl⟩)
        | (go_at_call 146; refine (rByte_c _ _).mono ?_; rw [hp]; rintro e w' ⟨rfl, rfl⟩)
        | (go_at_call 149; refine (rbold_i i g s i rg 0 bad h0 h2 _ (by omega) (by omega) (by omega) _ R1).mono ?_; rw [HBO.out]; rintro e w1 ⟨rfl, hb1⟩; have H2 := H1.later hb1; have R2 := H2.R; have HB2 : Hid (Below B w w1) := Lib.hid (HB1.out.trans (hb1.mono (Nat.le_trans H1.base (Nat.le_of_lt H1.lt)))); clear c0 c1 c2 c4 c5; obtain ⟨c0, c1, c2, c4, c5⟩ := H2.R)
        | (go_at_call 153; refine (rat_i (i + 1) g s i rg 0 bad _ (by omega) _ R2).mono ?_; rintro e w' ⟨rfl, rfl⟩)
        | (go_at_call 152; refine (rdigit_c _ _).mono ?_; (first | rw [hdi] | rw [hd2]); rintro e w' ⟨rfl, rfl⟩)
        | (go_at_call 155; refine (rletter_c g s i rg 0 bad h0 _ _ R2).mono ?_; rw [hle]; rintro e w' ⟨rfl, rfl⟩)
        | (go_at_call 156; refine (rtag_c B g s i rg bad h0 out A c _ H2 hi (by omega) hl hle2.out).mono ?_; intro e w4 hpost; obtain rfl := hpost.ret))
    go_end0
    rw [hfin.out]
    exact hpost.from HB2.out
set_option maxRecDepth 100000 in
set_option maxHeartbeats 4000000 in
theorem rnext_text (B g : Nat) (s : ByteArray) (i : Nat) (rg bad : Int) (h0 : 0 ≤ rg) (h2 : rg ≤ 2) (out : List Sp.Sym) (A : Option Addr) (c : Nat) (w : World) (H : Ref B w g s i rg out A c 0 bad) (hi : i < s.size) (hs : s.size ≤ 1000000000) (hl : out.length ≤ 1000000)
    (hbl : Sp.blank s[i] = false) (hp : Sp.permitted s[i] = true) (e35 : ((s[i].toNat : Int) == 35) = false) (hbo : Sp.bold rg.toNat ((bs s).drop i) = none) (hdi : Sp.digit s[i] = false) (hnp : (((s[i].toNat : Int) == 46) = false) ∨ ((((s[i].toNat : Int) == 46) = true) ∧ Sp.digit (bat s (i + 1)) = false)) (hle : Sp.letter rg.toNat s[i] = false) (e34 : ((s[i].toNat : Int) == 34) = true) (hfin : Hid (Sp.symbol rg.toNat ((bs s).drop i) = Sp.quoted ((bs s).drop i))) :
    Calls Tryz.prog 82 #[.pointer (some ⟨g, 0, none⟩)] w (RPost B w g s i rg bad out (Sp.symbol rg.toNat ((bs s).drop i))) := by
  have hbon : boldE i none = .returned (.tuple #[.string ⟨#[]⟩, .int .i64 (i : Int)]) := rfl
  have HBO : Hid (boldE i (Sp.bold rg.toNat ((bs s).drop i)) = .returned (.tuple #[.string ⟨#[]⟩, .int .i64 (i : Int)])) := Lib.hid (by rw [hbo]; rfl)
  have hii : ¬ (i : Int) < (i : Int) := by omega
  clear hbon hbo
  obtain ⟨c0, c1, c2, c4, c5⟩ := H.R
  go_enter Tryz.func82, Tryz.ntmps82
  go_wp2
  go_quiet (fail)
  have HB1 : Hid (Below B w (w.drewN nq)) := Lib.hid (bdrewN (Below.refl _ _) nq)
  have H1 := H.later (bdrewN (Below.refl _ _) nq)
  clear c0 c1 c2 c4 c5
  generalize w.drewN nq = W at *
  have R1 := H1.R
  obtain ⟨c0, c1, c2, c4, c5⟩ := H1.R
  rcases hnp with e46 | ⟨e46, hd2⟩
  · go_wp2_with (first
        | (go_at_call 145; refine (rblank_c _ _).mono ?_; rw [hbl]; rintro e w' ⟨rfl, rfl⟩)
        | (go_at_call 146; refine (rByte_c _ _).mono ?_; rw [hp]; rintro e w' ⟨rfl, rfl⟩)
        | (go_at_call 149; refine (rbold_i i g s i rg 0 bad h0 h2 _ (by omega) (by omega) (by omega) _ R1).mono ?_; rw [HBO.out]; rintro e w1 ⟨rfl, hb1⟩; have H2 := H1.later hb1; have R2 := H2.R; have HB2 : Hid (Below B w w1) := Lib.hid (HB1.out.trans (hb1.mono (Nat.le_trans H1.base (Nat.le_of_lt H1.lt)))); clear c0 c1 c2 c4 c5; obtain ⟨c0, c1, c2, c4, c5⟩ := H2.R)
        | (go_at_call 153; refine (rat_i (i + 1) g s i rg 0 bad _ (by omega) _ R2).mono ?_; rintro e w' ⟨rfl, rfl⟩)
        | (go_at_call 152; refine (rdigit_c _ _).mono ?_; rw [hdi]; rintro e w' ⟨rfl, rfl⟩)
        | (go_at_call 155; refine (rletter_c g s i rg 0 bad h0 _ _ R2).mono ?_; rw [hle]; rintro e w' ⟨rfl, rfl⟩)
        | (go_at_call 157; refine (rtext_c B g s i rg bad out A c _ H2 hi (by omega) hl).mono ?_; intro e w4 hpost; obtain rfl := hpost.ret))
    go_end0
    rw [hfin.out]
    exact hpost.from HB2.out
  · go_wp2_with (first
        | (go_at_call 145; refine (rblank_c _ _).mono ?_; rw [hbl]; rintro e w' ⟨rfl, rfl⟩)
        | (go_at_call 146; refine (rByte_c _ _).mono ?_; rw [hp]; rintro e w' ⟨rfl, rfl⟩)
        | (go_at_call 149; refine (rbold_i i g s i rg 0 bad h0 h2 _ (by omega) (by omega) (by omega) _ R1).mono ?_; rw [HBO.out]; rintro e w1 ⟨rfl, hb1⟩; have H2 := H1.later hb1; have R2 := H2.R; have HB2 : Hid (Below B w w1) := Lib.hid (HB1.out.trans (hb1.mono (Nat.le_trans H1.base (Nat.le_of_lt H1.lt)))); clear c0 c1 c2 c4 c5; obtain ⟨c0, c1, c2, c4, c5⟩ := H2.R)
        | (go_at_call 153; refine (rat_i (i + 1) g s i rg 0 bad _ (by omega) _ R2).mono ?_; rintro e w' ⟨rfl, rfl⟩)
        | (go_at_call 152; refine (rdigit_c _ _).mono ?_; (first | rw [hdi] | rw [hd2]); rintro e w' ⟨rfl, rfl⟩)
        | (go_at_call 155; refine (rletter_c g s i rg 0 bad h0 _ _ R2).mono ?_; rw [hle]; rintro e w' ⟨rfl, rfl⟩)
        | (go_at_call 157; refine (rtext_c B g s i rg bad out A c _ H2 hi (by omega) hl).mono ?_; intro e w4 hpost; obtain rfl := hpost.ret))
    go_end0
    rw [hfin.out]
    exact hpost.from HB2.out
set_option maxRecDepth 100000 in
set_option maxHeartbeats 4000000 in
theorem rnext_format (B g : Nat) (s : ByteArray) (i : Nat) (rg bad : Int) (h0 : 0 ≤ rg) (h2 : rg ≤ 2) (out : List Sp.Sym) (A : Option Addr) (c : Nat) (w : World) (H : Ref B w g s i rg out A c 0 bad) (hi : i < s.size) (hs : s.size ≤ 1000000000) (hl : out.length ≤ 1000000)
    (hbl : Sp.blank s[i] = false) (hp : Sp.permitted s[i] = true) (e35 : ((s[i].toNat : Int) == 35) = false) (hbo : Sp.bold rg.toNat ((bs s).drop i) = none) (hdi : Sp.digit s[i] = false) (hnp : (((s[i].toNat : Int) == 46) = false) ∨ ((((s[i].toNat : Int) == 46) = true) ∧ Sp.digit (bat s (i + 1)) = false)) (hle : Sp.letter rg.toNat s[i] = false) (e34 : ((s[i].toNat : Int) == 34) = false) (e36 : ((s[i].toNat : Int) == 36) = true) (hfin : Hid (Sp.symbol rg.toNat ((bs s).drop i) = Sp.format ((bs s).drop i))) :
    Calls Tryz.prog 82 #[.pointer (some ⟨g, 0, none⟩)] w (RPost B w g s i rg bad out (Sp.symbol rg.toNat ((bs s).drop i))) := by
  have hbon : boldE i none = .returned (.tuple #[.string ⟨#[]⟩, .int .i64 (i : Int)]) := rfl
  have HBO : Hid (boldE i (Sp.bold rg.toNat ((bs s).drop i)) = .returned (.tuple #[.string ⟨#[]⟩, .int .i64 (i : Int)])) := Lib.hid (by rw [hbo]; rfl)
  have hii : ¬ (i : Int) < (i : Int) := by omega
  clear hbon hbo
  obtain ⟨c0, c1, c2, c4, c5⟩ := H.R
  go_enter Tryz.func82, Tryz.ntmps82
  go_wp2
  go_quiet (fail)
  have HB1 : Hid (Below B w (w.drewN nq)) := Lib.hid (bdrewN (Below.refl _ _) nq)
  have H1 := H.later (bdrewN (Below.refl _ _) nq)
  clear c0 c1 c2 c4 c5
  generalize w.drewN nq = W at *
  have R1 := H1.R
  obtain ⟨c0, c1, c2, c4, c5⟩ := H1.R
  rcases hnp with e46 | ⟨e46, hd2⟩
  · go_wp2_with (first
        | (go_at_call 145; refine (rblank_c _ _).mono ?_; rw [hbl]; rintro e w' ⟨rfl, rfl⟩)
        | (go_at_call 146; refine (rByte_c _ _).mono ?_; rw [hp]; rintro e w' ⟨rfl, rfl⟩)
        | (go_at_call 149; refine (rbold_i i g s i rg 0 bad h0 h2 _ (by omega) (by omega) (by omega) _ R1).mono ?_; rw [HBO.out]; rintro e w1 ⟨rfl, hb1⟩; have H2 := H1.later hb1; have R2 := H2.R; have HB2 : Hid (Below B w w1) := Lib.hid (HB1.out.trans (hb1.mono (Nat.le_trans H1.base (Nat.le_of_lt H1.lt)))); clear c0 c1 c2 c4 c5; obtain ⟨c0, c1, c2, c4, c5⟩ := H2.R)
        | (go_at_call 153; refine (rat_i (i + 1) g s i rg 0 bad _ (by omega) _ R2).mono ?_; rintro e w' ⟨rfl, rfl⟩)
        | (go_at_call 152; refine (rdigit_c _ _).mono ?_; rw [hdi]; rintro e w' ⟨rfl, rfl⟩)
        | (go_at_call 155; refine (rletter_c g s i rg 0 bad h0 _ _ R2).mono ?_; rw [hle]; rintro e w' ⟨rfl, rfl⟩)
        | (go_at_call 158; refine (rformat_c B g s i rg bad out A c _ H2 hi (by omega) hl).mono ?_; intro e w4 hpost; obtain rfl := hpost.ret))
    go_end0
    rw [hfin.out]
    exact hpost.from HB2.out
  · go_wp2_with (first
        | (go_at_call 145; refine (rblank_c _ _).mono ?_; rw [hbl]; rintro e w' ⟨rfl, rfl⟩)
        | (go_at_call 146; refine (rByte_c _ _).mono ?_; rw [hp]; rintro e w' ⟨rfl, rfl⟩)
        | (go_at_call 149; refine (rbold_i i g s i rg 0 bad h0 h2 _ (by omega) (by omega) (by omega) _ R1).mono ?_; rw [HBO.out]; rintro e w1 ⟨rfl, hb1⟩; have H2 := H1.later hb1; have R2 := H2.R; have HB2 : Hid (Below B w w1) := Lib.hid (HB1.out.trans (hb1.mono (Nat.le_trans H1.base (Nat.le_of_lt H1.lt)))); clear c0 c1 c2 c4 c5; obtain ⟨c0, c1, c2, c4, c5⟩ := H2.R)
        | (go_at_call 153; refine (rat_i (i + 1) g s i rg 0 bad _ (by omega) _ R2).mono ?_; rintro e w' ⟨rfl, rfl⟩)
        | (go_at_call 152; refine (rdigit_c _ _).mono ?_; (first | rw [hdi] | rw [hd2]); rintro e w' ⟨rfl, rfl⟩)
        | (go_at_call 155; refine (rletter_c g s i rg 0 bad h0 _ _ R2).mono ?_; rw [hle]; rintro e w' ⟨rfl, rfl⟩)
        | (go_at_call 158; refine (rformat_c B g s i rg bad out A c _ H2 hi (by omega) hl).mono ?_; intro e w4 hpost; obtain rfl := hpost.ret))
    go_end0
    rw [hfin.out]
    exact hpost.from HB2.out
end Go.Proofs.YtjghijeblddijaaGreatDoor
set_option linter.unusedVariables false
namespace Go.Proofs.YtjghijeblddijaaGreatDoor
open Go.RowKit
/-- The reference's list of signs: the third stands before the others that end with :=. -/
def Sp.rsigns : List (List UInt8) := [[37, 42, 58, 61], [58, 47, 61, 58], [58, 61, 58], [43, 58, 61], [45, 58, 61], [42, 58, 61], [47, 58, 61], [37, 58, 61], [43, 61, 58], [124, 58], [58, 61], [47, 61], [60, 61], [62, 61], [42, 42], [47, 47], [37, 42], [43, 42], [40], [41], [91], [93], [44], [59], [58], [64], [124], [61], [60], [62], [43], [45], [42], [47], [37], [94], [38], [126]]
theorem find_moved {α : Type} (q : α → Bool) (m : α) (A B C : List α) (h : q m = true → ∀ x ∈ B, q x = false) : (A ++ m :: (B ++ C)).find? q = (A ++ (B ++ m :: C)).find? q := by
  rw [List.find?_append, List.find?_append]
  congr 1
  cases hm : q m with
  | true =>
    rw [List.find?_cons_of_pos (by exact hm), List.find?_append, List.find?_cons_of_pos (by exact hm), List.find?_eq_none.2 (fun x hx => by rw [h hm x hx]; decide)]
    rfl
  | false => rw [List.find?_cons_of_neg (by rw [hm]; decide), List.find?_append, List.find?_append, List.find?_cons_of_neg (by rw [hm]; decide)]
theorem Sp.rsigns_find (l : List UInt8) : Sp.rsigns.find? (fun s => s.isPrefixOf l) = Sp.signs.find? (fun s => s.isPrefixOf l) := by
  refine find_moved (fun s : List UInt8 => s.isPrefixOf l) [58, 61, 58] (Sp.rsigns.take 2) [[43, 58, 61], [45, 58, 61], [42, 58, 61], [47, 58, 61], [37, 58, 61], [43, 61, 58]] (Sp.rsigns.drop 9) ?_
  intro hm x hx
  cases l with
  | nil => cases hm
  | cons a t =>
    have ha : a = 58 := by
      simp only [List.isPrefixOf, Bool.and_eq_true, beq_iff_eq] at hm
      exact hm.1.symm
    subst ha
    simp only [List.mem_cons, List.not_mem_nil, or_false] at hx
    rcases hx with rfl | rfl | rfl | rfl | rfl | rfl <;> rfl
def rsignsA : Array Value := (Sp.rsigns.map fun l => Value.string ⟨l.toArray⟩).toArray
theorem rsigns_get (k : Nat) (hk : k < 38) : ∃ x : List UInt8, Sp.rsigns[k]? = some x ∧ rsignsA[k]? = some (.string ⟨x.toArray⟩) ∧ x.length ≤ 4 := by
  have hlen : k < Sp.rsigns.length := hk
  have hall : ∀ x ∈ Sp.rsigns, x.length ≤ 4 := by decide
  refine ⟨Sp.rsigns[k], List.getElem?_eq_getElem hlen, ?_, hall _ (List.getElem_mem hlen)⟩
  simp [rsignsA, List.getElem?_eq_getElem hlen]
theorem rfind_none (l : List UInt8) (h : ∀ j : Nat, j < 38 → ∀ x, Sp.rsigns[j]? = some x → x.isPrefixOf l = false) : Sp.sign l = .fault 0 9 := by
  unfold Sp.sign
  have : Sp.signs.find? (fun s => s.isPrefixOf l) = none := by
    rw [← Sp.rsigns_find, List.find?_eq_none]
    intro x hx
    obtain ⟨j, hj⟩ := List.getElem?_of_mem hx
    have hj2 : j < 38 := by
      have := (List.getElem?_eq_some_iff.1 hj).1
      exact this
    rw [h j hj2 x hj]; decide
  rw [this]
theorem rfind_some (l : List UInt8) (k : Nat) (x : List UInt8) (hk : Sp.rsigns[k]? = some x) (hx : x.isPrefixOf l = true) (h : ∀ j : Nat, j < k → ∀ x, Sp.rsigns[j]? = some x → x.isPrefixOf l = false) : Sp.sign l = .sym 8 x x.length := by
  unfold Sp.sign
  have : Sp.signs.find? (fun s => s.isPrefixOf l) = some x := by
    obtain ⟨hlt, he⟩ := List.getElem?_eq_some_iff.1 hk
    rw [← Sp.rsigns_find, List.find?_eq_some_iff_getElem]
    refine ⟨hx, k, hlt, he, fun j hj => ?_⟩
    rw [h j hj _ (List.getElem?_eq_getElem (by omega))]; rfl
  rw [this]
set_option maxRecDepth 100000 in
theorem rsigns_c (w : World) : Calls Tryz.prog 159 #[] w fun e w' =>
    ∃ g2, e = .returned (.slice (some ⟨g2, 0, none⟩) 38 38) ∧ Below w.heap.size w w' ∧ (∀ (k : Nat) (x : List UInt8), Sp.rsigns[k]? = some x → w'.cell? ⟨g2, k, none⟩ = some (.string ⟨x.toArray⟩)) := by
  have hz : ∀ (k : Nat) (x : List UInt8), Sp.rsigns[k]? = some x → rsignsA[k]? = some (.string ⟨x.toArray⟩) := fun k x h => by
    simp [rsignsA, h]
  have Hz := Lib.hid hz
  clear hz
  go_enter Tryz.func159, Tryz.ntmps159
  go_wp2
  go_ret
  refine ⟨w.heap.size, rfl, below_alloc0 (Below.refl _ _) _, fun k x h => ?_⟩
  rw [cell_of_blk (heap_alloc_new w _)]
  exact Hz.out k x h
theorem pfx_iff (s : ByteArray) (i : Nat) (x : List UInt8) (hle : i + x.length ≤ s.size) : ((s.extract i (i + x.length)).toList == x) = x.isPrefixOf ((bs s).drop i) := by
  rw [toList_bs, bs_extract, show i + x.length - i = x.length from by omega]
  generalize (bs s).drop i = l
  rw [Bool.eq_iff_iff, beq_iff_eq, List.isPrefixOf_iff_prefix, List.prefix_iff_eq_take]
  exact eq_comm
theorem pfx_long (s : ByteArray) (i : Nat) (x : List UInt8) (hle : ¬ i + x.length ≤ s.size) (hi : i ≤ s.size) : x.isPrefixOf ((bs s).drop i) = false := by
  rw [Bool.eq_false_iff]
  intro h
  rw [List.isPrefixOf_iff_prefix] at h
  have := h.length_le
  rw [List.length_drop, bs_length] at this
  omega
set_option maxRecDepth 100000 in
set_option maxHeartbeats 4000000 in
theorem rnext_sign1 (B g : Nat) (s : ByteArray) (i : Nat) (rg bad : Int) (h0 : 0 ≤ rg) (h2 : rg ≤ 2) (out : List Sp.Sym) (A : Option Addr) (c : Nat) (w : World) (H : Ref B w g s i rg out A c 0 bad) (hi : i < s.size) (hs : s.size ≤ 1000000000) (hl : out.length ≤ 1000000)
    (hbl : Sp.blank s[i] = false) (hp : Sp.permitted s[i] = true) (e35 : ((s[i].toNat : Int) == 35) = false) (hbo : Sp.bold rg.toNat ((bs s).drop i) = none) (hdi : Sp.digit s[i] = false) (e46 : ((s[i].toNat : Int) == 46) = false) (hle : Sp.letter rg.toNat s[i] = false) (e34 : ((s[i].toNat : Int) == 34) = false) (e36 : ((s[i].toNat : Int) == 36) = false) (hfin : Hid (Sp.symbol rg.toNat ((bs s).drop i) = Sp.sign ((bs s).drop i))) :
    Calls Tryz.prog 82 #[.pointer (some ⟨g, 0, none⟩)] w (RPost B w g s i rg bad out (Sp.symbol rg.toNat ((bs s).drop i))) := by
  have hbon : boldE i none = .returned (.tuple #[.string ⟨#[]⟩, .int .i64 (i : Int)]) := rfl
  have HBO : Hid (boldE i (Sp.bold rg.toNat ((bs s).drop i)) = .returned (.tuple #[.string ⟨#[]⟩, .int .i64 (i : Int)])) := Lib.hid (by rw [hbo]; rfl)
  have hii : ¬ (i : Int) < (i : Int) := by omega
  clear hbon hbo
  obtain ⟨c0, c1, c2, c4, c5⟩ := H.R
  go_enter Tryz.func82, Tryz.ntmps82
  go_wp2
  go_quiet (fail)
  have HB1 : Hid (Below B w (w.drewN nq)) := Lib.hid (bdrewN (Below.refl _ _) nq)
  have H1 := H.later (bdrewN (Below.refl _ _) nq)
  clear c0 c1 c2 c4 c5
  generalize w.drewN nq = W at *
  have R1 := H1.R
  obtain ⟨c0, c1, c2, c4, c5⟩ := H1.R
  go_wp2_with (first
    | (go_at_call 145; refine (rblank_c _ _).mono ?_; rw [hbl]; rintro e w' ⟨rfl, rfl⟩)
    | (go_at_call 146; refine (rByte_c _ _).mono ?_; rw [hp]; rintro e w' ⟨rfl, rfl⟩)
    | (go_at_call 149; refine (rbold_i i g s i rg 0 bad h0 h2 _ (by omega) (by omega) (by omega) _ R1).mono ?_; rw [HBO.out]; rintro e w1 ⟨rfl, hb1⟩; have H2 := H1.later hb1; have R2 := H2.R; have HB2 : Hid (Below B w w1) := Lib.hid (HB1.out.trans (hb1.mono (Nat.le_trans H1.base (Nat.le_of_lt H1.lt)))); clear c0 c1 c2 c4 c5; obtain ⟨c0, c1, c2, c4, c5⟩ := H2.R)
    | (go_at_call 152; refine (rdigit_c _ _).mono ?_; rw [hdi]; rintro e w' ⟨rfl, rfl⟩)
    | (go_at_call 155; refine (rletter_c g s i rg 0 bad h0 _ _ R2).mono ?_; rw [hle]; rintro e w' ⟨rfl, rfl⟩)
    | (go_at_call 159; refine (rsigns_c _).mono ?_; rintro e w2 ⟨g2, rfl, hb2, hsg⟩; have Hsg := Lib.hid hsg; clear hsg; have H3 := H2.later hb2; have HB3 : Hid (Below B w w2) := Lib.hid (HB2.out.trans (hb2.mono (Nat.le_trans H2.base (Nat.le_of_lt H2.lt)))); clear c0 c1 c2 c4 c5; obtain ⟨c0, c1, c2, c4, c5⟩ := H3.R))
  go_loopw [6, 7] (fun t _ wr => ∃ k : Nat, k ≤ 38 ∧ t = .int .i64 k ∧ Below w2.heap.size w2 wr ∧ Hid (∀ j : Nat, j < k → ∀ x, Sp.rsigns[j]? = some x → x.isPrefixOf ((bs s).drop i) = false)) (fun t _ _ => 38 - (intOf t).toNat)
  case atStart => exact ⟨0, by omega, rfl, Below.refl _ _, Lib.hid fun j hj => absurd hj (Nat.not_lt_zero j)⟩
  case round =>
    obtain ⟨k, hk, rfl, hB, hh⟩ := hrel
    have H4 := H3.later hB
    have HB4 : Hid (Below B w wr) := Lib.hid (HB3.out.trans (hB.mono (Nat.le_trans H3.base (Nat.le_of_lt H3.lt))))
    clear c0 c1 c2 c4 c5
    obtain ⟨c0, c1, c2, c4, c5⟩ := H4.R
    by_cases hlt : k < 38
    · obtain ⟨x, hx1, _, hx3⟩ := rsigns_get k hlt
      have hcell := cell_later hB (Hsg.out k x hx1)
      have Hx1 := Lib.hid hx1
      have Hx3 := Lib.hid hx3
      clear hx1 hx3
      have hxl : x.length ≤ 4 := Hx3.out
      by_cases hle : i + x.length ≤ s.size
      · have hgd : decide ((i : Int) + (x.length : Int) ≤ (s.size : Int)) = true := decide_eq_true (by omega)
        have hpi := Lib.hid (pfx_iff s i x hle)
        cases hpf : ((s.extract i (i + x.length)).toList == x) with
        | true =>
          have Hpf : Hid (x.isPrefixOf ((bs s).drop i) = true) := Lib.hid (by rw [← hpi.out]; exact hpf)
          go_wp2
          go_quiet (fail)
          have H5 := H4.later (bdrewN (Below.refl _ _) nq)
          have HB5 : Hid (Below B w (wr.drewN nq)) := Lib.hid (bdrewN HB4.out nq)
          have hcell5 := cell_later (bdrewN (Below.refl wr.heap.size wr) nq) hcell
          clear c0 c1 c2 c4 c5 hcell
          generalize wr.drewN nq = W5 at *
          obtain ⟨c0, c1, c2, c4, c5⟩ := H5.R
          go_wp2
          go_still_tail 15, (by kernel_rfl)
          have H6 := H5.later (Below.refl _ _).drew
          have HB6 : Hid (Below B w W5.drew) := Lib.hid HB5.out.drew
          go_wp2_with (first | (go_at_call 151; refine (radd_l x (i + x.length) B g s i rg out A c 0 bad 8 _ rfl _ (by omega) _ H6 hl).mono ?_; rintro e w6 ⟨rfl, hs6, hb6⟩))
          go_end0
          rw [hfin.out, rfind_some _ k x Hx1.out Hpf.out hh.out]
          exact ⟨rfl, hs6, HB6.out.trans hb6⟩
        | false =>
          have Hpf : Hid (x.isPrefixOf ((bs s).drop i) = false) := Lib.hid (by rw [← hpi.out]; exact hpf)
          go_wp2
          go_quiet (fail)
          go_wp2
          go_roundw
          case rel =>
            refine ⟨k + 1, by omega, by go_num, bdrewN hB nq, Lib.hid fun j hj y hy => ?_⟩
            by_cases hjk : j = k
            · subst hjk
              rw [Hx1.out] at hy
              injection hy with hy
              rw [← hy]; exact Hpf.out
            · exact hh.out j (by omega) y hy
          case measure => simp [intOf]; omega
      · have hgd : decide ((i : Int) + (x.length : Int) ≤ (s.size : Int)) = false := decide_eq_false (by omega)
        have Hpf : Hid (x.isPrefixOf ((bs s).drop i) = false) := Lib.hid (pfx_long s i x hle (by omega))
        clear hle
        go_wp2
        go_quiet (fail)
        go_wp2
        go_roundw
        case rel =>
          refine ⟨k + 1, by omega, by go_num, bdrewN hB nq, Lib.hid fun j hj y hy => ?_⟩
          by_cases hjk : j = k
          · subst hjk
            rw [Hx1.out] at hy
            injection hy with hy
            rw [← hy]; exact Hpf.out
          · exact hh.out j (by omega) y hy
        case measure => simp [intOf]; omega
    · have hk38 : k = 38 := by omega
      subst hk38
      have hnone := Lib.hid (rfind_none _ hh.out)
      go_wp2_with (first | (go_at_call 147; refine (rfail_first B g s i rg out A c bad 9 _ _ H4).mono ?_; rintro e w5 ⟨rfl, hs5, hb5⟩))
      go_end0
      rw [hfin.out, hnone.out]
      exact ⟨rfl, ⟨_, _, _, _, _, hs5⟩, HB4.out.trans hb5⟩
set_option maxRecDepth 100000 in
set_option maxHeartbeats 4000000 in
theorem rnext_sign2 (B g : Nat) (s : ByteArray) (i : Nat) (rg bad : Int) (h0 : 0 ≤ rg) (h2 : rg ≤ 2) (out : List Sp.Sym) (A : Option Addr) (c : Nat) (w : World) (H : Ref B w g s i rg out A c 0 bad) (hi : i < s.size) (hs : s.size ≤ 1000000000) (hl : out.length ≤ 1000000)
    (hbl : Sp.blank s[i] = false) (hp : Sp.permitted s[i] = true) (e35 : ((s[i].toNat : Int) == 35) = false) (hbo : Sp.bold rg.toNat ((bs s).drop i) = none) (hdi : Sp.digit s[i] = false) (e46 : ((s[i].toNat : Int) == 46) = true) (hd2 : Sp.digit (bat s (i + 1)) = false) (hle : Sp.letter rg.toNat s[i] = false) (e34 : ((s[i].toNat : Int) == 34) = false) (e36 : ((s[i].toNat : Int) == 36) = false) (hfin : Hid (Sp.symbol rg.toNat ((bs s).drop i) = Sp.sign ((bs s).drop i))) :
    Calls Tryz.prog 82 #[.pointer (some ⟨g, 0, none⟩)] w (RPost B w g s i rg bad out (Sp.symbol rg.toNat ((bs s).drop i))) := by
  have hbon : boldE i none = .returned (.tuple #[.string ⟨#[]⟩, .int .i64 (i : Int)]) := rfl
  have HBO : Hid (boldE i (Sp.bold rg.toNat ((bs s).drop i)) = .returned (.tuple #[.string ⟨#[]⟩, .int .i64 (i : Int)])) := Lib.hid (by rw [hbo]; rfl)
  have hii : ¬ (i : Int) < (i : Int) := by omega
  clear hbon hbo
  obtain ⟨c0, c1, c2, c4, c5⟩ := H.R
  go_enter Tryz.func82, Tryz.ntmps82
  go_wp2
  go_quiet (fail)
  have HB1 : Hid (Below B w (w.drewN nq)) := Lib.hid (bdrewN (Below.refl _ _) nq)
  have H1 := H.later (bdrewN (Below.refl _ _) nq)
  clear c0 c1 c2 c4 c5
  generalize w.drewN nq = W at *
  have R1 := H1.R
  obtain ⟨c0, c1, c2, c4, c5⟩ := H1.R
  go_wp2_with (first
    | (go_at_call 145; refine (rblank_c _ _).mono ?_; rw [hbl]; rintro e w' ⟨rfl, rfl⟩)
    | (go_at_call 146; refine (rByte_c _ _).mono ?_; rw [hp]; rintro e w' ⟨rfl, rfl⟩)
    | (go_at_call 149; refine (rbold_i i g s i rg 0 bad h0 h2 _ (by omega) (by omega) (by omega) _ R1).mono ?_; rw [HBO.out]; rintro e w1 ⟨rfl, hb1⟩; have H2 := H1.later hb1; have R2 := H2.R; have HB2 : Hid (Below B w w1) := Lib.hid (HB1.out.trans (hb1.mono (Nat.le_trans H1.base (Nat.le_of_lt H1.lt)))); clear c0 c1 c2 c4 c5; obtain ⟨c0, c1, c2, c4, c5⟩ := H2.R)
    | (go_at_call 153; refine (rat_i (i + 1) g s i rg 0 bad _ (by omega) _ R2).mono ?_; rintro e w' ⟨rfl, rfl⟩)
    | (go_at_call 152; refine (rdigit_c _ _).mono ?_; (first | rw [hdi] | rw [hd2]); rintro e w' ⟨rfl, rfl⟩)
    | (go_at_call 155; refine (rletter_c g s i rg 0 bad h0 _ _ R2).mono ?_; rw [hle]; rintro e w' ⟨rfl, rfl⟩)
    | (go_at_call 159; refine (rsigns_c _).mono ?_; rintro e w2 ⟨g2, rfl, hb2, hsg⟩; have Hsg := Lib.hid hsg; clear hsg; have H3 := H2.later hb2; have HB3 : Hid (Below B w w2) := Lib.hid (HB2.out.trans (hb2.mono (Nat.le_trans H2.base (Nat.le_of_lt H2.lt)))); clear c0 c1 c2 c4 c5; obtain ⟨c0, c1, c2, c4, c5⟩ := H3.R))
  go_loopw [6, 7] (fun t _ wr => ∃ k : Nat, k ≤ 38 ∧ t = .int .i64 k ∧ Below w2.heap.size w2 wr ∧ Hid (∀ j : Nat, j < k → ∀ x, Sp.rsigns[j]? = some x → x.isPrefixOf ((bs s).drop i) = false)) (fun t _ _ => 38 - (intOf t).toNat)
  case atStart => exact ⟨0, by omega, rfl, Below.refl _ _, Lib.hid fun j hj => absurd hj (Nat.not_lt_zero j)⟩
  case round =>
    obtain ⟨k, hk, rfl, hB, hh⟩ := hrel
    have H4 := H3.later hB
    have HB4 : Hid (Below B w wr) := Lib.hid (HB3.out.trans (hB.mono (Nat.le_trans H3.base (Nat.le_of_lt H3.lt))))
    clear c0 c1 c2 c4 c5
    obtain ⟨c0, c1, c2, c4, c5⟩ := H4.R
    by_cases hlt : k < 38
    · obtain ⟨x, hx1, _, hx3⟩ := rsigns_get k hlt
      have hcell := cell_later hB (Hsg.out k x hx1)
      have Hx1 := Lib.hid hx1
      have Hx3 := Lib.hid hx3
      clear hx1 hx3
      have hxl : x.length ≤ 4 := Hx3.out
      by_cases hle : i + x.length ≤ s.size
      · have hgd : decide ((i : Int) + (x.length : Int) ≤ (s.size : Int)) = true := decide_eq_true (by omega)
        have hpi := Lib.hid (pfx_iff s i x hle)
        cases hpf : ((s.extract i (i + x.length)).toList == x) with
        | true =>
          have Hpf : Hid (x.isPrefixOf ((bs s).drop i) = true) := Lib.hid (by rw [← hpi.out]; exact hpf)
          go_wp2
          go_quiet (fail)
          have H5 := H4.later (bdrewN (Below.refl _ _) nq)
          have HB5 : Hid (Below B w (wr.drewN nq)) := Lib.hid (bdrewN HB4.out nq)
          have hcell5 := cell_later (bdrewN (Below.refl wr.heap.size wr) nq) hcell
          clear c0 c1 c2 c4 c5 hcell
          generalize wr.drewN nq = W5 at *
          obtain ⟨c0, c1, c2, c4, c5⟩ := H5.R
          go_wp2
          go_still_tail 15, (by kernel_rfl)
          have H6 := H5.later (Below.refl _ _).drew
          have HB6 : Hid (Below B w W5.drew) := Lib.hid HB5.out.drew
          go_wp2_with (first | (go_at_call 151; refine (radd_l x (i + x.length) B g s i rg out A c 0 bad 8 _ rfl _ (by omega) _ H6 hl).mono ?_; rintro e w6 ⟨rfl, hs6, hb6⟩))
          go_end0
          rw [hfin.out, rfind_some _ k x Hx1.out Hpf.out hh.out]
          exact ⟨rfl, hs6, HB6.out.trans hb6⟩
        | false =>
          have Hpf : Hid (x.isPrefixOf ((bs s).drop i) = false) := Lib.hid (by rw [← hpi.out]; exact hpf)
          go_wp2
          go_quiet (fail)
          go_wp2
          go_roundw
          case rel =>
            refine ⟨k + 1, by omega, by go_num, bdrewN hB nq, Lib.hid fun j hj y hy => ?_⟩
            by_cases hjk : j = k
            · subst hjk
              rw [Hx1.out] at hy
              injection hy with hy
              rw [← hy]; exact Hpf.out
            · exact hh.out j (by omega) y hy
          case measure => simp [intOf]; omega
      · have hgd : decide ((i : Int) + (x.length : Int) ≤ (s.size : Int)) = false := decide_eq_false (by omega)
        have Hpf : Hid (x.isPrefixOf ((bs s).drop i) = false) := Lib.hid (pfx_long s i x hle (by omega))
        clear hle
        go_wp2
        go_quiet (fail)
        go_wp2
        go_roundw
        case rel =>
          refine ⟨k + 1, by omega, by go_num, bdrewN hB nq, Lib.hid fun j hj y hy => ?_⟩
          by_cases hjk : j = k
          · subst hjk
            rw [Hx1.out] at hy
            injection hy with hy
            rw [← hy]; exact Hpf.out
          · exact hh.out j (by omega) y hy
        case measure => simp [intOf]; omega
    · have hk38 : k = 38 := by omega
      subst hk38
      have hnone := Lib.hid (rfind_none _ hh.out)
      go_wp2_with (first | (go_at_call 147; refine (rfail_first B g s i rg out A c bad 9 _ _ H4).mono ?_; rintro e w5 ⟨rfl, hs5, hb5⟩))
      go_end0
      rw [hfin.out, hnone.out]
      exact ⟨rfl, ⟨_, _, _, _, _, hs5⟩, HB4.out.trans hb5⟩
theorem rbold_len (r : Nat) (l w : List UInt8) (n : Nat) (h : Sp.bold r l = some (w, n)) : w.length ≤ n := by
  cases l with
  | nil => simp [Sp.bold] at h
  | cons c t =>
    unfold Sp.bold at h
    dsimp only at h
    split at h
    · split at h
      · injection h with h
        injection h with h1 h2
        subst h1; subst h2
        rw [List.length_take]; omega
      · cases h
    · split at h
      · split at h
        · split at h
          · injection h with h
            injection h with h1 h2
            subst h1; subst h2
            rw [List.length_map, List.length_take]; omega
          · cases h
        · injection h with h
          injection h with h1 h2
          subst h1; subst h2
          rw [List.length_map, List.length_take]; omega
      · cases h
theorem bold_len (r : Nat) (l wd : List UInt8) (n : Nat) (h : Sp.bold r l = some (wd, n)) : Sp.count wd = wd.length ∧ wd.length ≤ l.length := by
  refine ⟨?_, ?_⟩
  · unfold Sp.count
    rw [List.filter_eq_self.2]
    intro x hx
    have h1 := (Sp.bold_form r l wd n h).2 x hx
    simp only [Sp.capdig, Bool.or_eq_true, Sp.capital_iff, Sp.digit_iff] at h1
    rw [Bool.or_eq_true, Sp.digit_iff, Sp.small_iff, Sp.low_int]
    by_cases hc : Sp.capital x = true
    · rw [if_pos hc]; rw [Sp.capital_iff] at hc; omega
    · rw [if_neg hc]; rw [Sp.capital_iff] at hc; omega
  · have h1 := (Sp.bold_bound r l wd n h).2
    have h2 := rbold_len r l wd n h
    omega
theorem rnext_c (B g : Nat) (s : ByteArray) (i : Nat) (rg bad : Int) (h0 : 0 ≤ rg) (h2 : rg ≤ 2) (out : List Sp.Sym) (A : Option Addr) (c : Nat) (w : World) (H : Ref B w g s i rg out A c 0 bad) (hi : i < s.size) (hs : s.size ≤ 1000000000) (hl : out.length ≤ 1000000) (hbl : Sp.blank s[i] = false) :
    Calls Tryz.prog 82 #[.pointer (some ⟨g, 0, none⟩)] w (RPost B w g s i rg bad out (Sp.symbol rg.toNat ((bs s).drop i))) := by
  have hsym := symbol_eq rg.toNat s i hi
  have hbat := bat_in s i hi
  have hg : (bs s).getD (i + 1) 0 = bat s (i + 1) := (bat_eq s (i + 1)).symm
  rw [hg] at hsym
  cases hp : Sp.permitted s[i] with
  | false => exact rnext_bad B g s i rg bad h0 h2 out A c w H hi hs hl hbl hp
  | true =>
    rw [if_neg (by rw [hp]; decide)] at hsym
    by_cases h35 : s[i] = 35
    · have hbo : Sp.bold rg.toNat ((bs s).drop i) = none := bold_none_of _ s i (.inl (by rw [hbat, h35]; decide)) (fun _ => by rw [hbat, h35]; unfold Sp.mark; split <;> decide)
      rw [hbo] at hsym
      dsimp only at hsym
      rw [if_neg (by rw [h35]; simp [Sp.letter, Sp.small, Sp.capital]), if_neg (by rw [h35]; simp [Sp.digit]), if_neg (by rw [h35]; decide), if_neg (by rw [h35]; decide), if_pos (by rw [h35]; rfl)] at hsym
      exact rnext_hash B g s i rg bad h0 h2 out A c w H hi hs hl hbl hp (byte_is _ 35 35 rfl h35) (Lib.hid hsym)
    · have e35 := byte_isnt _ 35 35 rfl h35
      cases hbo : Sp.bold rg.toNat ((bs s).drop i) with
      | some p =>
        obtain ⟨wd, n⟩ := p
        rw [hbo] at hsym
        dsimp only at hsym
        obtain ⟨hcn, hwl⟩ := bold_len _ _ _ _ hbo
        rw [List.length_drop, bs_length] at hwl
        by_cases hw : wd = Sp.CO ∨ wd = Sp.COMMENT ∨ wd = Sp.PR ∨ wd = Sp.PRAGMAT
        · exact rnext_word B g s i rg bad h0 h2 out A c w H hi hs hl hbl hp e35 wd n hbo (Lib.hid hsym) hw
        · by_cases h40 : 40 < wd.length
          · exact rnext_long B g s i rg bad h0 h2 out A c w H hi hs hl hbl hp e35 wd n hbo (Lib.hid hsym) hw (Lib.hid hcn) (by omega) h40
          · exact rnext_bold B g s i rg bad h0 h2 out A c w H hi hs hl hbl hp e35 wd n hbo (Lib.hid hsym) hw (Lib.hid hcn) (by omega) h40
      | none =>
        rw [hbo] at hsym
        dsimp only at hsym
        cases hle : Sp.letter rg.toNat s[i] with
        | true =>
          have hnd : Sp.digit s[i] = false := by
            rw [Bool.eq_false_iff]
            intro h
            rw [Sp.digit_iff] at h
            rw [Sp.letter_iff rg h0, Sp.small_iff, Sp.capital_iff] at hle
            omega
          have h46 : s[i] ≠ 46 := by intro h; rw [h] at hle; simp [Sp.letter, Sp.small, Sp.capital] at hle
          rw [if_pos hle] at hsym
          exact rnext_tag B g s i rg bad h0 h2 out A c w H hi hs hl hbl hp e35 hbo hnd (.inl (byte_isnt _ 46 46 rfl h46)) hle (Lib.hid (by rw [hbat]; exact hle)) (Lib.hid hsym)
        | false =>
          rw [if_neg (by rw [hle]; decide)] at hsym
          cases hdi : Sp.digit s[i] with
          | true =>
            rw [if_pos (by rw [hdi]; rfl)] at hsym
            exact rnext_num B g s i rg bad h0 h2 out A c w H hi hs hl hbl hp e35 hbo hdi (Lib.hid hsym)
          | false =>
            by_cases hpt : s[i] = 46 ∧ Sp.digit (bat s (i + 1)) = true
            · rw [if_pos (by rw [hpt.1, hpt.2]; rfl)] at hsym
              exact rnext_point B g s i rg bad h0 h2 out A c w H hi hs hl hbl hp e35 hbo hdi (byte_is _ 46 46 rfl hpt.1) (Lib.hid (by rw [hbat]; exact hpt.1)) hpt.2 (Lib.hid hsym)
            · have hnp : (((s[i].toNat : Int) == 46) = false) ∨ ((((s[i].toNat : Int) == 46) = true) ∧ Sp.digit (bat s (i + 1)) = false) := by
                by_cases h : s[i] = 46
                · refine .inr ⟨byte_is _ 46 46 rfl h, ?_⟩
                  rw [Bool.eq_false_iff]
                  exact fun h2 => hpt ⟨h, h2⟩
                · exact .inl (byte_isnt _ 46 46 rfl h)
              rw [if_neg (by
                rw [hdi, Bool.false_or, Bool.and_eq_true, beq_iff_eq]
                exact hpt)] at hsym
              by_cases h34 : s[i] = 34
              · rw [if_pos (by rw [h34]; rfl)] at hsym
                exact rnext_text B g s i rg bad h0 h2 out A c w H hi hs hl hbl hp e35 hbo hdi hnp hle (byte_is _ 34 34 rfl h34) (Lib.hid hsym)
              · rw [if_neg (by rw [beq_iff_eq]; exact h34)] at hsym
                have e34 := byte_isnt _ 34 34 rfl h34
                by_cases h36 : s[i] = 36
                · rw [if_pos (by rw [h36]; rfl)] at hsym
                  exact rnext_format B g s i rg bad h0 h2 out A c w H hi hs hl hbl hp e35 hbo hdi hnp hle e34 (byte_is _ 36 36 rfl h36) (Lib.hid hsym)
                · rw [if_neg (by rw [beq_iff_eq]; exact h36), if_neg (by rw [beq_iff_eq]; exact h35)] at hsym
                  have e36 := byte_isnt _ 36 36 rfl h36
                  rcases hnp with e46 | ⟨e46, hd2⟩
                  · exact rnext_sign1 B g s i rg bad h0 h2 out A c w H hi hs hl hbl hp e35 hbo hdi e46 hle e34 e36 (Lib.hid hsym)
                  · exact rnext_sign2 B g s i rg bad h0 h2 out A c w H hi hs hl hbl hp e35 hbo hdi e46 hd2 hle e34 e36 (Lib.hid hsym)
end Go.Proofs.YtjghijeblddijaaGreatDoor
set_option linter.unusedVariables false
namespace Go.Proofs.YtjghijeblddijaaGreatDoor
open Go.RowKit
theorem rresult {tmps : Array Value} {W : World} (b1 : Nat) (v x y : Value) (fr1 : Nat × Nat) (h4 : tmps.getD 4 undef = v) (h5 : tmps.getD 5 undef = .pointer (some ⟨b1, 0, none⟩))
    (k1 : W.heap[b1]? = some (.cells #[x, y] 35 fr1)) : (results Tryz.f41 tmps).run Tryz.prog W = .ok (.tuple #[v, .agg #[x, y]]) W := by
  have h4' : tmps[4]?.getD undef = v := by simpa using h4
  have h5' : tmps[5]?.getD undef = .pointer (some ⟨b1, 0, none⟩) := by simpa using h5
  have c1 : W.cell? ⟨b1, 0, none⟩ = some x := (cell_of_blk k1 0).trans rfl
  have c2 : W.cell? ⟨b1, 1, none⟩ = some y := (cell_of_blk k1 1).trans rfl
  simp [results, h4', h5', asAddr, loadVar, Sem.run_bind, go_sem, c1, c2]
theorem set_two {W : World} {b : Nat} {x y : Value} (K : W.heap[b]? = some (.cells #[x, y] 35 (0, 0))) (x' y' : Value) :
    ((W.setCell ⟨b, 0, none⟩ x').setCell ⟨b, 1, none⟩ y').heap[b]? = some (.cells #[x', y'] 35 (0, 0)) := by
  rw [blk_setCell (blk_setCell K 0 x') 1 y']; rfl
set_option maxRecDepth 100000 in
set_option maxHeartbeats 4000000 in
theorem rsymbols_arg (s : ByteArray) (regime : Int) (h : regime < 0 ∨ 2 < regime) (w : World) :
    Calls Tryz.prog 41 #[.string s, .int .i64 regime] w (SymsPost w (.error (0, 1))) := by
  have K1 : (w.alloc (.cells #[.int .i64 0, .int .i64 1] 35)).heap[w.heap.size]? = some (.cells #[.int .i64 0, .int .i64 1] 35 (0, 0)) := heap_alloc_new w _
  have hB : Below w.heap.size w (w.alloc (.cells #[.int .i64 0, .int .i64 1] 35)) := below_alloc0 (Below.refl _ w) _
  rcases h with h | h
  · have e1 := decide_eq_true h
    clear h
    go_enter Tryz.func41, Tryz.ntmps41
    go_wp2
    all_goals exact ⟨rfl, _, rresult _ _ _ _ _ rfl rfl K1, none, 0, rfl, hB, World.ownsRow_nil _ _ _ _⟩
  · have e1 := decide_eq_true h
    have e0 : decide (regime < 0) = false := decide_eq_false (by omega)
    clear h
    go_enter Tryz.func41, Tryz.ntmps41
    go_wp2
    all_goals exact ⟨rfl, _, rresult _ _ _ _ _ rfl rfl K1, none, 0, rfl, hB, World.ownsRow_nil _ _ _ _⟩
set_option maxRecDepth 100000 in
set_option maxHeartbeats 4000000 in
theorem rsymbols_len (s : ByteArray) (regime : Int) (h0 : 0 ≤ regime) (h2 : regime ≤ 2) (hs : 65536 < s.size) (w : World) :
    Calls Tryz.prog 41 #[.string s, .int .i64 regime] w (SymsPost w (.error (0, 3))) := by
  have K1 : (w.alloc (.cells #[.int .i64 0, .int .i64 3] 35)).heap[w.heap.size]? = some (.cells #[.int .i64 0, .int .i64 3] 35 (0, 0)) := heap_alloc_new w _
  have hB : Below w.heap.size w (w.alloc (.cells #[.int .i64 0, .int .i64 3] 35)) := below_alloc0 (Below.refl _ w) _
  have e1 : decide (regime < 0) = false := decide_eq_false (by omega)
  have e2 : decide (2 < regime) = false := decide_eq_false (by omega)
  have e3 : decide (65536 < (s.size : Int)) = true := decide_eq_true (by omega)
  have e4 : decide (65536 < s.size) = true := decide_eq_true hs
  go_enter Tryz.func41, Tryz.ntmps41
  go_wp2
  all_goals exact ⟨rfl, _, rresult _ _ _ _ _ rfl rfl K1, none, 0, rfl, hB, World.ownsRow_nil _ _ _ _⟩
/-- The place and the state of the reference's scanner at block g: how much is left. -/
def rleft (n : Nat) (w : World) (g : Nat) : Nat :=
  match w.cell? ⟨g, 1, none⟩, w.cell? ⟨g, 4, none⟩ with
  | some (.int _ z), some (.int _ e) => if e = 0 then n + 1 - z.toNat else 0
  | _, _ => 0
theorem rleft_at {B : Nat} {w : World} {g : Nat} {s : ByteArray} {at_ rg : Int} {out : List Sp.Sym} {A : Option Addr} {c : Nat} {err bad : Int} (H : Ref B w g s at_ rg out A c err bad) (n : Nat) : rleft n w g = if err = 0 then n + 1 - at_.toNat else 0 := by
  unfold rleft
  rw [H.R.c1, H.R.c4]
/-- What holds between the reference's steps: so far no fault, or the first one. -/
def RSt (g : Nat) (w0 wr : World) (s : ByteArray) (X : Except (Int × Int) (List Sp.Sym)) : Prop :=
  (∃ (p : Nat) (r : Int) (out : List Sp.Sym) (fuel : Nat) (A : Option Addr) (c : Nat) (bad : Int), p ≤ s.size ∧ s.size - p < fuel ∧ out.length ≤ p ∧ 0 ≤ r ∧ r ≤ 2 ∧ Ref g wr g s (p : Int) r out A c 0 bad ∧ Below g w0 wr ∧ X = Sp.more out (Sp.scan fuel r.toNat ((bs s).drop p) p)) ∨
  (∃ (a r : Int) (out : List Sp.Sym) (A : Option Addr) (c : Nat) (cd bad : Int), cd ≠ 0 ∧ Ref g wr g s a r out A c cd bad ∧ Below g w0 wr ∧ X = .error (bad, cd))
set_option maxRecDepth 100000 in
set_option maxHeartbeats 8000000 in
theorem rsymbols_main (s : ByteArray) (regime : Int) (h0 : 0 ≤ regime) (h2 : regime ≤ 2) (hs : s.size ≤ 65536) (w : World) (X : Except (Int × Int) (List Sp.Sym)) (hX : Sp.scan (s.size + 1) regime.toNat (bs s) 0 = X) :
    Calls Tryz.prog 41 #[.string s, .int .i64 regime] w (SymsPost w (Sp.ended s.size X)) := by
  have e1 : decide (regime < 0) = false := decide_eq_false (by omega)
  have e2 : decide (2 < regime) = false := decide_eq_false (by omega)
  have e3 : decide (65536 < (s.size : Int)) = false := decide_eq_false (by omega)
  have e4 : decide (65536 < s.size) = false := decide_eq_false (by omega)
  have K1 : ((w.alloc (.cells #[.int .i64 0, .int .i64 0] 35)).alloc (.cells #[.string s, .int .i64 0, .int .i64 regime, .slice none 0 0, .int .i64 0, .int .i64 0] 120)).heap[w.heap.size]? = some (.cells #[.int .i64 0, .int .i64 0] 35 (0, 0)) :=
    (heap_alloc_old _ _ (by simp)).trans (heap_alloc_new w _)
  have K2 : ((w.alloc (.cells #[.int .i64 0, .int .i64 0] 35)).alloc (.cells #[.string s, .int .i64 0, .int .i64 regime, .slice none 0 0, .int .i64 0, .int .i64 0] 120)).heap[w.heap.size + 1]? = some (.cells #[.string s, .int .i64 0, .int .i64 regime, .slice none 0 0, .int .i64 0, .int .i64 0] 120 (0, 0)) := by
    have := heap_alloc_new (w.alloc (.cells #[.int .i64 0, .int .i64 0] 35)) (.cells #[.string s, .int .i64 0, .int .i64 regime, .slice none 0 0, .int .i64 0, .int .i64 0] 120)
    simpa using this
  have hB0 : Below w.heap.size w ((w.alloc (.cells #[.int .i64 0, .int .i64 0] 35)).alloc (.cells #[.string s, .int .i64 0, .int .i64 regime, .slice none 0 0, .int .i64 0, .int .i64 0] 120)) :=
    ((Below.refl _ w).alloc (Nat.le_refl _) _).alloc (by simp) _
  go_enter Tryz.func41, Tryz.ntmps41
  go_wp2
  generalize (w.alloc (.cells #[.int .i64 0, .int .i64 0] 35)).alloc (.cells #[.string s, .int .i64 0, .int .i64 regime, .slice none 0 0, .int .i64 0, .int .i64 0] 120) = W0 at *
  generalize hg : w.heap.size + 1 = g at *
  have hst : Hid (RSt g W0 W0 s X) := Lib.hid (.inl ⟨0, regime, [], s.size + 1, none, 0, 0, by omega, by omega, Nat.le_refl _, h0, h2, ⟨Nat.le_refl _, K2, World.ownsRow_nil _ _ _ _⟩, Below.refl _ _, by rw [Sp.more_nil, List.drop_zero, hX]⟩)
  have HK1 := Lib.hid K1
  have HB0 := Lib.hid hB0
  have Hg := Lib.hid hg
  have hgl := lt_of_blk K2
  clear K1 K2 hB0 hg hX
  go_loopw [] (fun wr => Hid (RSt g W0 wr s X)) (fun wr => rleft s.size wr g)
  case atStart => exact hst
  case round =>
    clear hst
    rcases hrel.out with ⟨p, r, out, fuel, A, c, bad, hp, hfuel, hout, hr0, hr2, H, hB, hh⟩ | ⟨a, r, out, A, c, cd, bad, hcd, H, hB, hh⟩
    · clear hrel
      obtain ⟨c0, c1, c2, c4, c5⟩ := H.R
      have hle := rleft_at H s.size
      rw [if_pos rfl, Int.toNat_natCast] at hle
      have Hle := Lib.hid hle
      have Hh := Lib.hid hh
      clear hle hh
      by_cases hlt : p < s.size
      · by_cases hb : Sp.blank s[p] = true
        · go_wp2_with (first | (go_at_call 82; refine (rnext_blank g g s p r bad hr0 hr2 out A c _ H hlt (by omega) (by omega) hb).mono ?_; rintro e w1 ⟨rfl, ⟨A1, k1, H1⟩, hb1⟩))
          go_roundw
          case rel =>
            refine Lib.hid (.inl ⟨p + 1, r, out, fuel, A1, k1, bad, by omega, by omega, by omega, hr0, hr2, by rw [Int.toNat_of_nonneg hr0] at H1; exact H1, hB.trans hb1, ?_⟩)
            have e := bl_drop s p hlt
            rw [if_pos hb] at e
            rw [Hh.out, Sp.scan_skip fuel r.toNat ((bs s).drop p) p, Sp.scan_skip fuel r.toNat ((bs s).drop (p + 1)) (p + 1), e, List.drop_drop, List.drop_drop, show p + 1 + Sp.bl ((bs s).drop (p + 1)) = p + (Sp.bl ((bs s).drop (p + 1)) + 1) from by omega]
          case measure =>
            have h1 := rleft_at H1 s.size
            rw [if_pos rfl] at h1
            rw [h1, Hle.out]
            omega
        · obtain ⟨fuel, rfl⟩ : ∃ f, fuel = f + 1 := ⟨fuel - 1, by omega⟩
          have hbf : Sp.blank s[p] = false := by rw [Bool.eq_false_iff]; exact hb
          have hbl : Sp.bl ((bs s).drop p) = 0 := by rw [bl_drop s p hlt, if_neg hb]
          have hne : (bs s).drop p ≠ [] := by
            intro h
            have := congrArg List.length h
            rw [List.length_drop, bs_length] at this
            simp at this; omega
          have hsnd := Sp.symbol_sound r.toNat ((bs s).drop p) hne
          have hadv := Sp.symbol_adv r.toNat ((bs s).drop p) (by omega) hne
          have hstep := Sp.scan_step fuel r.toNat ((bs s).drop p) p hbl hne
          rw [List.length_drop, bs_length] at hadv
          clear hne hbl hb
          cases hst : Sp.symbol r.toNat ((bs s).drop p) with
          | sym k t n =>
            rw [hst] at hadv hstep
            obtain ⟨ha1, ha2⟩ := hadv
            have Hst := Lib.hid hst
            have Hstep := Lib.hid hstep
            clear hst hstep
            go_wp2_with (first | (go_at_call 82; refine (rnext_c g g s p r bad hr0 hr2 out A c _ H hlt (by omega) (by omega) hbf).mono ?_; rw [Hst.out]; rintro e w1 ⟨rfl, ⟨A1, k1, H1⟩, hb1⟩))
            go_roundw
            case rel =>
              refine Lib.hid (.inl ⟨p + n, r, out ++ [⟨k, t, (p : Int)⟩], fuel, A1, k1, bad, by omega, by omega, ?_, hr0, hr2, H1, hB.trans hb1, ?_⟩)
              · rw [List.length_append]; simp; omega
              · rw [Hh.out, Hstep.out, Sp.more_more, List.drop_drop]
            case measure =>
              have h1 := rleft_at H1 s.size
              rw [if_pos rfl] at h1
              rw [h1, Hle.out]
              omega
          | skip n r' =>
            rw [hst] at hadv hstep
            obtain ⟨ha1, ha2, hr'⟩ := hadv
            have Hst := Lib.hid hst
            have Hstep := Lib.hid hstep
            clear hst hstep
            go_wp2_with (first | (go_at_call 82; refine (rnext_c g g s p r bad hr0 hr2 out A c _ H hlt (by omega) (by omega) hbf).mono ?_; rw [Hst.out]; rintro e w1 ⟨rfl, ⟨A1, k1, H1⟩, hb1⟩))
            go_roundw
            case rel =>
              refine Lib.hid (.inl ⟨p + n, (r' : Int), out, fuel, A1, k1, bad, by omega, by omega, by omega, by omega, by omega, H1, hB.trans hb1, ?_⟩)
              rw [Hh.out, Hstep.out, List.drop_drop, Int.toNat_natCast]
            case measure =>
              have h1 := rleft_at H1 s.size
              rw [if_pos rfl] at h1
              rw [h1, Hle.out]
              omega
          | fault o cd =>
            rw [hst] at hstep
            have hX1 : X = .error (((p + o : Nat) : Int), cd) := by rw [Hh.out, hstep]; rfl
            have hcd : cd ≠ 0 := by rw [hst] at hsnd; exact hsnd.2
            have Hst := Lib.hid hst
            have HX1 := Lib.hid hX1
            have Hcd : Hid (cd ≠ 0) := Lib.hid hcd
            clear hst hstep hX1 hcd
            go_wp2_with (first | (go_at_call 82; refine (rnext_c g g s p r bad hr0 hr2 out A c _ H hlt (by omega) (by omega) hbf).mono ?_; rw [Hst.out]; rintro e w1 ⟨rfl, ⟨a1, r1, out1, A1, k1, H1⟩, hb1⟩))
            go_roundw
            case rel => exact Lib.hid (.inr ⟨a1, r1, out1, A1, k1, cd, _, Hcd.out, H1, hB.trans hb1, HX1.out⟩)
            case measure =>
              have h1 := rleft_at H1 s.size
              rw [if_neg Hcd.out] at h1
              rw [h1, Hle.out]
              omega
      · have hps : p = s.size := by omega
        subst hps
        have hfin : X = .ok out := by
          obtain ⟨fuel, rfl⟩ : ∃ f, fuel = f + 1 := ⟨fuel - 1, by omega⟩
          rw [Hh.out, List.drop_of_length_le (by rw [bs_length]; omega), Sp.scan_end]
          simp [Sp.more]
        have Hfin := Lib.hid hfin
        have h3 := H.c3
        have hlt1 := H.lt
        have K1' := (hB.block w.heap.size (by have := Hg.out; omega)).trans HK1.out
        have HK1' := Lib.hid K1'
        clear hfin K1'
        go_wp2_with (at_builtin; refine append_lit g rfl _ _ 22 28 _ 3 32 rfl Tryz.underlying22 info_sym rfl (by decide) (by decide) A out.length c (out.flatMap Sp.cells) [.int .i64 0, .string ⟨#[]⟩, .int .i64 (s.size : Int)] rfl rfl rfl (by simp [Value.oneCell']) H.own (Nat.le_of_lt hlt1) (by omega) ?_; intro A' c' w1 hown hgr hbel hat; have L1 := (hbel.block w.heap.size (by have := Hg.out; omega)).trans HK1'.out; have d1 := cell_of_blk L1 0; have d2 := cell_of_blk L1 1; have g1 := free_of_blk L1 0; have g2 := free_of_blk L1 1)
        have hown2 : ((w1.setCell ⟨w.heap.size, 0, none⟩ (.int .i64 0)).setCell ⟨w.heap.size, 1, none⟩ (.int .i64 0)).ownsRow w.heap.size 28 3 (.slice A' (out.length + 1) c') (out.length + 1) (out.flatMap Sp.cells ++ [.int .i64 0, .string ⟨#[]⟩, .int .i64 (s.size : Int)]) := by
          have hlo : ∀ k, (Value.slice A' (out.length + 1) c').ownBlock = some k → g ≤ k := fun k hk => (hown.lt k hk).1
          have hgg := Hg.out
          refine World.ownsRow.mono (base := g) ?_ (by omega)
          exact own_setCell (own_setCell hown _ (fun h => by have := hlo _ h; simp only at this; omega) _) _ (fun h => by have := hlo _ h; simp only at this; omega) _
        have hBf : Below w.heap.size w w1 := (HB0.out.trans (hB.mono (by have := Hg.out; omega))).trans (hbel.mono (by have := Hg.out; omega))
        refine ⟨rfl, _, rresult _ _ _ _ _ rfl rfl (set_two L1 _ _), A', c', ?_, (hBf.setCell (Nat.le_refl _) _).setCell (Nat.le_refl _) _, ?_⟩
        · rw [Hfin.out]; simp [symsE, Sp.ended]
        · rw [Hfin.out]; simpa [symsL, Sp.ended, Sp.cells] using hown2
    · clear hrel
      obtain ⟨c0, c1, c2, c4, c5⟩ := H.R
      have hle := rleft_at H s.size
      have Hh := Lib.hid hh
      have d1 : (cd == 0) = false := beq_eq_false_iff_ne.2 hcd
      have d2 : (cd != 0) = true := bne_iff_ne.2 hcd
      have K1' := (hB.block w.heap.size (by have := Hg.out; omega)).trans HK1.out
      have q1 := cell_of_blk K1' 0
      have q2 := cell_of_blk K1' 1
      have g1 := free_of_blk K1' 0
      have g2 := free_of_blk K1' 1
      clear hh hcd
      have hBf : Below w.heap.size w wr := HB0.out.trans (hB.mono (by have := Hg.out; omega))
      have HK := Lib.hid K1'
      have HBf := Lib.hid hBf
      clear K1' hBf
      go_wp2
      all_goals go_region
      all_goals go_wp2
      all_goals exact ⟨rfl, _, rresult _ _ _ _ _ rfl rfl (set_two HK.out _ _), none, 0, by rw [Hh.out]; rfl, ((HBf.out.setCell (Nat.le_refl _) _).setCell (Nat.le_refl _) _).drew, by rw [Hh.out]; exact World.ownsRow_nil _ _ _ _⟩
/-- The reference's Symbols, whole. -/
theorem rsymbols_c (s : ByteArray) (regime : Int) (w : World) :
    Calls Tryz.prog 41 #[.string s, .int .i64 regime] w (SymsPost w (Sp.symbols (bs s) regime)) := by
  by_cases hr : regime < 0 ∨ 2 < regime
  · have e : Sp.symbols (bs s) regime = .error (0, 1) := by unfold Sp.symbols; rw [if_pos hr]
    rw [e]
    exact rsymbols_arg s regime hr w
  · by_cases hs : 65536 < s.size
    · have e : Sp.symbols (bs s) regime = .error (0, 3) := by unfold Sp.symbols; rw [if_neg hr, if_pos (by rw [bs_length]; exact hs)]
      rw [e]
      exact rsymbols_len s regime (by omega) (by omega) hs w
    · rw [Sp.symbols_eq _ _ hr (by rw [bs_length]; omega), bs_length]
      exact rsymbols_main s regime (by omega) (by omega) (by omega) w _ rfl
theorem rsymbols_ok (T : List UInt8) (text : ByteArray) (ht : text = ⟨T.toArray⟩) (r : Int) (l : List Sp.Sym) (n : Nat) (hn : l.length = n) (h : Sp.symbols T r = .ok l) (w : World) :
    Calls Tryz.prog 41 #[.string text, .int .i64 r] w fun e w' => ∃ A c, e = .returned (.tuple #[.slice A n c, .agg #[.int .i64 0, .int .i64 0]]) ∧ Below w.heap.size w w' ∧ w'.ownsRow w.heap.size 28 3 (.slice A l.length c) l.length (l.flatMap Sp.cells) := by
  subst ht; subst hn
  refine (rsymbols_c ⟨T.toArray⟩ r w).mono ?_
  rw [bs_of, h]
  rintro e w' ⟨A, c, rfl, h1, h2⟩
  exact ⟨A, c, rfl, h1, h2⟩
theorem rsymbols_bad (T : List UInt8) (text : ByteArray) (ht : text = ⟨T.toArray⟩) (r : Int) (f : Int × Int) (h : Sp.symbols T r = .error f) (w : World) :
    Calls Tryz.prog 41 #[.string text, .int .i64 r] w fun e w' => e = .returned (.tuple #[.slice none 0 0, .agg #[.int .i64 f.1, .int .i64 f.2]]) ∧ Below w.heap.size w w' := by
  subst ht
  refine (rsymbols_c ⟨T.toArray⟩ r w).mono ?_
  rw [bs_of, h]
  rintro e w' ⟨A, c, rfl, h1, h2⟩
  exact ⟨rfl, h1⟩
end Go.Proofs.YtjghijeblddijaaGreatDoor
