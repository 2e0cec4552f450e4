/- Walks: until. -/
import Derived.Test.YtjghijeblddijaaGreatDoorStropWalkH
import Derived.Test.YtjghijeblddijaaGreatDoorStropWalkE
namespace Go.Proofs.YtjghijeblddijaaGreatDoor
open Go.RowKit

namespace Sp
theorem run_pos (p : UInt8 → Bool) (c : UInt8) (t : List UInt8) (h : p c = true) : 0 < run p (c :: t) := by simp [run, h]
theorem bold_bound (r : Nat) (l : List UInt8) (w : List UInt8) (n : Nat) (h : bold r l = some (w, n)) : 1 ≤ n ∧ n ≤ l.length := by
  cases l with
  | nil => simp [bold] at h
  | cons c t =>
    simp only [bold] at h
    by_cases hr : (r == 0) = true
    · rw [if_pos hr] at h
      by_cases hc : capital c = true
      · rw [if_pos hc] at h
        simp only [Option.some.injEq, Prod.mk.injEq] at h
        obtain ⟨_, rfl⟩ := h
        exact ⟨run_pos _ _ _ (by simp [hc]), run_le _ _⟩
      · rw [if_neg hc] at h; cases h
    · rw [if_neg hr] at h
      have hle := run_le alnum t
      by_cases hc : (c == mark r && small (low (t.getD 0 0))) = true
      · rw [if_pos hc] at h
        by_cases h2 : (r == 2) = true
        · rw [if_pos h2] at h
          by_cases h3 : (t.getD (run alnum t) 0 == mark r) = true
          · rw [if_pos h3] at h
            simp only [Option.some.injEq, Prod.mk.injEq] at h
            obtain ⟨_, rfl⟩ := h
            refine ⟨by omega, ?_⟩
            rcases Nat.lt_or_ge (run alnum t) t.length with h4 | h4
            · simp; omega
            · rw [List.getD_eq_getElem?_getD, List.getElem?_eq_none h4] at h3
              have : (0 : UInt8) = mark r := by simpa using h3
              unfold mark at this
              split at this <;> exact absurd this (by decide)
          · rw [if_neg h3] at h; cases h
        · rw [if_neg h2] at h
          simp only [Option.some.injEq, Prod.mk.injEq] at h
          obtain ⟨_, rfl⟩ := h
          exact ⟨by omega, by simp; omega⟩
      · rw [if_neg hc] at h; cases h

def gl (c : UInt8) : Bool := small c || digit c
theorem match_pre (c : UInt8) (x : Except (Nat × Int) (List UInt8 × Nat)) : (match x with | .ok (b, n) => .ok (c :: b, n) | .error f => .error f) = pre [c] x := by
  rcases x with f | ⟨x, n⟩ <;> rfl
theorem until_one (r : Nat) (w : List UInt8) (c : UInt8) (t : List UInt8) (i s : Nat) (g : Bool) : untilGo r w (c :: t) i (s + 1) g = pre [c] (untilGo r w t (i + 1) s (gl c)) := by
  rw [untilGo]; exact match_pre c _
theorem until_skip (r : Nat) (w : List UInt8) : ∀ (s : Nat) (l : List UInt8) (i : Nat) (g : Bool), s + 1 ≤ l.length →
    untilGo r w l i (s + 1) g = pre (l.take (s + 1)) (untilGo r w (l.drop (s + 1)) (i + s + 1) 0 (gl (l.getD s 0)))
  | 0, [], _, _, h => by simp at h
  | 0, c :: t, i, g, _ => by rw [until_one]; simp
  | s + 1, [], _, _, h => by simp at h
  | s + 1, c :: t, i, g, h => by
    rw [until_one, until_skip r w s t (i + 1) _ (by simpa using h), pre_pre]
    simp only [List.take_succ_cons, List.drop_succ_cons, List.getD_cons_succ, List.singleton_append]
    congr 2
    omega
theorem until_bad (r : Nat) (w : List UInt8) (c : UInt8) (t : List UInt8) (i : Nat) (g : Bool) (h : permitted c = false) : untilGo r w (c :: t) i 0 g = .error (i, 2) := by
  rw [untilGo]; simp [h]
theorem until_hit (r : Nat) (w : List UInt8) (c : UInt8) (t : List UInt8) (i n : Nat) (g : Bool) (h : permitted c = true) (hb : bold r (c :: t) = some (w, n)) (hg : (r == 0 && g) = false) : untilGo r w (c :: t) i 0 g = .ok ([], i + n) := by
  rw [untilGo]; simp only [h, hb, hg]; simp
theorem until_some (r : Nat) (w : List UInt8) (c : UInt8) (t : List UInt8) (i n : Nat) (g : Bool) (wd : List UInt8) (h : permitted c = true) (hb : bold r (c :: t) = some (wd, n)) (hg : (r == 0 && g) = true ∨ wd ≠ w) :
    untilGo r w (c :: t) i 0 g = pre ((c :: t).take n) (untilGo r w ((c :: t).drop n) (i + n) 0 (gl ((c :: t).getD (n - 1) 0))) := by
  obtain ⟨h1, h2⟩ := bold_bound r _ _ _ hb
  have e : untilGo r w (c :: t) i 0 g = pre [c] (untilGo r w t (i + 1) (n - 1) (gl c)) := by
    rw [untilGo]; simp only [h, hb]
    rw [if_neg (by simp), if_neg (by rcases hg with hg | hg <;> simp [hg])]
    exact match_pre c _
  rw [e]
  obtain ⟨m, rfl⟩ : ∃ m, n = m + 1 := ⟨n - 1, by omega⟩
  rcases m with _ | m
  · simp
  · rw [show m + 1 + 1 - 1 = m + 1 by omega, until_skip r w m t (i + 1) _ (by simp at h2; omega), pre_pre]
    simp only [List.take_succ_cons, List.drop_succ_cons, List.getD_cons_succ, List.singleton_append]
    congr 2
    omega
theorem until_none (r : Nat) (w : List UInt8) (c : UInt8) (t : List UInt8) (i : Nat) (g : Bool) (h : permitted c = true) (hb : bold r (c :: t) = none) :
    untilGo r w (c :: t) i 0 g = pre [c] (untilGo r w t (i + 1) 0 (gl c)) := by
  rw [untilGo]; simp only [h, hb]; exact match_pre c _
end Sp
/-- Whether a bold word at k is glued to what stands before. -/
def glAt (s : ByteArray) (from_ k : Nat) : Bool := decide (from_ < k) && Sp.gl ((bs s).getD (k - 1) 0)
theorem until_next (s : ByteArray) (r : Nat) (w : List UInt8) (i from_ k n : Nat) (hfk : from_ ≤ k) (hn : 1 ≤ n) (hik : i ≤ k)
    (hh : Sp.untilGo r w ((bs s).drop from_) (from_ - i) 0 false = Sp.pre (((bs s).drop from_).take (k - from_)) (Sp.untilGo r w ((bs s).drop k) (k - i) 0 (glAt s from_ k)))
    (hs : Sp.untilGo r w ((bs s).drop k) (k - i) 0 (glAt s from_ k) = Sp.pre (((bs s).drop k).take n) (Sp.untilGo r w (((bs s).drop k).drop n) (k - i + n) 0 (Sp.gl (((bs s).drop k).getD (n - 1) 0)))) :
    Sp.untilGo r w ((bs s).drop from_) (from_ - i) 0 false = Sp.pre (((bs s).drop from_).take (k + n - from_)) (Sp.untilGo r w ((bs s).drop (k + n)) (k + n - i) 0 (glAt s from_ (k + n))) := by
  rw [hh, hs, Sp.pre_pre, List.drop_drop, getD_drop]
  have e1 : glAt s from_ (k + n) = Sp.gl ((bs s).getD (k + (n - 1)) 0) := by
    unfold glAt
    rw [decide_eq_true (by omega), show k + n - 1 = k + (n - 1) by omega]; rfl
  have e2 : ((bs s).drop from_).take (k - from_) ++ ((bs s).drop k).take n = ((bs s).drop from_).take (k + n - from_) := by
    rw [show k + n - from_ = (k - from_) + n by omega, List.take_add, List.drop_drop, show from_ + (k - from_) = k by omega]
  rw [e1, e2, show k - i + n = k + n - i by omega]

theorem toList_bs (s : ByteArray) : s.toList = bs s := ByteArray.toList_eq s
/-- What until leaves. -/
def UntilPost (B : Nat) (w : World) (g : Nat) (s : ByteArray) (i : Nat) (rg : Int) (out : List Sp.Sym) (A : Option Addr) (c : Nat) : Except (Nat × Int) (List UInt8 × Nat) → Ending → World → Prop
  | .ok (b, m), e, w' => e = .returned (.string ⟨b.toArray⟩) ∧ Scn B w' g s ((i + m : Nat) : Int) rg out A c ∧ Below B w w'
  | .error (o, cd), e, w' => e = .panicked (flt ((i + o : Nat) : Int) cd) ∧ Below B w w'

set_option maxRecDepth 100000 in
set_option maxHeartbeats 4000000 in
theorem until_c (B g : Nat) (s : ByteArray) (i : Nat) (rg : Int) (h0 : 0 ≤ rg) (h2 : rg ≤ 2) (out : List Sp.Sym) (A : Option Addr) (c : Nat) (word : ByteArray) (from_ : Nat) (w : World) (H : Scn B w g s i rg out A c) (hi : i ≤ from_) (hf : from_ ≤ s.size) (hs : s.size ≤ 140737488355328) :
    Calls Tryz.prog 205 #[.pointer (some ⟨g, 0, none⟩), .string word, .int .i64 (from_ : Int)] w (UntilPost B w g s i rg out A c (Sp.untilGo rg.toNat (bs word) ((bs s).drop from_) (from_ - i) 0 false)) := by
  have hg := H.lt
  have hBw : B ≤ w.heap.size := Nat.le_trans H.base (Nat.le_of_lt hg)
  obtain ⟨c0, c1, c2⟩ := H.R
  generalize hX : Sp.untilGo rg.toNat (bs word) ((bs s).drop from_) (from_ - i) 0 false = X
  have HX := Lib.hid hX
  clear hX
  go_enter Tryz.func205, Tryz.ntmps205
  go_wp2
  go_loopw [7] (fun t wr => ∃ (k : Nat), k ≤ s.size ∧ from_ ≤ k ∧ t = .int .i64 k ∧ Below w.heap.size w wr ∧
      Hid (X = Sp.pre (((bs s).drop from_).take (k - from_)) (Sp.untilGo rg.toNat (bs word) ((bs s).drop k) (k - i) 0 (glAt s from_ k)))) (fun t _ => s.size - (intOf t).toNat)
  case atStart => exact ⟨from_, hf, Nat.le_refl _, rfl, Below.refl _ _, Lib.hid (by rw [← HX.out, Nat.sub_self, List.take_zero, Sp.pre_nil]; simp [glAt])⟩
  case round =>
    obtain ⟨k, hk, hfk, rfl, hB, hh⟩ := hrel
    have H1 := H.later hB
    have R1 := H1.R
    obtain ⟨d0, d1, d2⟩ := H1.R
    clear c0 c1 c2
    by_cases hlt : k < s.size
    · have hd := Lib.hid (bs_drop s k hlt)
      by_cases hp : Sp.permitted s[k] = true
      · cases hbd : Sp.bold rg.toNat ((bs s).drop k) with
        | none =>
          have Hbd := Lib.hid hbd
          clear hbd
          go_wp2_with (first | (go_at_call 132; refine (byte_ok g s i rg k hlt hp _ R1).mono ?_; rintro e w' ⟨rfl, rfl⟩) | (go_at_call 133; refine (bold_no g s i rg h0 h2 k hs _ R1 Hbd.out).mono ?_; rintro e w' ⟨rfl, hb1⟩; have k0 := cell_later hb1 d0; have k2 := cell_later hb1 d2))
          go_roundw
          case rel =>
            refine ⟨k + 1, by omega, by omega, by go_num, bjoin hB hB.size hb1, Lib.hid ?_⟩
            rw [← HX.out]
            refine until_next s _ _ i from_ k 1 hfk (by omega) (by omega) (by rw [HX.out]; exact hh.out) ?_
            rw [hd.out, Sp.until_none _ _ _ _ _ _ hp (by rw [← hd.out]; exact Hbd.out)]; rfl
          case measure => simp [intOf]; omega
        | some p =>
          obtain ⟨wd, n⟩ := p
          have hbb := Sp.bold_bound _ _ _ _ hbd
          rw [List.length_drop, bs_length] at hbb
          have Hbd := Lib.hid hbd
          clear hbd
          have hglu : from_ < k → glAt s from_ k = Sp.gl s[k - 1] := fun h => by
            unfold glAt; rw [decide_eq_true h, bs_get s (k - 1) (by omega)]; rfl
          have Hglu := Lib.hid hglu
          clear hglu
          by_cases hr : rg = 0
          · subst hr
            by_cases hfl : from_ < k
            · have x1 : (1 : Int) ≤ (k : Int) := by omega
              have x2 : (k : Int) - 1 < (s.size : Int) := by omega
              have x3 : (from_ : Int) < (k : Int) := by omega
              by_cases hsm : Sp.small s[k - 1] = true
              · go_wp2_with (first | (go_at_call 132; refine (byte_ok g s i _ k hlt hp _ R1).mono ?_; rintro e w' ⟨rfl, rfl⟩) | (go_at_call 133; refine (bold_yes g s i _ h0 h2 k hs _ R1 wd n Hbd.out).mono ?_; rintro e w' ⟨rfl, hb1⟩; have H2 := H1.later hb1; have k0 := H2.R.c0; have k1 := H2.R.c1; have k2 := H2.R.c2; have f1 := free_of_blk H2.blk 1) | (go_at_call 199; refine (small_c _ _).mono ?_; rintro e w' ⟨rfl, rfl⟩) | (go_at_call 137; refine (digit_c _ _).mono ?_; rintro e w' ⟨rfl, rfl⟩))
                go_roundw
                case rel =>
                  refine ⟨k + n, by omega, by omega, by go_num, bjoin hB hB.size hb1, Lib.hid ?_⟩
                  rw [← HX.out]
                  refine until_next s _ _ i from_ k n hfk (by omega) (by omega) (by rw [HX.out]; exact hh.out) ?_
                  rw [hd.out]
                  exact Sp.until_some _ _ _ _ _ _ _ wd hp (by rw [← hd.out]; exact Hbd.out) (.inl (by rw [Hglu.out hfl]; simp [Sp.gl, hsm]))
                case measure => simp [intOf]; omega
              · by_cases hdg : Sp.digit s[k - 1] = true
                · go_wp2_with (first | (go_at_call 132; refine (byte_ok g s i _ k hlt hp _ R1).mono ?_; rintro e w' ⟨rfl, rfl⟩) | (go_at_call 133; refine (bold_yes g s i _ h0 h2 k hs _ R1 wd n Hbd.out).mono ?_; rintro e w' ⟨rfl, hb1⟩; have H2 := H1.later hb1; have k0 := H2.R.c0; have k1 := H2.R.c1; have k2 := H2.R.c2; have f1 := free_of_blk H2.blk 1) | (go_at_call 199; refine (small_c _ _).mono ?_; rintro e w' ⟨rfl, rfl⟩) | (go_at_call 137; refine (digit_c _ _).mono ?_; rintro e w' ⟨rfl, rfl⟩))
                  go_roundw
                  case rel =>
                    refine ⟨k + n, by omega, by omega, by go_num, bjoin hB hB.size hb1, Lib.hid ?_⟩
                    rw [← HX.out]
                    refine until_next s _ _ i from_ k n hfk (by omega) (by omega) (by rw [HX.out]; exact hh.out) ?_
                    rw [hd.out]
                    exact Sp.until_some _ _ _ _ _ _ _ wd hp (by rw [← hd.out]; exact Hbd.out) (.inl (by rw [Hglu.out hfl]; simp [Sp.gl, hdg]))
                  case measure => simp [intOf]; omega
                · have hdg' : Sp.digit s[k - 1] = false := by simpa using hdg
                  cases hw : (wd == word.toList) with
                  | true =>
                    have Hw := Lib.hid hw
                    go_wp2_with (first | (go_at_call 132; refine (byte_ok g s i _ k hlt hp _ R1).mono ?_; rintro e w' ⟨rfl, rfl⟩) | (go_at_call 133; refine (bold_yes g s i _ h0 h2 k hs _ R1 wd n Hbd.out).mono ?_; rintro e w' ⟨rfl, hb1⟩; have H2 := H1.later hb1; have k0 := H2.R.c0; have k1 := H2.R.c1; have k2 := H2.R.c2; have f1 := free_of_blk H2.blk 1) | (go_at_call 199; refine (small_c _ _).mono ?_; rintro e w' ⟨rfl, rfl⟩) | (go_at_call 137; refine (digit_c _ _).mono ?_; rintro e w' ⟨rfl, rfl⟩))
                    go_ret
                    have hwq : wd = bs word := by rw [← toList_bs]; exact beq_iff_eq.1 Hw.out
                    have hxx : X = .ok (((bs s).drop from_).take (k - from_), k - i + n) := by
                      rw [hh.out, hd.out, Sp.until_hit _ _ _ _ _ n _ hp (by rw [← hd.out, Hbd.out, hwq]) (by rw [Hglu.out hfl]; simp [Sp.gl, hsm, hdg])]; simp [Sp.pre]
                    rw [hxx]
                    refine ⟨?_, ?_, ?_⟩
                    · rw [extract_eq]; rfl
                    · rw [show ((i + (k - i + n) : Nat) : Int) = (k : Int) + n by omega]
                      exact H2.setAt _
                    · exact ((bjoin hB hB.size hb1).mono hBw).setCell H.base _
                  | false =>
                    have Hw := Lib.hid hw
                    go_wp2_with (first | (go_at_call 132; refine (byte_ok g s i _ k hlt hp _ R1).mono ?_; rintro e w' ⟨rfl, rfl⟩) | (go_at_call 133; refine (bold_yes g s i _ h0 h2 k hs _ R1 wd n Hbd.out).mono ?_; rintro e w' ⟨rfl, hb1⟩; have H2 := H1.later hb1; have k0 := H2.R.c0; have k1 := H2.R.c1; have k2 := H2.R.c2; have f1 := free_of_blk H2.blk 1) | (go_at_call 199; refine (small_c _ _).mono ?_; rintro e w' ⟨rfl, rfl⟩) | (go_at_call 137; refine (digit_c _ _).mono ?_; rintro e w' ⟨rfl, rfl⟩))
                    go_roundw
                    case rel =>
                      refine ⟨k + n, by omega, by omega, by go_num, bjoin hB hB.size hb1, Lib.hid ?_⟩
                      rw [← HX.out]
                      refine until_next s _ _ i from_ k n hfk (by omega) (by omega) (by rw [HX.out]; exact hh.out) ?_
                      rw [hd.out]
                      exact Sp.until_some _ _ _ _ _ _ _ wd hp (by rw [← hd.out]; exact Hbd.out) (.inr (by rw [Ne, ← toList_bs]; exact beq_eq_false_iff_ne.1 Hw.out))
                    case measure => simp [intOf]; omega
            · have hg0 := Lib.hid (show glAt s from_ k = false by unfold glAt; rw [decide_eq_false hfl]; rfl)
              cases hw : (wd == word.toList) with
              | true =>
                have Hw := Lib.hid hw
                go_wp2_with (first | (go_at_call 132; refine (byte_ok g s i _ k hlt hp _ R1).mono ?_; rintro e w' ⟨rfl, rfl⟩) | (go_at_call 133; refine (bold_yes g s i _ h0 h2 k hs _ R1 wd n Hbd.out).mono ?_; rintro e w' ⟨rfl, hb1⟩; have H2 := H1.later hb1; have k0 := H2.R.c0; have k1 := H2.R.c1; have k2 := H2.R.c2; have f1 := free_of_blk H2.blk 1) | (go_at_call 199; refine (small_c _ _).mono ?_; rintro e w' ⟨rfl, rfl⟩) | (go_at_call 137; refine (digit_c _ _).mono ?_; rintro e w' ⟨rfl, rfl⟩))
                go_ret
                have hwq : wd = bs word := by rw [← toList_bs]; exact beq_iff_eq.1 Hw.out
                have hxx : X = .ok (((bs s).drop from_).take (k - from_), k - i + n) := by
                  rw [hh.out, hd.out, Sp.until_hit _ _ _ _ _ n _ hp (by rw [← hd.out, Hbd.out, hwq]) (by rw [hg0.out]; rfl)]; simp [Sp.pre]
                rw [hxx]
                refine ⟨?_, ?_, ?_⟩
                · rw [extract_eq]; rfl
                · rw [show ((i + (k - i + n) : Nat) : Int) = (k : Int) + n by omega]
                  exact H2.setAt _
                · exact ((bjoin hB hB.size hb1).mono hBw).setCell H.base _
              | false =>
                have Hw := Lib.hid hw
                go_wp2_with (first | (go_at_call 132; refine (byte_ok g s i _ k hlt hp _ R1).mono ?_; rintro e w' ⟨rfl, rfl⟩) | (go_at_call 133; refine (bold_yes g s i _ h0 h2 k hs _ R1 wd n Hbd.out).mono ?_; rintro e w' ⟨rfl, hb1⟩; have H2 := H1.later hb1; have k0 := H2.R.c0; have k1 := H2.R.c1; have k2 := H2.R.c2; have f1 := free_of_blk H2.blk 1) | (go_at_call 199; refine (small_c _ _).mono ?_; rintro e w' ⟨rfl, rfl⟩) | (go_at_call 137; refine (digit_c _ _).mono ?_; rintro e w' ⟨rfl, rfl⟩))
                go_roundw
                case rel =>
                  refine ⟨k + n, by omega, by omega, by go_num, bjoin hB hB.size hb1, Lib.hid ?_⟩
                  rw [← HX.out]
                  refine until_next s _ _ i from_ k n hfk (by omega) (by omega) (by rw [HX.out]; exact hh.out) ?_
                  rw [hd.out]
                  exact Sp.until_some _ _ _ _ _ _ _ wd hp (by rw [← hd.out]; exact Hbd.out) (.inr (by rw [Ne, ← toList_bs]; exact beq_eq_false_iff_ne.1 Hw.out))
                case measure => simp [intOf]; omega
          · have hr0 : (rg == 0) = false := by simpa using hr
            have hrn := Lib.hid (show (rg.toNat == 0) = false by rw [beq_eq_false_iff_ne]; omega)
            cases hw : (wd == word.toList) with
            | true =>
              have Hw := Lib.hid hw
              go_wp2_with (first | (go_at_call 132; refine (byte_ok g s i _ k hlt hp _ R1).mono ?_; rintro e w' ⟨rfl, rfl⟩) | (go_at_call 133; refine (bold_yes g s i _ h0 h2 k hs _ R1 wd n Hbd.out).mono ?_; rintro e w' ⟨rfl, hb1⟩; have H2 := H1.later hb1; have k0 := H2.R.c0; have k1 := H2.R.c1; have k2 := H2.R.c2; have f1 := free_of_blk H2.blk 1) | (go_at_call 199; refine (small_c _ _).mono ?_; rintro e w' ⟨rfl, rfl⟩) | (go_at_call 137; refine (digit_c _ _).mono ?_; rintro e w' ⟨rfl, rfl⟩))
              go_ret
              have hwq : wd = bs word := by rw [← toList_bs]; exact beq_iff_eq.1 Hw.out
              have hxx : X = .ok (((bs s).drop from_).take (k - from_), k - i + n) := by
                rw [hh.out, hd.out, Sp.until_hit _ _ _ _ _ n _ hp (by rw [← hd.out, Hbd.out, hwq]) (by rw [hrn.out]; rfl)]; simp [Sp.pre]
              rw [hxx]
              refine ⟨?_, ?_, ?_⟩
              · rw [extract_eq]; rfl
              · rw [show ((i + (k - i + n) : Nat) : Int) = (k : Int) + n by omega]
                exact H2.setAt _
              · exact ((bjoin hB hB.size hb1).mono hBw).setCell H.base _
            | false =>
              have Hw := Lib.hid hw
              go_wp2_with (first | (go_at_call 132; refine (byte_ok g s i _ k hlt hp _ R1).mono ?_; rintro e w' ⟨rfl, rfl⟩) | (go_at_call 133; refine (bold_yes g s i _ h0 h2 k hs _ R1 wd n Hbd.out).mono ?_; rintro e w' ⟨rfl, hb1⟩; have H2 := H1.later hb1; have k0 := H2.R.c0; have k1 := H2.R.c1; have k2 := H2.R.c2; have f1 := free_of_blk H2.blk 1) | (go_at_call 199; refine (small_c _ _).mono ?_; rintro e w' ⟨rfl, rfl⟩) | (go_at_call 137; refine (digit_c _ _).mono ?_; rintro e w' ⟨rfl, rfl⟩))
              go_roundw
              case rel =>
                refine ⟨k + n, by omega, by omega, by go_num, bjoin hB hB.size hb1, Lib.hid ?_⟩
                rw [← HX.out]
                refine until_next s _ _ i from_ k n hfk (by omega) (by omega) (by rw [HX.out]; exact hh.out) ?_
                rw [hd.out]
                exact Sp.until_some _ _ _ _ _ _ _ wd hp (by rw [← hd.out]; exact Hbd.out) (.inr (by rw [Ne, ← toList_bs]; exact beq_eq_false_iff_ne.1 Hw.out))
              case measure => simp [intOf]; omega
      · go_wp2_with (go_at_call 132; refine (byte_bad g s i rg k hlt (by simpa using hp) _ R1).mono ?_; rintro e w' ⟨rfl, rfl⟩)
        rw [hh.out, hd.out, Sp.until_bad _ _ _ _ _ _ (by simpa using hp)]
        exact ⟨rfl, by rw [show (i + (k - i) : Nat) = k by omega], hB.mono hBw⟩
    · go_wp2_with (first | (go_at_call 132; refine (byte_end g s i rg k (by omega) _ R1).mono ?_; rintro e w' ⟨rfl, rfl⟩) | (go_at_call 144; refine (stop_c _ _ _ _).mono ?_; rintro e w' ⟨rfl, rfl⟩))
      rw [hh.out, bs_drop_end s k (by omega)]
      exact ⟨rfl, rfl, hB.mono hBw⟩
end Go.Proofs.YtjghijeblddijaaGreatDoor
