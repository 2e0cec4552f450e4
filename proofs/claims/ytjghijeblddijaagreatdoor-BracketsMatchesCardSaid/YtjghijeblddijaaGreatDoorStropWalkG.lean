/- Walks: quoted. -/
import Derived.Test.YtjghijeblddijaaGreatDoorStropWalkF
namespace Go.Proofs.YtjghijeblddijaaGreatDoor
open Go.RowKit

namespace Sp
/-- What was read before, put ahead. -/
def pre (b : List UInt8) : Except (Nat × Int) (List UInt8 × Nat) → Except (Nat × Int) (List UInt8 × Nat)
  | .ok (x, n) => .ok (b ++ x, n)
  | .error f => .error f
theorem pre_pre (a b : List UInt8) (x : Except (Nat × Int) (List UInt8 × Nat)) : pre a (pre b x) = pre (a ++ b) x := by
  rcases x with f | ⟨x, n⟩ <;> simp [pre]
theorem pre_nil (x : Except (Nat × Int) (List UInt8 × Nat)) : pre [] x = x := by
  rcases x with f | ⟨x, n⟩ <;> simp [pre]
theorem quotedGo_bad (c : UInt8) (t : List UInt8) (i : Nat) (h : permitted c = false) : quotedGo (c :: t) i = .error (i, 2) := by
  simp [quotedGo.eq_def, h]
theorem quotedGo_line (c : UInt8) (t : List UInt8) (i : Nat) (h : permitted c = true) (h1 : c = 9 ∨ c = 10) : quotedGo (c :: t) i = .error (i, 9) := by
  rw [quotedGo.eq_def]; simp [h, h1]
theorem quotedGo_any (c : UInt8) (t : List UInt8) (i : Nat) (h : permitted c = true) (h1 : ¬ (c = 9 ∨ c = 10)) (h2 : c ≠ 34) : quotedGo (c :: t) i = pre [c] (quotedGo t (i + 1)) := by
  rw [quotedGo.eq_def]; simp only [h]
  rw [not_or] at h1
  simp [h1.1, h1.2, h2]
  rcases quotedGo t (i + 1) with f | ⟨x, n⟩ <;> simp [pre]
theorem quotedGo_two (t : List UInt8) (i : Nat) : quotedGo (34 :: 34 :: t) i = pre [34] (quotedGo t (i + 2)) := by
  rw [quotedGo.eq_def]; simp only
  rw [if_neg (by decide), if_neg (by decide), if_pos (by decide)]
  rcases quotedGo t (i + 2) with f | ⟨x, n⟩ <;> simp [pre]
theorem quotedGo_end (t : List UInt8) (i : Nat) (h : t.getD 0 0 ≠ 34) : quotedGo (34 :: t) i = .ok ([], i + 1) := by
  rw [quotedGo.eq_def]; simp only
  rw [if_neg (by decide), if_neg (by decide), if_pos (by decide)]
  cases t with
  | nil => rfl
  | cons d t =>
    have : d ≠ 34 := by simpa using h
    split
    · rename_i h'; injection h' with h' _; exact absurd h' this
    · rfl
end Sp
theorem quoted_ok (s : ByteArray) (i n : Nat) (b : List UInt8) (h : Sp.quotedGo ((bs s).drop (i + 1)) 1 = .ok (b, n)) : Sp.quoted ((bs s).drop i) = .sym 6 b n := by
  unfold Sp.quoted; rw [List.drop_drop, h]
theorem quoted_err (s : ByteArray) (i o : Nat) (c : Int) (h : Sp.quotedGo ((bs s).drop (i + 1)) 1 = .error (o, c)) : Sp.quoted ((bs s).drop i) = .fault o c := by
  unfold Sp.quoted; rw [List.drop_drop, h]

set_option maxRecDepth 100000 in
set_option maxHeartbeats 2000000 in
theorem quoted_c (B g : Nat) (s : ByteArray) (i : Nat) (rg : Int) (out : List Sp.Sym) (A : Option Addr) (c : Nat) (w : World) (H : Scn B w g s i rg out A c) (hi : i < s.size) (hs : s.size ≤ 140737488355328) (hl : out.length ≤ 1000000) :
    Calls Tryz.prog 139 #[.pointer (some ⟨g, 0, none⟩)] w (StepPost B w g s i rg out (Sp.quoted ((bs s).drop i))) := by
  have hg := H.lt
  have hBw : B ≤ w.heap.size := Nat.le_trans H.base (Nat.le_of_lt hg)
  obtain ⟨c0, c1, c2⟩ := H.R
  go_enter Tryz.func139, Tryz.ntmps139
  go_wp2
  go_loopw [2, 3, 4] (fun b t _ wr => ∃ (k : Nat) (bb : List UInt8) (A' : Option Addr) (c' : Nat), k ≤ s.size ∧ i < k ∧ t = .int .i64 k ∧ b = .slice A' bb.length c' ∧ bb.length ≤ k ∧ Below w.heap.size w wr ∧
      wr.ownsRow w.heap.size 5 1 (.slice A' bb.length c') bb.length (u8s bb) ∧
      Hid (Sp.quotedGo ((bs s).drop (i + 1)) 1 = Sp.pre bb (Sp.quotedGo ((bs s).drop k) (k - i)))) (fun _ t _ _ => s.size - (intOf t).toNat)
  case atStart => exact ⟨i + 1, [], none, 0, by omega, by omega, by go_num, rfl, by simp, Below.refl _ _, World.ownsRow_nil _ _ _ _, Lib.hid (by rw [Sp.pre_nil]; congr 1; omega)⟩
  case round =>
    obtain ⟨k, bb, A', c', hk, hik, rfl, rfl, hbb, hB, hO, hh⟩ := hrel
    have H1 := H.later hB
    have R1 := H1.R
    obtain ⟨d0, d1, d2⟩ := H1.R
    clear c0 c1 c2
    by_cases hlt : k < s.size
    · have hd := Lib.hid (bs_drop s k hlt)
      by_cases hp : Sp.permitted s[k] = true
      · by_cases hln : s[k] = 9 ∨ s[k] = 10
        · have hfin := Lib.hid (quoted_err s i (k - i) 9 (by rw [hh.out, hd.out, Sp.quotedGo_line _ _ _ hp hln]; rfl))
          rcases hln with h9 | h10
          · have e9 : ((s[k].toNat : Int) == 9) = true := by rw [beq_iff_eq]; exact (u8_eq s[k] 9 9 rfl).1 h9
            clear h9
            go_wp2_with (first | (go_at_call 132; refine (byte_ok g s i rg k hlt hp _ R1).mono ?_; rintro e w' ⟨rfl, rfl⟩) | (go_at_call 144; refine (stop_c _ _ _ _).mono ?_; rintro e w' ⟨rfl, rfl⟩))
            rw [hfin.out]
            exact ⟨rfl, by rw [show (i + (k - i) : Nat) = k by omega], hB.mono hBw⟩
          · have e9 : ((s[k].toNat : Int) == 9) = false := by rw [h10]; rfl
            have e10 : ((s[k].toNat : Int) == 10) = true := by rw [h10]; rfl
            clear h10
            go_wp2_with (first | (go_at_call 132; refine (byte_ok g s i rg k hlt hp _ R1).mono ?_; rintro e w' ⟨rfl, rfl⟩) | (go_at_call 144; refine (stop_c _ _ _ _).mono ?_; rintro e w' ⟨rfl, rfl⟩))
            rw [hfin.out]
            exact ⟨rfl, by rw [show (i + (k - i) : Nat) = k by omega], hB.mono hBw⟩
        · have hln' := not_or.1 hln
          have e9 : ((s[k].toNat : Int) == 9) = false := by rw [beq_eq_false_iff_ne]; intro h; exact hln'.1 ((u8_eq s[k] 9 9 rfl).2 h)
          have e10 : ((s[k].toNat : Int) == 10) = false := by rw [beq_eq_false_iff_ne]; intro h; exact hln'.2 ((u8_eq s[k] 10 10 rfl).2 h)
          have Hln := Lib.hid hln
          clear hln hln'
          by_cases hq : s[k] = 34
          · have e34 : ((s[k].toNat : Int) == 34) = true := by rw [hq]; rfl
            have Hq := Lib.hid hq
            clear hq
            by_cases hk1 : k + 1 < s.size
            · by_cases hq2 : s[k + 1] = 34
              · have e35 : ((s[k + 1].toNat : Int) != 34) = false := by rw [hq2]; rfl
                have hd2 := Lib.hid (bs_drop s (k + 1) hk1)
                have Hq2 := Lib.hid hq2
                clear hq2
                go_wp2_with (first | (go_at_call 132; refine (byte_ok g s i rg k hlt hp _ R1).mono ?_; rintro e w' ⟨rfl, rfl⟩) | (at_builtin; refine append_lit w.heap.size rfl _ _ 104 5 (.int .u8 0) 1 1 rfl Tryz.underlying104 info_u8 rfl (by decide) (by decide) A' bb.length c' (u8s bb) [.int .u8 (s[k].toNat : Int)] rfl rfl rfl (by simp [Value.oneCell']) hO hB.size (by omega) ?_; intro A2 c2 w1 hown hgr hbel hat; have H2 := H.later (hB.trans hbel)))
                go_roundw
                case rel =>
                  refine ⟨k + 2, bb ++ [s[k]], A2, c2, by omega, by omega, by go_num, by simp, by simp; omega, hB.trans hbel, by rw [u8s_snoc]; simpa using hown, Lib.hid ?_⟩
                  have e := Sp.quotedGo_two ((bs s).drop (k + 1 + 1)) (k - i)
                  rw [hh.out, hd.out, hd2.out, Hq.out, Hq2.out, e, Sp.pre_pre]
                  congr 2
                  omega
                case measure => simp [intOf]; omega
              · have e35 : ((s[k + 1].toNat : Int) != 34) = true := by rw [bne_iff_ne]; intro h; exact hq2 ((u8_eq s[k + 1] 34 34 rfl).2 h)
                have hfin := Lib.hid (quoted_ok s i (k - i + 1) bb (by
                  have hne : ((bs s).drop (k + 1)).getD 0 0 ≠ 34 := by rw [bs_drop s (k + 1) hk1]; simpa using hq2
                  rw [hh.out, hd.out, Hq.out, Sp.quotedGo_end _ _ hne]; simp [Sp.pre]))
                have hcv := u8s_string (w := wr.drew) hO
                clear hq2
                go_wp2_with (first | (go_at_call 132; refine (byte_ok g s i rg k hlt hp _ R1).mono ?_; rintro e w' ⟨rfl, rfl⟩))
                go_still_tail 9, (by kernel_rfl)
                go_wp2_with (go_at_call 143; refine (add_c B g s i rg out A c 6 _ _ _ _ (H1.later (Below.refl _ _).drew) hl).mono ?_; rintro e w3 ⟨rfl, hs3, hb3⟩)
                go_end0
                rw [hfin.out]
                refine ⟨rfl, ?_, (hB.mono hBw).drew.trans hb3⟩
                rw [show ((i + (k - i + 1) : Nat) : Int) = (k : Int) + 1 by omega]
                simpa [bs_of] using hs3
            · have hfin := Lib.hid (quoted_ok s i (k - i + 1) bb (by
                rw [hh.out, hd.out, Hq.out, Sp.quotedGo_end _ _ (by rw [bs_drop_end s (k + 1) (by omega)]; decide)]; simp [Sp.pre]))
              have hcv := u8s_string (w := wr.drew) hO
              go_wp2_with (first | (go_at_call 132; refine (byte_ok g s i rg k hlt hp _ R1).mono ?_; rintro e w' ⟨rfl, rfl⟩))
              go_still_tail 9, (by kernel_rfl)
              go_wp2_with (go_at_call 143; refine (add_c B g s i rg out A c 6 _ _ _ _ (H1.later (Below.refl _ _).drew) hl).mono ?_; rintro e w3 ⟨rfl, hs3, hb3⟩)
              go_end0
              rw [hfin.out]
              refine ⟨rfl, ?_, (hB.mono hBw).drew.trans hb3⟩
              rw [show ((i + (k - i + 1) : Nat) : Int) = (k : Int) + 1 by omega]
              simpa [bs_of] using hs3
          · have e34 : ((s[k].toNat : Int) == 34) = false := by rw [beq_eq_false_iff_ne]; intro h; exact hq ((u8_eq s[k] 34 34 rfl).2 h)
            have Hq := Lib.hid (show s[k] ≠ 34 from hq)
            clear hq
            go_wp2_with (first | (go_at_call 132; refine (byte_ok g s i rg k hlt hp _ R1).mono ?_; rintro e w' ⟨rfl, rfl⟩) | (at_builtin; refine append_lit w.heap.size rfl _ _ 104 5 (.int .u8 0) 1 1 rfl Tryz.underlying104 info_u8 rfl (by decide) (by decide) A' bb.length c' (u8s bb) [.int .u8 (s[k].toNat : Int)] rfl rfl rfl (by simp [Value.oneCell']) hO hB.size (by omega) ?_; intro A2 c2 w1 hown hgr hbel hat; have H2 := H.later (hB.trans hbel)))
            go_roundw
            case rel =>
              refine ⟨k + 1, bb ++ [s[k]], A2, c2, by omega, by omega, by go_num, by simp, by simp; omega, hB.trans hbel, by rw [u8s_snoc]; simpa using hown, Lib.hid ?_⟩
              rw [hh.out, hd.out, Sp.quotedGo_any _ _ _ hp Hln.out Hq.out, Sp.pre_pre]
              congr 2
              omega
            case measure => simp [intOf]; omega
      · go_wp2_with (go_at_call 132; refine (byte_bad g s i rg k hlt (by simpa using hp) _ R1).mono ?_; rintro e w' ⟨rfl, rfl⟩)
        have hfin := quoted_err s i (k - i) 2 (by rw [hh.out, hd.out, Sp.quotedGo_bad _ _ _ (by simpa using hp)]; rfl)
        rw [hfin]
        exact ⟨rfl, by rw [show (i + (k - i) : Nat) = k by omega], hB.mono hBw⟩
    · go_wp2_with (first | (go_at_call 132; refine (byte_end g s i rg k (by omega) _ R1).mono ?_; rintro e w' ⟨rfl, rfl⟩) | (go_at_call 144; refine (stop_c _ _ _ _).mono ?_; rintro e w' ⟨rfl, rfl⟩))
      have hfin := quoted_err s i 0 16 (by rw [hh.out, bs_drop_end s k (by omega)]; rfl)
      rw [hfin]
      exact ⟨rfl, rfl, hB.mono hBw⟩
end Go.Proofs.YtjghijeblddijaaGreatDoor
