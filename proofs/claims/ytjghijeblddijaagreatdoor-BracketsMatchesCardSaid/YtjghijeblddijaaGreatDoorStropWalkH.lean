/- Walks: format. -/
import Derived.Test.YtjghijeblddijaaGreatDoorStropWalkG
namespace Go.Proofs.YtjghijeblddijaaGreatDoor
open Go.RowKit

namespace Sp
theorem formatGo_bad (c : UInt8) (t : List UInt8) (i : Nat) (q : Bool) (h : permitted c = false) : formatGo (c :: t) i q = .error (i, 2) := by
  simp [formatGo, h]
theorem formatGo_line (c : UInt8) (t : List UInt8) (i : Nat) (q : Bool) (h : permitted c = true) (h1 : c = 9 ∨ c = 10) : formatGo (c :: t) i q = .error (i, 9) := by
  simp [formatGo, h, h1]
theorem formatGo_end (t : List UInt8) (i : Nat) : formatGo (36 :: t) i false = .ok ([], i + 1) := by
  simp only [formatGo]
  rw [if_neg (by decide), if_neg (by decide), if_pos (by decide)]
theorem formatGo_any (c : UInt8) (t : List UInt8) (i : Nat) (q : Bool) (h : permitted c = true) (h1 : ¬ (c = 9 ∨ c = 10)) (h2 : ¬ (c = 36 ∧ q = false)) :
    formatGo (c :: t) i q = pre [c] (formatGo t (i + 1) (if c = 34 then !q else q)) := by
  rw [not_or] at h1
  simp only [formatGo]
  rw [if_neg (by simp [h]), if_neg (by simp [h1.1, h1.2]), if_neg (by simpa using h2)]
  have e : (if (c == 34) = true then !q else q) = if c = 34 then !q else q := by simp
  rw [e]
  rcases formatGo t (i + 1) (if c = 34 then !q else q) with f | ⟨x, n⟩ <;> simp [pre]
end Sp
theorem format_ok (s : ByteArray) (i n : Nat) (b : List UInt8) (h : Sp.formatGo ((bs s).drop (i + 1)) 1 false = .ok (b, n)) : Sp.format ((bs s).drop i) = .sym 7 b n := by
  unfold Sp.format; rw [List.drop_drop, h]
theorem format_err (s : ByteArray) (i o : Nat) (c : Int) (h : Sp.formatGo ((bs s).drop (i + 1)) 1 false = .error (o, c)) : Sp.format ((bs s).drop i) = .fault o c := by
  unfold Sp.format; rw [List.drop_drop, h]
theorem mid_snoc (s : ByteArray) (a k : Nat) (h : k < s.size) (ha : a ≤ k) : ((bs s).drop a).take (k - a) ++ [s[k]] = ((bs s).drop a).take (k + 1 - a) := by
  rw [show k + 1 - a = (k - a) + 1 by omega, List.take_add_one, List.getElem?_drop, show a + (k - a) = k by omega, List.getElem?_eq_getElem (by simpa using h)]
  rfl

set_option maxRecDepth 100000 in
set_option maxHeartbeats 2000000 in
theorem format_c (B g : Nat) (s : ByteArray) (i : Nat) (rg : Int) (out : List Sp.Sym) (A : Option Addr) (c : Nat) (w : World) (H : Scn B w g s i rg out A c) (hi : i < s.size) (hs : s.size ≤ 140737488355328) (hl : out.length ≤ 1000000) :
    Calls Tryz.prog 140 #[.pointer (some ⟨g, 0, none⟩)] w (StepPost B w g s i rg out (Sp.format ((bs s).drop i))) := by
  have hg := H.lt
  have R := H.R
  obtain ⟨c0, c1, c2⟩ := H.R
  go_enter Tryz.func140, Tryz.ntmps140
  go_wp2
  go_loop [2, 3, 4] (fun b t _ => ∃ (k : Nat) (q : Bool), k ≤ s.size ∧ i < k ∧ t = .int .i64 k ∧ b = .bool q ∧
      Hid (Sp.formatGo ((bs s).drop (i + 1)) 1 false = Sp.pre (((bs s).drop (i + 1)).take (k - (i + 1))) (Sp.formatGo ((bs s).drop k) (k - i) q))) (fun _ t _ => s.size - (intOf t).toNat)
  case atStart => exact ⟨i + 1, false, by omega, by omega, by go_num, rfl, Lib.hid (by rw [show i + 1 - (i + 1) = 0 by omega, List.take_zero, Sp.pre_nil]; congr 1; omega)⟩
  case round =>
    obtain ⟨k, q, hk, hik, rfl, rfl, hh⟩ := hrel
    by_cases hlt : k < s.size
    · have hd := Lib.hid (bs_drop s k hlt)
      by_cases hp : Sp.permitted s[k] = true
      · by_cases hln : s[k] = 9 ∨ s[k] = 10
        · have hfin := Lib.hid (format_err s i (k - i) 9 (by rw [hh.out, hd.out, Sp.formatGo_line _ _ _ _ hp hln]; rfl))
          rcases hln with h9 | h10
          · have e9 : ((s[k].toNat : Int) == 9) = true := by rw [beq_iff_eq]; exact (u8_eq s[k] 9 9 rfl).1 h9
            clear h9
            go_wp2_with (first | (go_at_call 132; refine (byte_ok g s i rg k hlt hp _ R).mono ?_; rintro e w' ⟨rfl, rfl⟩) | (go_at_call 144; refine (stop_c _ _ _ _).mono ?_; rintro e w' ⟨rfl, rfl⟩))
            rw [hfin.out]
            exact ⟨rfl, by rw [show (i + (k - i) : Nat) = k by omega], Below.refl _ _⟩
          · have e9 : ((s[k].toNat : Int) == 9) = false := by rw [h10]; rfl
            have e10 : ((s[k].toNat : Int) == 10) = true := by rw [h10]; rfl
            clear h10
            go_wp2_with (first | (go_at_call 132; refine (byte_ok g s i rg k hlt hp _ R).mono ?_; rintro e w' ⟨rfl, rfl⟩) | (go_at_call 144; refine (stop_c _ _ _ _).mono ?_; rintro e w' ⟨rfl, rfl⟩))
            rw [hfin.out]
            exact ⟨rfl, by rw [show (i + (k - i) : Nat) = k by omega], Below.refl _ _⟩
        · have hln' := not_or.1 hln
          have e9 : ((s[k].toNat : Int) == 9) = false := by rw [beq_eq_false_iff_ne]; intro h; exact hln'.1 ((u8_eq s[k] 9 9 rfl).2 h)
          have e10 : ((s[k].toNat : Int) == 10) = false := by rw [beq_eq_false_iff_ne]; intro h; exact hln'.2 ((u8_eq s[k] 10 10 rfl).2 h)
          have Hln := Lib.hid hln
          clear hln hln'
          have hmid := Lib.hid (mid_snoc s (i + 1) k hlt (by omega))
          by_cases hq : s[k] = 34
          · have e34 : ((s[k].toNat : Int) == 34) = true := by rw [hq]; rfl
            have Hq := Lib.hid hq
            clear hq
            go_wp2_with (first | (go_at_call 132; refine (byte_ok g s i rg k hlt hp _ R).mono ?_; rintro e w' ⟨rfl, rfl⟩))
            go_round
            case rel =>
              refine ⟨k + 1, !q, by omega, by omega, by go_num, rfl, Lib.hid ?_⟩
              rw [hh.out, hd.out, Sp.formatGo_any _ _ _ _ hp Hln.out (fun h => absurd (Hq.out.symm.trans h.1) (by decide)), Sp.pre_pre, hmid.out, if_pos Hq.out]
              congr 2
              omega
            case measure => simp [intOf]; omega
          · have e34 : ((s[k].toNat : Int) == 34) = false := by rw [beq_eq_false_iff_ne]; intro h; exact hq ((u8_eq s[k] 34 34 rfl).2 h)
            have Hq := Lib.hid hq
            clear hq
            by_cases hx : s[k] = 36
            · have e36 : ((s[k].toNat : Int) == 36) = true := by rw [hx]; rfl
              have Hx := Lib.hid hx
              clear hx
              cases q with
              | true =>
                go_wp2_with (first | (go_at_call 132; refine (byte_ok g s i rg k hlt hp _ R).mono ?_; rintro e w' ⟨rfl, rfl⟩))
                go_round
                case rel =>
                  refine ⟨k + 1, true, by omega, by omega, by go_num, rfl, Lib.hid ?_⟩
                  rw [hh.out, hd.out, Sp.formatGo_any _ _ _ _ hp Hln.out (by simp), Sp.pre_pre, hmid.out, if_neg Hq.out]
                  congr 2
                  omega
                case measure => simp [intOf]; omega
              | false =>
                have hfin := Lib.hid (format_ok s i (k - i + 1) (((bs s).drop (i + 1)).take (k - (i + 1))) (by
                  rw [hh.out, hd.out, Hx.out, Sp.formatGo_end]; simp [Sp.pre]))
                have hex := Lib.hid (extract_eq s (i + 1) k)
                have x1 : (0 : Int) ≤ (i : Int) + 1 := by omega
                have x2 : (i : Int) + 1 ≤ (k : Int) := by omega
                have x3 : (k : Int) ≤ (s.size : Int) := by omega
                have x4 : IntKind.i64.wrap ((i : Int) + 1) = (i : Int) + 1 := IntWalk.i64_in _ (by omega)
                have x5 : IntKind.i64.wrap ((k : Int) + 1) = (k : Int) + 1 := IntWalk.i64_in _ (by omega)
                go_wp2_with (first | (go_at_call 132; refine (byte_ok g s i rg k hlt hp _ R).mono ?_; rintro e w' ⟨rfl, rfl⟩))
                go_still_tail 18, (by kernel_rfl)
                go_wp2_with (go_at_call 143; refine (add_c B g s i rg out A c 7 _ _ _ _ (H.later (Below.refl _ _).drew) hl).mono ?_; rintro e w3 ⟨rfl, hs3, hb3⟩)
                go_end0
                rw [hfin.out]
                refine ⟨rfl, ?_, (Below.refl B w).drew.trans hb3⟩
                rw [show ((i + (k - i + 1) : Nat) : Int) = (k : Int) + 1 by omega]
                rw [hex.out] at hs3
                simpa [bs_of] using hs3
            · have e36 : ((s[k].toNat : Int) == 36) = false := by rw [beq_eq_false_iff_ne]; intro h; exact hx ((u8_eq s[k] 36 36 rfl).2 h)
              have Hx := Lib.hid hx
              clear hx
              go_wp2_with (first | (go_at_call 132; refine (byte_ok g s i rg k hlt hp _ R).mono ?_; rintro e w' ⟨rfl, rfl⟩))
              go_round
              case rel =>
                refine ⟨k + 1, q, by omega, by omega, by go_num, rfl, Lib.hid ?_⟩
                rw [hh.out, hd.out, Sp.formatGo_any _ _ _ _ hp Hln.out (fun h => Hx.out h.1), Sp.pre_pre, hmid.out, if_neg Hq.out]
                congr 2
                omega
              case measure => simp [intOf]; omega
      · go_wp2_with (go_at_call 132; refine (byte_bad g s i rg k hlt (by simpa using hp) _ R).mono ?_; rintro e w' ⟨rfl, rfl⟩)
        have hfin := format_err s i (k - i) 2 (by rw [hh.out, hd.out, Sp.formatGo_bad _ _ _ _ (by simpa using hp)]; rfl)
        rw [hfin]
        exact ⟨rfl, by rw [show (i + (k - i) : Nat) = k by omega], Below.refl _ _⟩
    · go_wp2_with (first | (go_at_call 132; refine (byte_end g s i rg k (by omega) _ R).mono ?_; rintro e w' ⟨rfl, rfl⟩) | (go_at_call 144; refine (stop_c _ _ _ _).mono ?_; rintro e w' ⟨rfl, rfl⟩))
      have hfin := format_err s i 0 16 (by rw [hh.out, bs_drop_end s k (by omega)]; rfl)
      rw [hfin]
      exact ⟨rfl, rfl, Below.refl _ _⟩
end Go.Proofs.YtjghijeblddijaaGreatDoor
