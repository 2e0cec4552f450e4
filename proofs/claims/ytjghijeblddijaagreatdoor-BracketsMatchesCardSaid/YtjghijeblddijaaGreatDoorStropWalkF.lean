/- Walks: quoted, format, comment. -/
import Derived.Test.YtjghijeblddijaaGreatDoorStropWalkD
namespace Go.Proofs.YtjghijeblddijaaGreatDoor
open Go.RowKit

theorem commentGo_cons (s : ByteArray) (k i : Nat) (h : k < s.size) : Sp.commentGo ((bs s).drop k) i =
    if (!Sp.permitted s[k]) = true then .error (i, 2) else if (s[k] == 35) = true then .ok (i + 1) else Sp.commentGo ((bs s).drop (k + 1)) (i + 1) := by
  rw [bs_drop s k h]; rfl
theorem comment_ok (r : Nat) (s : ByteArray) (i n : Nat) (h : Sp.commentGo ((bs s).drop (i + 1)) 1 = .ok n) : Sp.comment r ((bs s).drop i) = .skip n r := by
  unfold Sp.comment; rw [List.drop_drop, h]
theorem comment_err (r : Nat) (s : ByteArray) (i o : Nat) (c : Int) (h : Sp.commentGo ((bs s).drop (i + 1)) 1 = .error (o, c)) : Sp.comment r ((bs s).drop i) = .fault o c := by
  unfold Sp.comment; rw [List.drop_drop, h]
theorem u8_eq (c : UInt8) (n : Nat) (d : UInt8) (hd : d.toNat = n) : c = d ↔ (c.toNat : Int) = n := by
  rw [← UInt8.toNat_inj, hd]; omega

set_option maxRecDepth 100000 in
set_option maxHeartbeats 1000000 in
theorem comment_c (B g : Nat) (s : ByteArray) (i : Nat) (rg : Int) (hr : 0 ≤ rg) (out : List Sp.Sym) (A : Option Addr) (c : Nat) (w : World) (H : Scn B w g s i rg out A c) (hi : i < s.size) (hs : s.size ≤ 140737488355328) :
    Calls Tryz.prog 141 #[.pointer (some ⟨g, 0, none⟩)] w (StepPost B w g s i rg out (Sp.comment rg.toNat ((bs s).drop i))) := by
  have hg := H.lt
  have R := H.R
  obtain ⟨c0, c1, c2⟩ := H.R
  have f1 := free_of_blk H.blk 1
  go_enter Tryz.func141, Tryz.ntmps141
  go_wp2
  go_loop [2] (fun t => ∃ k : Nat, k ≤ s.size ∧ i < k ∧ t = .int .i64 k ∧ Hid (Sp.commentGo ((bs s).drop (i + 1)) 1 = Sp.commentGo ((bs s).drop k) (k - i))) (fun t => s.size - (intOf t).toNat)
  case atStart => exact ⟨i + 1, by omega, by omega, by go_num, Lib.hid (by congr 1; omega)⟩
  case round =>
    obtain ⟨k, hk, hik, rfl, hh⟩ := hrel
    by_cases hlt : k < s.size
    · have hd := Lib.hid (commentGo_cons s k (k - i) hlt)
      by_cases hp : Sp.permitted s[k] = true
      · by_cases hq : (s[k].toNat : Int) = 35
        · have Hq := Lib.hid ((u8_eq s[k] 35 35 rfl).2 hq)
          have e1 : ((s[k].toNat : Int) != 35) = false := by simp [hq]
          clear hq
          go_wp2_with (go_at_call 132; refine (byte_ok g s i rg k hlt hp _ R).mono ?_; rintro e w' ⟨rfl, rfl⟩)
          have hfin := comment_ok rg.toNat s i (k - i + 1) (by rw [hh.out, hd.out, if_neg (by simp [hp]), if_pos (by simpa using Hq.out)])
          rw [hfin]
          go_end0
          refine ⟨rfl, ⟨A, c, ?_⟩, (Below.refl B w).setCell H.base _⟩
          have := H.setAt ((k : Int) + 1)
          rw [Int.toNat_of_nonneg hr]
          rw [show ((i + (k - i + 1) : Nat) : Int) = (k : Int) + 1 by omega]
          exact this
        · have Hq := Lib.hid (fun (h : s[k] = 35) => hq ((u8_eq s[k] 35 35 rfl).1 h))
          have e1 : ((s[k].toNat : Int) != 35) = true := by simp [hq]
          clear hq
          go_wp2_with (go_at_call 132; refine (byte_ok g s i rg k hlt hp _ R).mono ?_; rintro e w' ⟨rfl, rfl⟩)
          go_round
          case rel => exact ⟨k + 1, by omega, by omega, by go_num, Lib.hid (by rw [hh.out, hd.out, if_neg (by simp [hp]), if_neg (by simpa using Hq.out)]; congr 1; omega)⟩
          case measure => simp [intOf]; omega
      · go_wp2_with (go_at_call 132; refine (byte_bad g s i rg k hlt (by simpa using hp) _ R).mono ?_; rintro e w' ⟨rfl, rfl⟩)
        have hfin := comment_err rg.toNat s i (k - i) 2 (by rw [hh.out, hd.out, if_pos (by simpa using hp)])
        rw [hfin]
        exact ⟨rfl, by rw [show (i + (k - i) : Nat) = k by omega], Below.refl _ _⟩
    · go_wp2_with (first | (go_at_call 132; refine (byte_end g s i rg k (by omega) _ R).mono ?_; rintro e w' ⟨rfl, rfl⟩) | (go_at_call 144; refine (stop_c _ _ _ _).mono ?_; rintro e w' ⟨rfl, rfl⟩))
      have hfin := comment_err rg.toNat s i 0 16 (by rw [hh.out, bs_drop_end s k (by omega)]; rfl)
      rw [hfin]
      exact ⟨rfl, rfl, Below.refl _ _⟩
end Go.Proofs.YtjghijeblddijaaGreatDoor
