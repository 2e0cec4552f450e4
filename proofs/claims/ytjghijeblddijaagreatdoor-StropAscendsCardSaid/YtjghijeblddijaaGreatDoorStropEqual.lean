/- Walks: Equal over symbols, where the two lists are the same. -/
import Derived.Test.YtjghijeblddijaaGreatDoorStropEq
namespace Go.Proofs.YtjghijeblddijaaGreatDoor
open Go.RowKit
set_option maxRecDepth 100000 in
set_option maxHeartbeats 8000000 in
theorem equal_c (g o c g' o' c' : Nat) (a : List Sp.Sym) (hl : a.length ≤ 1000000) (w : World) (H : Row w g o a) (H' : Row w g' o' a) :
    Calls Tryz.prog 42 #[.slice (some ⟨g, o, none⟩) a.length c, .slice (some ⟨g', o', none⟩) a.length c'] w fun e w' => e = .returned (.bool true) ∧ ∃ n, w' = w.drewN n := by
  go_enter Tryz.func42, Tryz.ntmps42
  go_wp2
  go_loopw [13] (fun t wr => ∃ k : Nat, k ≤ a.length ∧ t = .int .i64 k ∧ ∃ n, wr = w.drewN n) (fun t _ => a.length - (intOf t).toNat)
  case atStart => exact ⟨0, by omega, rfl, 0, rfl⟩
  case round =>
    obtain ⟨k, hk, rfl, n, hn⟩ := hrel
    have hB : Below w.heap.size w wr := by rw [hn]; exact bdrewN (Below.refl _ _) n
    have Hn := Lib.hid hn
    clear hn
    by_cases hlt : k < a.length
    · obtain ⟨x, hx⟩ : ∃ x, a[k]? = some x := ⟨a[k], List.getElem?_eq_getElem hlt⟩
      obtain ⟨q0, q1, q2⟩ := H.later hB k x hx
      obtain ⟨r0, r1, r2⟩ := H'.later hB k x hx
      clear hx
      go_wp2
      go_quiet (fail)
      go_wp2
      go_roundw
      case rel => exact ⟨k + 1, by omega, by go_num, _, by rw [Hn.out]; exact World.drewN_drewN _ _ _⟩
      case measure => simp [intOf]; omega
    · go_wp2
      go_ret
      exact ⟨rfl, n, Hn.out⟩
theorem equal_n (g o c g' o' c' : Nat) (a : List Sp.Sym) (n : Nat) (hn : a.length = n) (hl : n ≤ 1000000) (w : World) (H : Row w g o a) (H' : Row w g' o' a) :
    Calls Tryz.prog 42 #[.slice (some ⟨g, o, none⟩) n c, .slice (some ⟨g', o', none⟩) n c'] w fun e w' => e = .returned (.bool true) ∧ ∃ m, w' = w.drewN m := by
  subst hn
  exact equal_c g o c g' o' c' a hl w H H'
end Go.Proofs.YtjghijeblddijaaGreatDoor
