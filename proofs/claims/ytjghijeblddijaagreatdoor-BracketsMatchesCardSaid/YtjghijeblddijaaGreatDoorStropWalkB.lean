/- Walks: spread. -/
import Derived.Test.YtjghijeblddijaaGreatDoorStropWalkA
namespace Go.Proofs.YtjghijeblddijaaGreatDoor
open Go.RowKit

theorem info_u8 : (Tryz.prog.info? 5).map (fun i => (i.zero, i.size, i.bytes)) = some (some (.int .u8 0), 1, 1) := by kernel_rfl
/-- Bytes as cells. -/
def u8s (l : List UInt8) : List Value := l.map fun c => .int .u8 (c.toNat : Int)
theorem u8s_snoc (l : List UInt8) (c : UInt8) : u8s (l ++ [c]) = u8s l ++ [.int .u8 (c.toNat : Int)] := by simp [u8s]
theorem u8s_length (l : List UInt8) : (u8s l).length = l.length := by simp [u8s]
theorem u8s_get (l : List UInt8) (j : Nat) (h : j < l.length) : (u8s l)[j]? = some (.int .u8 ((l.map fun c => (c.toNat : Int)).getD j 0)) := by
  simp [u8s, List.getD_eq_getElem?_getD, List.getElem?_eq_getElem h]
theorem nums_of (l : List UInt8) : strOfNums (l.map fun c => (c.toNat : Int)) = ⟨l.toArray⟩ := by
  unfold strOfNums
  rw [List.map_map]
  congr 2
  induction l with
  | nil => rfl
  | cons c t ih => rw [List.map_cons, ih]; congr 1; simp
/-- string(b), b a row of the call's own. -/
theorem u8s_string {w : World} {B : Nat} {v : Value} {l : List UInt8} (h : w.ownsRow B 5 1 v l.length (u8s l)) :
    (convert 104 9 v).run Tryz.prog w = .ok (.string ⟨l.toArray⟩) w := by
  rcases h.2 with ⟨rfl, h0⟩ | ⟨g, cap, cur, rfl, _⟩
  · obtain rfl : l = [] := List.eq_nil_of_length_eq_zero h0
    exact run_convert_bytes_nil w 104 5 Tryz.underlying104 Tryz.underlying5 0 0 9 Tryz.underlying9
  · have hh := run_convert_bytes_arg w 104 5 Tryz.underlying104 Tryz.underlying5 g 0 l.length cap (l.map fun c => (c.toNat : Int)) (by simp) (fun i hi => ?_) 9 Tryz.underlying9
    · rw [nums_of] at hh
      exact hh
    · have hc := h.cells (g := g) rfl i _ (u8s_get l i hi)
      have ha : (⟨g, 0, none⟩ : Addr).add i = ⟨g, 0 + i, none⟩ := by unfold Addr.add; split <;> simp_all
      rwa [ha] at hc

set_option maxRecDepth 100000 in
theorem spread_c (g : Nat) (s : ByteArray) (at_ rg : Int) (i : Nat) (hi : i ≤ s.size) (hs : s.size ≤ 140737488355328) (f : Nat) (cap : Array Value) (p : UInt8 → Bool) (w : World) (H : ScnR w g s at_ rg) (HT : Tells w f cap p) :
    Calls Tryz.prog 208 #[.pointer (some ⟨g, 0, none⟩), .int .i64 (i : Int), .func (.func f) #[] cap] w fun e w' =>
      e = .returned (.tuple #[.string ⟨(Sp.spread p ((bs s).drop i)).1.toArray⟩, .int .i64 ((i + (Sp.spread p ((bs s).drop i)).2 : Nat) : Int)]) ∧ Below w.heap.size w w' := by
  have H0 := H
  have eg := HT.eg
  obtain ⟨c0, c1, c2⟩ := H
  go_enter Tryz.func208, Tryz.ntmps208
  go_wp2
  go_loopw [8, 9, 10] (fun b e t wr => ∃ (A : Option Addr) (c k en : Nat) (bb : List UInt8), k ≤ s.size ∧ en ≤ k ∧ b = .slice A bb.length c ∧ e = .int .i64 en ∧ t = .int .i64 k ∧ bb.length ≤ k ∧
      Below w.heap.size w wr ∧ wr.ownsRow w.heap.size 5 1 (.slice A bb.length c) bb.length (u8s bb) ∧
      Hid ((Sp.spread p ((bs s).drop i)).1 = bb ++ (Sp.spread p ((bs s).drop k)).1 ∧ i + (Sp.spread p ((bs s).drop i)).2 = if (Sp.spread p ((bs s).drop k)).1 = [] then en else k + (Sp.spread p ((bs s).drop k)).2))
    (fun _ _ t _ => s.size - (intOf t).toNat)
  case atStart => exact ⟨none, 0, i, i, [], hi, Nat.le_refl _, rfl, rfl, rfl, Nat.zero_le _, Below.refl _ _, World.ownsRow_nil _ _ _ _, Lib.hid ⟨rfl, by split <;> simp_all [Sp.spread_none]⟩⟩
  case round =>
    obtain ⟨A, c, k, en, bb, hk, hek, rfl, rfl, rfl, hbk, hB, hO, hh⟩ := hrel
    have H1 := H0.later hB
    have HT1 := HT.later hB
    obtain ⟨d0, d1, d2⟩ := H1
    by_cases hlt : k < s.size
    · have hcv := u8s_string hO
      have hbd := Lib.hid (bl_bound s (k + 1) (by omega))
      have hsp := fun (hp : p s[k] = true) => Lib.hid (Sp.spread_cons p s[k] ((bs s).drop (k + 1)) hp)
      have hdk := Lib.hid (bs_drop s k hlt)
      go_wp2_with (first | (go_at_call 203; refine (low_c _ _).mono ?_; rintro e w' ⟨rfl, rfl⟩) | (go_at_call 80; refine (blanks_i (k + 1) g s at_ rg _ (by omega) (by omega) hs _ (by assumption)).mono ?_; rintro e w' ⟨rfl, rfl⟩) | (at_builtin; refine append_lit w.heap.size rfl _ _ 104 5 (.int .u8 0) 1 1 rfl Tryz.underlying104 info_u8 rfl (by decide) (by decide) A bb.length c (u8s bb) [.int .u8 ((Sp.low s[k]).toNat : Int)] rfl rfl rfl (by simp [Value.oneCell']) hO hB.size (by omega) ?_; intro A' c' w1 hown hg hbel hat; have H2 := H0.later (hB.trans hbel)) | (refine (HT1.now _).mono ?_; rintro e w' ⟨rfl, rfl⟩))
      · have h : p s[k] = true := by assumption
        have hsp := (hsp h).out
        rw [← hdk.out, List.drop_drop] at hsp
        go_roundw
        case rel =>
          refine ⟨A', c', k + 1 + Sp.bl ((bs s).drop (k + 1)), k + 1, bb ++ [Sp.low s[k]], hbd.out, by omega, by simp, by go_num, by go_num, by simp; omega, hB.trans hbel, by rw [u8s_snoc]; simpa using hown, Lib.hid ?_⟩
          obtain ⟨e1, e2⟩ := hh.out
          rw [e1, e2, hsp.1, hsp.2]
          refine ⟨by simp, ?_⟩
          rw [if_neg (by simp)]
          split <;> omega
        case measure => simp [intOf]; omega
      · have h : p s[k] = false := by assumption
        have e : (Sp.spread p ((bs s).drop k)).1 = [] := by rw [hdk.out]; simp [Sp.spread, h]
        go_ret2
        obtain ⟨e1, e2⟩ := hh.out
        rw [e, if_pos rfl] at e2
        exact ⟨by rw [e1, e2, e, List.append_nil]; rfl, hB⟩
    · have hcv := u8s_string hO
      go_wp2
      have e : (Sp.spread p ((bs s).drop k)).1 = [] := by rw [bs_drop_end s k (by omega)]; rfl
      go_ret2
      obtain ⟨e1, e2⟩ := hh.out
      rw [e, if_pos rfl] at e2
      exact ⟨by rw [e1, e2, e, List.append_nil]; rfl, hB⟩
end Go.Proofs.YtjghijeblddijaaGreatDoor
