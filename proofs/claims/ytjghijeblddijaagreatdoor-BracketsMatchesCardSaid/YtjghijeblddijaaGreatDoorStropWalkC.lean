/- Walks: limited, add. -/
import Derived.Test.YtjghijeblddijaaGreatDoorStropWalkB
import Derived.Lib.ConvBytes
namespace Go.Proofs.YtjghijeblddijaaGreatDoor
open Go.RowKit

theorem info_sym : (Tryz.prog.info? 28).map (fun i => (i.zero, i.size, i.bytes)) = some (some (.agg #[.int .i64 0, .string ⟨#[]⟩, .int .i64 0]), 3, 32) := by kernel_rfl
theorem cells_append (out : List Sp.Sym) (x : Sp.Sym) : (out ++ [x]).flatMap Sp.cells = out.flatMap Sp.cells ++ Sp.cells x := by simp

set_option maxRecDepth 100000 in
theorem add_c (B g : Nat) (s : ByteArray) (at_ rg : Int) (out : List Sp.Sym) (A : Option Addr) (c : Nat) (kind : Int) (text : ByteArray) (from_ to_ : Int) (w : World) (H : Scn B w g s at_ rg out A c) (hl : out.length ≤ 1000000) :
    Calls Tryz.prog 143 #[.pointer (some ⟨g, 0, none⟩), .int .i64 kind, .string text, .int .i64 from_, .int .i64 to_] w fun e w' =>
      e = .returned (.tuple #[]) ∧ (∃ A' c', Scn B w' g s to_ rg (out ++ [⟨kind, bs text, from_⟩]) A' c') ∧ Below B w w' := by
  have H0 := H.R
  have h3 := H.c3
  have hg := H.lt
  obtain ⟨c0, c1, c2⟩ := H0
  go_enter Tryz.func143, Tryz.ntmps143
  go_wp2_with (at_builtin; refine append_lit B rfl _ _ 22 28 _ 3 32 rfl Tryz.underlying22 info_sym rfl (by decide) (by decide) A out.length c (out.flatMap Sp.cells) [.int .i64 kind, .string text, .int .i64 from_] rfl rfl rfl (by simp [Value.oneCell']) H.own (Nat.le_trans H.base (Nat.le_of_lt hg)) (by omega) ?_; intro A' c' w1 hown hgr hbel hat; have k := (hgr.block g hg (Ne.symm H.ne)).trans H.blk; have k3 := cell_of_blk k 3; have k1 := cell_of_blk k 1; have f3 := free_of_blk k 3; have f1 := free_of_blk k 1; clear k)
  go_end0
  refine ⟨rfl, ⟨A', c', H.added (x := ⟨kind, bs text, from_⟩) (by simpa [Sp.cells, of_bs] using hown) hgr⟩, (hbel.setCell H.base _).setCell H.base _⟩

theorem count_snoc (l : List UInt8) (c : UInt8) : Sp.count (l ++ [c]) = Sp.count l + if Sp.digit c = true ∨ Sp.small (Sp.low c) = true then 1 else 0 := by
  unfold Sp.count
  rw [List.filter_append, List.length_append]
  congr 1
  by_cases h1 : Sp.digit c = true <;> by_cases h2 : Sp.small (Sp.low c) = true <;> simp [h1, h2]
theorem take_snoc (s : ByteArray) (k : Nat) (h : k < s.size) : (bs s).take (k + 1) = (bs s).take k ++ [s[k]] := by
  rw [List.take_succ_eq_append_getElem (by simpa using h)]; rfl
theorem count_le (l : List UInt8) : Sp.count l ≤ l.length := List.length_filter_le _ _

def limE (n : Nat) (most at_ : Int) : Ending := if (n : Int) ≤ most then .returned (.tuple #[]) else .panicked (flt at_ 3)
set_option maxRecDepth 100000 in
theorem limited_c (p : Value) (text : ByteArray) (most at_ : Int) (hs : text.size ≤ 140737488355328) (w : World) :
    Calls Tryz.prog 207 #[p, .string text, .int .i64 most, .int .i64 at_] w fun e w' =>
      e = limE (Sp.count (bs text)) most at_ ∧ Below w.heap.size w w' := by
  have kb := Lib.run_convert_string_bytes (P := Tryz.prog) w 9 104 5 text Tryz.underlying9 Tryz.underlying104 Tryz.underlying5
  have hB : Below w.heap.size w (Lib.bytesWorld w 5 text) := ⟨rfl, rfl, rfl, by rw [Lib.bytesWorld_size]; omega, fun k hk => Lib.bytesWorld_at_old w 5 text k hk⟩
  have hcell : ∀ j, (h : j < text.size) → (Lib.bytesWorld w 5 text).cell? ⟨w.heap.size, j, none⟩ = some (.int .u8 (text[j].toNat : Int)) := fun j h => by
    rw [Lib.bytesWorld_cell _ _ _ _ h, bs_get text j h]
  generalize Lib.bytesWorld w 5 text = W at *
  have Hcell := Lib.hid hcell
  clear hcell
  go_enter Tryz.func207, Tryz.ntmps207
  go_wp2
  go_loop [8, 14] (fun n t => ∃ k m : Nat, k ≤ text.size ∧ t = .int .i64 k ∧ n = .int .i64 m ∧ m ≤ k ∧ Hid (m = Sp.count ((bs text).take k))) (fun _ t => text.size - (intOf t).toNat)
  case atStart => exact ⟨0, 0, Nat.zero_le _, rfl, rfl, Nat.le_refl _, Lib.hid rfl⟩
  case round =>
    obtain ⟨k, m, hk, rfl, rfl, hm, hh⟩ := hrel
    by_cases hlt : k < text.size
    · have hc := Hcell.out k hlt
      have hsn := Lib.hid (count_snoc ((bs text).take k) text[k])
      have hts := Lib.hid (take_snoc text k hlt)
      go_wp2_with (first | (go_at_call 137; refine (digit_c _ _).mono ?_; rintro e w' ⟨rfl, rfl⟩) | (go_at_call 203; refine (low_c _ _).mono ?_; rintro e w' ⟨rfl, rfl⟩) | (go_at_call 199; refine (small_c _ _).mono ?_; rintro e w' ⟨rfl, rfl⟩))
      · have h1 : Sp.digit text[k] = true := by assumption
        go_round
        case rel => exact ⟨k + 1, m + 1, by omega, by go_num, by go_num, by omega, Lib.hid (by rw [hts.out, hsn.out, if_pos (.inl h1), ← hh.out])⟩
        case measure => simp [intOf]; omega
      · have h1 : ¬ Sp.digit text[k] = true := by assumption
        have h2 : Sp.small (Sp.low text[k]) = true := by assumption
        go_round
        case rel => exact ⟨k + 1, m + 1, by omega, by go_num, by go_num, by omega, Lib.hid (by rw [hts.out, hsn.out, if_pos (.inr h2), ← hh.out])⟩
        case measure => simp [intOf]; omega
      · have h1 : ¬ Sp.digit text[k] = true := by assumption
        have h2 : Sp.small (Sp.low text[k]) = false := by assumption
        go_round
        case rel => exact ⟨k + 1, m, by omega, by go_num, by go_num, by omega, Lib.hid (by rw [hts.out, hsn.out, if_neg (by simp [h1, h2]), ← hh.out]; rfl)⟩
        case measure => simp [intOf]; omega
    · have hm' : m = Sp.count (bs text) := by rw [hh.out, List.take_of_length_le (by simp; omega)]
      have Hm := Lib.hid hm'
      clear hm'
      by_cases hmost : most < (m : Int)
      · go_wp2_with (go_at_call 144; refine (stop_c _ _ _ _).mono ?_; rintro e w' ⟨rfl, rfl⟩)
        refine ⟨rfl, ?_, hB⟩
        unfold limE
        rw [← Hm.out, if_neg (by omega)]
      · go_wp2
        go_end0
        refine ⟨?_, hB⟩
        unfold limE
        rw [← Hm.out, if_pos (by omega)]
theorem limited_ok (p : Value) (text : ByteArray) (most at_ : Int) (hs : text.size ≤ 140737488355328) (w : World) (h : (Sp.count (bs text) : Int) ≤ most) :
    Calls Tryz.prog 207 #[p, .string text, .int .i64 most, .int .i64 at_] w fun e w' => e = .returned (.tuple #[]) ∧ Below w.heap.size w w' :=
  (limited_c p text most at_ hs w).mono fun e w' ⟨he, hb⟩ => ⟨by rw [he, limE, if_pos h], hb⟩
theorem limited_bad (p : Value) (text : ByteArray) (most at_ : Int) (hs : text.size ≤ 140737488355328) (w : World) (h : most < (Sp.count (bs text) : Int)) :
    Calls Tryz.prog 207 #[p, .string text, .int .i64 most, .int .i64 at_] w fun e w' => e = .panicked (flt at_ 3) ∧ Below w.heap.size w w' :=
  (limited_c p text most at_ hs w).mono fun e w' ⟨he, hb⟩ => ⟨by rw [he, limE, if_neg (by omega)], hb⟩
end Go.Proofs.YtjghijeblddijaaGreatDoor
