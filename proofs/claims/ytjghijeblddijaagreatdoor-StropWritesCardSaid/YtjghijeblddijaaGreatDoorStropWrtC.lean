/- Walks: few; Text over no symbols and in no regime; StropWrites. StropWrites: Text and Check return what the reference returns, for any symbols and regime.
  Conditions: those of the row alone (the listed tables lie as the program lays them). -/
import Derived.Test.YtjghijeblddijaaGreatDoorStropSyms
import Derived.Test.YtjghijeblddijaaGreatDoorRefText
import Derived.Lib.QuietBelow
import Derived.Test.YtjghijeblddijaaGreatDoorTie
import Derived.Test.YtjghijeblddijaaGreatDoorCards
set_option linter.unusedVariables false
namespace Go.Proofs.YtjghijeblddijaaGreatDoor
open Go.RowKit
open Go.Sort
/-- Few symbols, with short texts. -/
def Sp.few (l : List Sp.Sym) : Bool := (l.all fun x => decide (x.text.length ≤ 200)) && (decide (l.length ≤ 80) && decide (Sp.total l ≤ 1000))
theorem Sp.total_snoc (l : List Sp.Sym) (k : Nat) (x : Sp.Sym) (hx : l[k]? = some x) : Sp.total (l.take (k + 1)) = Sp.total (l.take k) + x.text.length := by
  obtain ⟨hlt, he⟩ := List.getElem?_eq_some_iff.1 hx
  rw [List.take_succ_eq_append_getElem hlt, he]
  generalize l.take k = a
  induction a with
  | nil => simp [Sp.total]
  | cons y t ih => rw [List.cons_append, Sp.total, Sp.total, ih]; omega
theorem Sp.total_le : ∀ l : List Sp.Sym, (∀ x ∈ l, x.text.length ≤ 200) → Sp.total l ≤ 200 * l.length := by
  intro l
  induction l with
  | nil => intro _; simp [Sp.total]
  | cons x t ih =>
    intro h
    have h1 := h x (List.mem_cons_self ..)
    have h2 := ih fun y hy => h y (List.mem_cons_of_mem _ hy)
    rw [Sp.total, List.length_cons]
    omega
theorem Sp.few_of (l : List Sp.Sym) (h : Sp.few l = true) : (∀ x ∈ l, x.text.length ≤ 200) ∧ l.length ≤ 80 ∧ Sp.total l ≤ 1000 := by
  unfold Sp.few at h
  simp only [Bool.and_eq_true, decide_eq_true_eq, List.all_eq_true] at h
  exact ⟨h.1, h.2.1, h.2.2⟩
theorem Sp.few_body (l : List Sp.Sym) (r n : Nat) (h : Sp.few l = true) : (Sp.bodyText r none (l.take n)).length ≤ 65536 := by
  obtain ⟨h1, h2, h3⟩ := Sp.few_of l h
  have h4 := Sp.bodyText_len r (l.take n) none
  have h5 := Sp.total_take l n
  rw [List.length_take] at h4
  omega
set_option maxRecDepth 100000 in
set_option maxHeartbeats 4000000 in
theorem few_c (g o c : Nat) (l : List Sp.Sym) (hl : l.length ≤ 9223372036854775807) (w : World) (H : Row w g o l) (hg : g < w.heap.size) :
    Calls Tryz.prog 35 #[.slice (some ⟨g, o, none⟩) l.length c] w fun e w' => e = .returned (.bool (Sp.few l)) ∧ Below w.heap.size w w' := by
  go_enter Tryz.func35, Tryz.ntmps35
  go_wp2
  go_loopw [3, 8] (fun n t wr => ∃ (k : Nat) (m : Int), k ≤ l.length ∧ t = .int .i64 k ∧ n = .int .i64 m ∧ Below w.heap.size w wr ∧ Hid ((k ≤ 80 → m = (Sp.total (l.take k) : Int)) ∧ ∀ x ∈ l.take k, x.text.length ≤ 200)) (fun _ t _ => l.length - (intOf t).toNat)
  case atStart => exact ⟨0, 0, by omega, rfl, rfl, Below.refl _ _, Lib.hid ⟨fun _ => rfl, fun x hx => by simp at hx⟩⟩
  case round =>
    obtain ⟨k, m, hk, rfl, rfl, hB, hh⟩ := hrel
    by_cases hlt : k < l.length
    · obtain ⟨x, hx⟩ : ∃ x, l[k]? = some x := ⟨l[k], List.getElem?_eq_getElem hlt⟩
      obtain ⟨q0, q1, q2⟩ := H.later hB k x hx
      have hgr : g < wr.heap.size := Nat.lt_of_lt_of_le hg hB.size
      have hgn := Nat.ne_of_lt hgr
      have hB2 : Below w.heap.size w (wr.alloc (.cells #[.int .i64 x.kind, .string ⟨x.text.toArray⟩, .int .i64 x.pos] 28)) := bjoin hB hB.size (below_alloc0 (Below.refl _ _) _)
      have Hx := Lib.hid hx
      clear hx
      by_cases h200 : x.text.length ≤ 200
      · have e1 : decide (200 < (x.text.length : Int)) = false := decide_eq_false (by omega)
        have e2 : decide (200 < x.text.length) = false := decide_eq_false (by omega)
        go_wp2
        go_roundw
        case rel =>
          refine ⟨k + 1, _, by omega, by go_num, rfl, hB2, Lib.hid ⟨fun h80 => ?_, fun y hy => ?_⟩⟩
          · have h1 := hh.out.1 (by omega)
            have h2 := Sp.total_le _ hh.out.2
            rw [List.length_take] at h2
            rw [Sp.total_snoc l k x Hx.out, h1]
            exact (IntWalk.wrap64_in _ (by omega)).trans (by omega)
          · obtain ⟨hlt', he⟩ := List.getElem?_eq_some_iff.1 Hx.out
            rw [List.take_succ_eq_append_getElem hlt', he, List.mem_append, List.mem_singleton] at hy
            rcases hy with hy | rfl
            · exact hh.out.2 y hy
            · exact h200
        case measure => simp [intOf]; omega
      · have e1 : decide (200 < (x.text.length : Int)) = true := decide_eq_true (by omega)
        have e2 : decide (200 < x.text.length) = true := decide_eq_true (by omega)
        have hfin : Sp.few l = false := by
          rw [Bool.eq_false_iff]
          intro hf
          exact h200 ((Sp.few_of l hf).1 x (List.mem_of_getElem? Hx.out))
        have Hfin := Lib.hid hfin
        clear hfin h200
        go_wp2
        go_ret
        exact ⟨by rw [Hfin.out]; rfl, hB2⟩
    · have hkl : k = l.length := by omega
      have hall : (l.all fun x => decide (x.text.length ≤ 200)) = true := by
        rw [List.all_eq_true]
        intro x hx
        exact decide_eq_true (hh.out.2 x (by rw [hkl, List.take_length]; exact hx))
      have hfin : Sp.few l = (decide (l.length ≤ 80) && decide (Sp.total l ≤ 1000)) := by unfold Sp.few; rw [hall]; rfl
      by_cases h80 : l.length ≤ 80
      · have hmt : m = (Sp.total l : Int) := by rw [hh.out.1 (by omega), hkl, List.take_length]
        have e1 : decide ((l.length : Int) ≤ 80) = true := decide_eq_true (by omega)
        have e2 : decide (l.length ≤ 80) = true := decide_eq_true h80
        rw [e2, Bool.true_and] at hfin
        subst hmt
        generalize Sp.total l = T at *
        have Hfin := Lib.hid hfin
        clear hfin hall hh hkl
        go_wp2
        all_goals (go_ret; exact ⟨by rw [Hfin.out]; exact ret_bool (by simp <;> omega), hB⟩)
      · have e1 : decide ((l.length : Int) ≤ 80) = false := decide_eq_false (by omega)
        have e2 : decide (l.length ≤ 80) = false := decide_eq_false h80
        rw [e2, Bool.false_and] at hfin
        have Hfin := Lib.hid hfin
        clear hfin hall hh hkl
        go_wp2
        all_goals (go_ret; exact ⟨by rw [Hfin.out]; rfl, hB⟩)
set_option maxRecDepth 100000 in
set_option maxHeartbeats 4000000 in
theorem few_nil (a : Option Addr) (c : Nat) (w : World) : Calls Tryz.prog 35 #[.slice a 0 c] w fun e w' => e = .returned (.bool true) ∧ Below w.heap.size w w' := by
  go_enter Tryz.func35, Tryz.ntmps35
  go_wp2
  go_loopw [3, 8] (fun n t wr => t = .int .i64 0 ∧ n = .int .i64 0 ∧ wr = w) (fun _ _ _ => 0)
  case atStart => exact ⟨rfl, rfl, rfl⟩
  case round =>
    obtain ⟨rfl, rfl, rfl⟩ := hrel
    go_wp2
    go_ret
    exact ⟨rfl, Below.refl _ _⟩
set_option maxRecDepth 100000 in
set_option maxHeartbeats 4000000 in
theorem text_argv (v : Value) (r : Int) (h : r < 0 ∨ 2 < r) (l : List Sp.Sym) (w : World) :
    Calls Tryz.prog 38 #[v, .int .i64 r] w (TextPost w (Sp.text l r)) := by
  have hfin : Sp.text l r = ([], 1) := by unfold Sp.text; rw [if_pos h]
  unfold TextPost
  rw [hfin]
  clear hfin
  rcases h with h | h
  · have e1 := decide_eq_true h
    clear h
    go_enter Tryz.func38, Tryz.ntmps38
    go_wp2
    all_goals (go_ret2; exact ⟨rfl, Below.refl _ _⟩)
  · have e1 := decide_eq_true h
    have e0 : decide (r < 0) = false := decide_eq_false (by omega)
    clear h
    go_enter Tryz.func38, Tryz.ntmps38
    go_wp2
    all_goals (go_ret2; exact ⟨rfl, Below.refl _ _⟩)
theorem Sp.text_nil (r : Int) (h0 : 0 ≤ r) (h2 : r ≤ 2) : Sp.text [] r = ([], 0) := by
  unfold Sp.text
  rw [if_neg (by omega)]
  rfl
set_option maxRecDepth 100000 in
set_option maxHeartbeats 4000000 in
theorem indexFunc_nil (a : Option Addr) (c : Nat) (v : Value) (w : World) :
    Calls Tryz.prog 21 #[.slice a 0 c, v] w fun e w' => e = .returned (.int .i64 (-1)) ∧ w' = w := by
  go_enter Tryz.func21, Tryz.ntmps21
  go_wp2
  go_loopw [8] (fun t wr => t = .int .i64 0 ∧ wr = w) (fun _ _ => 0)
  case atStart => exact ⟨rfl, rfl⟩
  case round =>
    obtain ⟨rfl, rfl⟩ := hrel
    go_wp2
    go_ret
    exact ⟨rfl, rfl⟩
set_option maxRecDepth 100000 in
set_option maxHeartbeats 8000000 in
theorem text_nil (a : Option Addr) (c : Nat) (r : Nat) (hr : r ≤ 2) (w : World) :
    Calls Tryz.prog 38 #[.slice a 0 c, .int .i64 (r : Int)] w (TextPost w (Sp.text [] (r : Int))) := by
  rw [Sp.text_nil _ (by omega) (by omega)]
  unfold TextPost
  have e1 : decide ((r : Int) < 0) = false := by simp
  have e2 : decide ((2 : Int) < (r : Int)) = false := by simp; omega
  have e3 : decide (2 < r) = false := by simp; omega
  go_enter Tryz.func38, Tryz.ntmps38
  go_wp2_with (first
    | (go_at_call 21; refine (indexFunc_nil _ _ _ _).mono ?_; rintro e w1 ⟨rfl, rfl⟩))
  have hB0 : Below w1.heap.size w1 (w1.alloc (.cells #[.pointer none, .slice none 0 0] 106)) := below_alloc0 (Below.refl _ _) _
  have hI0 := BIs.fresh w1
  generalize (w1.alloc (.cells #[.pointer none, .slice none 0 0] 106)) = W0 at *
  go_loopw [38] (fun t wr => t = .int .i64 0 ∧ Below w1.heap.size w1 wr ∧ BIs w1.heap.size w1.heap.size [] wr) (fun _ _ => 0)
  case atStart => exact ⟨rfl, hB0, hI0⟩
  case round =>
    obtain ⟨rfl, hB, hI⟩ := hrel
    go_wp2_with (first
      | (go_at_call 76; refine (b_len _ _ [] _ hI).mono ?_; rintro e w2 ⟨rfl, rfl⟩)
      | (go_at_call 77; refine (b_string _ _ [] _ hI (Nat.le_refl _)).mono ?_; rintro e w3 ⟨rfl, hb3⟩))
    go_ret2
    exact ⟨rfl, hB.trans hb3⟩
set_option maxRecDepth 100000 in
set_option maxHeartbeats 8000000 in
theorem rtext_nil (a : Option Addr) (c : Nat) (r : Nat) (hr : r ≤ 2) (w : World) :
    Calls Tryz.prog 39 #[.slice a 0 c, .int .i64 (r : Int)] w (TextPost w (Sp.text [] (r : Int))) := by
  rw [Sp.text_nil _ (by omega) (by omega)]
  unfold TextPost
  have e1 : decide ((r : Int) < 0) = false := by simp
  have e2 : decide ((2 : Int) < (r : Int)) = false := by simp; omega
  have e3 : decide (2 < r) = false := by simp; omega
  go_enter Tryz.func39, Tryz.ntmps39
  go_wp2
  go_loopw [6] (fun t wr => t = .int .i64 0 ∧ wr = w) (fun _ _ => 0)
  case atStart => exact ⟨rfl, rfl⟩
  case round =>
    obtain ⟨rfl, rfl⟩ := hrel
    go_wp2
    go_loopw [7] (fun t wv => t = .int .i64 0 ∧ wv = wr) (fun _ _ => 0)
    case atStart => exact ⟨rfl, rfl⟩
    case round =>
      obtain ⟨rfl, rfl⟩ := hrel
      go_wp2
      go_loopw [9, 10] (fun v t wu => t = .int .i64 0 ∧ v = .string ⟨#[]⟩ ∧ wu = wr) (fun _ _ _ => 0)
      case atStart => exact ⟨rfl, rfl, rfl⟩
      case round =>
        obtain ⟨rfl, rfl, rfl⟩ := hrel
        go_wp2
        go_ret2
        exact ⟨rfl, Below.refl _ _⟩
theorem few_v (v : Value) (l : List Sp.Sym) (hl : l.length ≤ 9223372036854775807) (w : World) (H : Lies w v l) :
    Calls Tryz.prog 35 #[v] w fun e w' => e = .returned (.bool (Sp.few l)) ∧ Below w.heap.size w w' := by
  rcases H with ⟨a, c, rfl, rfl⟩ | ⟨g, o, c, rfl, h2, h3, h4⟩
  · exact few_nil a c w
  · exact few_c g o c l hl w h4 h3
theorem few_small (l : List Sp.Sym) (h : Sp.few l = true) : Small l := fun x hx => by
  have h1 := (Sp.few_of l h).1 x hx
  refine ⟨by omega, fun hc => ?_⟩
  by_cases hk : x.kind = 0
  · have : x.text = [] := by
      unfold Sp.check at hc
      rw [if_neg (by omega), if_pos hk] at hc
      by_cases ht : x.text = []
      · exact ht
      · rw [if_neg ht] at hc; exact absurd hc (by decide)
    rw [this]
    intro c hc'; cases hc'
  · exact Sp.wf_ascii (Sp.check_form x hc hk)
theorem text_v (v : Value) (l : List Sp.Sym) (hf : Sp.few l = true) (r : Int) (w : World) (H : Lies w v l) (hS : SignsIn w) (hM : MaxIn w) :
    Calls Tryz.prog 38 #[v, .int .i64 r] w (TextPost w (Sp.text l r)) := by
  by_cases h : r < 0 ∨ 2 < r
  · exact text_argv v r h l w
  obtain ⟨n, rfl⟩ : ∃ n : Nat, r = (n : Int) := ⟨r.toNat, by omega⟩
  have h80 := (Sp.few_of l hf).2.1
  rcases H with ⟨a, c, rfl, rfl⟩ | ⟨g, o, c, rfl, h2, h3, h4⟩
  · exact text_nil a c n (by omega) w
  · exact text_c g o c l (by omega) h2 (few_small l hf) n (by omega) w h4 hS hM
theorem rtext_v (v : Value) (l : List Sp.Sym) (hf : Sp.few l = true) (r : Int) (w : World) (H : Lies w v l) :
    Calls Tryz.prog 39 #[v, .int .i64 r] w (TextPost w (Sp.text l r)) := by
  by_cases h : r < 0 ∨ 2 < r
  · exact rtext_arg v r h l w
  obtain ⟨n, rfl⟩ : ∃ n : Nat, r = (n : Int) := ⟨r.toNat, by omega⟩
  have h80 := (Sp.few_of l hf).2.1
  rcases H with ⟨a, c, rfl, rfl⟩ | ⟨g, o, c, rfl, h2, h3, h4⟩
  · exact rtext_nil a c n (by omega) w
  · exact rtext_c2 g o c l (by omega) h2 (fun x hx => by have := (Sp.few_of l hf).1 x hx; omega) n (by omega) (Sp.few_body l n _ hf) w h4
set_option maxRecDepth 100000 in
set_option maxHeartbeats 4000000 in
theorem writes_not (v : Value) (l : List Sp.Sym) (hl : l.length ≤ 9223372036854775807) (hf : Sp.few l = false) (r : Int) (w : World) (H : Lies w v l) (hS : SignsIn w) (hM : MaxIn w) :
    Calls Tryz.prog 7 #[v, .int .i64 r] w fun e w' => e = .returned (.bool true) ∧ Below w.heap.size w w' := by
  have tok1 : Nat := 0
  go_enter Tryz.func7, Tryz.ntmps7
  go_wp2_with (first
    | (go_at_call 34; have tk := tok1; clear tok1; refine (awake_c _ hS hM).mono ?_; rintro e w1 ⟨rfl, hb1⟩; have hL1 := H.later hb1; have tok2 : Nat := 0)
    | (go_at_call 35; have tk := tok2; clear tok2; refine (few_v _ l hl _ hL1).mono ?_; rw [hf]; rintro e w2 ⟨rfl, hb2⟩; have hB2 := bjoin hb1 hb1.size hb2))
  all_goals (go_ret; exact ⟨rfl, hB2⟩)
set_option maxRecDepth 100000 in
set_option maxHeartbeats 8000000 in
theorem writes_nil (a : Option Addr) (c : Nat) (r : Int) (w : World) (hS : SignsIn w) (hM : MaxIn w) :
    Calls Tryz.prog 7 #[.slice a 0 c, .int .i64 r] w fun e w' => e = .returned (.bool true) ∧ Below w.heap.size w w' := by
  have hLie : ∀ w, Lies w (.slice a 0 c) [] := fun w => .inl ⟨a, c, rfl, rfl⟩
  have ht := fun w hS hM => text_v (.slice a 0 c) [] rfl r w (hLie w) hS hM
  have hr := fun w => rtext_v (.slice a 0 c) [] rfl r w (hLie w)
  generalize Sp.text [] r = X at ht hr
  unfold TextPost at ht hr
  have Ht := Lib.hid ht
  have Hr := Lib.hid hr
  clear ht hr hLie
  have tok1 : Nat := 0
  go_enter Tryz.func7, Tryz.ntmps7
  go_wp2_with (first
    | (go_at_call 34; have tk := tok1; clear tok1; refine (awake_c _ hS hM).mono ?_; rintro e w1 ⟨rfl, hb1⟩; have hS1 := hS.later hb1; have hM1 := hM.later hb1; have tok2 : Nat := 0)
    | (go_at_call 35; have tk := tok2; clear tok2; refine (few_nil _ _ _).mono ?_; rintro e w2 ⟨rfl, hb2⟩; have hB2 := bjoin hb1 hb1.size hb2))
  go_loopw [18] (fun t wr => t = .int .i64 0 ∧ Below w.heap.size w wr) (fun _ _ => 0)
  case atStart => exact ⟨rfl, hB2⟩
  case round =>
    obtain ⟨rfl, hB⟩ := hrel
    have hSB := hS.later hB
    have hMB := hM.later hB
    clear hB2 hb1 hb2 hS1 hM1
    go_wp2_with (first
      | (go_at_call 38; refine (Ht.out _ hSB hMB).mono ?_; rintro e w3 ⟨rfl, hb3⟩; have hB3 := bjoin hB hB.size hb3)
      | (go_at_call 39; refine (Hr.out _).mono ?_; rintro e w4 ⟨rfl, hb4⟩; have hB4 := bjoin hB3 hB3.size hb4))
    all_goals (go_ret; exact ⟨ret_bool (by simp), hB4⟩)
set_option maxRecDepth 100000 in
set_option maxHeartbeats 8000000 in
theorem writes_main (g o c : Nat) (l : List Sp.Sym) (hlc : l.length ≤ c) (hf : Sp.few l = true) (r : Int) (w : World) (hg : g < w.heap.size) (H : Row w g o l) (hS : SignsIn w) (hM : MaxIn w) :
    Calls Tryz.prog 7 #[.slice (some ⟨g, o, none⟩) l.length c, .int .i64 r] w fun e w' => e = .returned (.bool true) ∧ Below w.heap.size w w' := by
  have hfl := Sp.few_of l hf
  have h80 := hfl.2.1
  have hLie : Lies w (.slice (some ⟨g, o, none⟩) l.length c) l := .inr ⟨g, o, c, rfl, hlc, hg, H⟩
  have ht := fun w H hS hM => text_v (.slice (some ⟨g, o, none⟩) l.length c) l hf r w H hS hM
  have hr := fun w H => rtext_v (.slice (some ⟨g, o, none⟩) l.length c) l hf r w H
  generalize Sp.text l r = X at ht hr
  unfold TextPost at ht hr
  have Ht := Lib.hid ht
  have Hr := Lib.hid hr
  have HL := Lib.hid hLie
  have Hf := Lib.hid hf
  have Hfl := Lib.hid hfl.1
  clear ht hr hLie hf hfl
  have tok1 : Nat := 0
  go_enter Tryz.func7, Tryz.ntmps7
  go_wp2_with (first
    | (go_at_call 34; have tk := tok1; clear tok1; refine (awake_c _ hS hM).mono ?_; rintro e w1 ⟨rfl, hb1⟩; have hL1 := HL.out.later hb1; have tok2 : Nat := 0)
    | (go_at_call 35; have tk := tok2; clear tok2; refine (few_v _ l (by omega) _ hL1).mono ?_; rw [Hf.out]; rintro e w2 ⟨rfl, hb2⟩; have hB2 := bjoin hb1 hb1.size hb2))
  clear hL1
  go_loopw [18] (fun t wr => ∃ k : Nat, k ≤ l.length ∧ t = .int .i64 k ∧ Below w.heap.size w wr) (fun t _ => l.length - (intOf t).toNat)
  case atStart => exact ⟨0, by omega, rfl, hB2⟩
  case round =>
    obtain ⟨k, hk, rfl, hB⟩ := hrel
    clear hB2 hb1 hb2
    by_cases hlt : k < l.length
    · obtain ⟨x, hx⟩ : ∃ x, l[k]? = some x := ⟨l[k], List.getElem?_eq_getElem hlt⟩
      obtain ⟨q0, q1, q2⟩ := H.later hB k x hx
      have hxl := Hfl.out x (List.mem_of_getElem? hx)
      have hgr : g < wr.heap.size := Nat.lt_of_lt_of_le hg hB.size
      have hgn := Nat.ne_of_lt hgr
      have hB1 : Below w.heap.size w (wr.alloc (.cells #[.int .i64 x.kind, .string ⟨x.text.toArray⟩, .int .i64 x.pos] 28)) := bjoin hB hB.size (below_alloc0 (Below.refl _ _) _)
      have L1 := heap_alloc_new wr (.cells #[.int .i64 x.kind, .string ⟨x.text.toArray⟩, .int .i64 x.pos] 28)
      have hc1 := check_any x (by omega) trivial
      have hc2 := rcheck_c x (by omega)
      unfold symV at hc1
      generalize Sp.check x = z at hc1 hc2
      have hz : (z != z) = false := by simp
      have Hc1 := Lib.hid hc1
      have Hc2 := Lib.hid hc2
      have kx0 := cell_of_blk L1 0
      have kx1 := cell_of_blk L1 1
      have kx2 := cell_of_blk L1 2
      have hS1 := hS.later hB1
      have hM1 := hM.later hB1
      clear hx hc1 hc2 hxl
      go_wp2
      clear q0 q1 q2
      generalize (wr.alloc (.cells #[.int .i64 x.kind, .string ⟨x.text.toArray⟩, .int .i64 x.pos] 28)) = W1 at *
      have g0 := fun d os => cell_regrown kx0 d os
      have g1 := fun d os => cell_regrown kx1 d os
      have g2 := fun d os => cell_regrown kx2 d os
      have hq1 : ∀ d os, Calls Tryz.prog 36 #[.agg #[.int .i64 x.kind, .string ⟨x.text.toArray⟩, .int .i64 x.pos]] (grow (redrawn W1 d) os) fun e w'' => e = .returned (.int .i64 z) ∧ ∃ q : Regrown, w'' = grow (redrawn W1 q.d) q.os := fun d os => Calls.regrown_of (Hc1.out _ (hS1.later (below_regrown W1 d os)) (hM1.later (below_regrown W1 d os)))
      have hq2 : ∀ d os, Calls Tryz.prog 37 #[.agg #[.int .i64 x.kind, .string ⟨x.text.toArray⟩, .int .i64 x.pos]] (grow (redrawn W1 d) os) fun e w'' => e = .returned (.int .i64 z) ∧ ∃ q : Regrown, w'' = grow (redrawn W1 q.d) q.os := fun d os => Calls.regrown_of (Hc2.out _)
      refine wp_region_quiet_below (by kernel_rfl) (by kernel_rfl) ?_
      repeat (go_big_quiet_step (first | exact hq1 _ _ | exact hq2 _ _))
      refine wpQuiet_nil ?_
      rintro _ ⟨⟨dq, osq⟩, rfl⟩
      have hbV := below_regrown W1 dq osq
      have hBV := bjoin hB1 hB1.size hbV
      clear g0 g1 g2 hq1 hq2
      generalize grow (redrawn W1 dq) osq = V at *
      go_wp2
      go_roundw
      case rel => exact ⟨k + 1, by omega, by go_num, hBV⟩
      case measure => simp [intOf] <;> omega
    · have hLB := HL.out.later hB
      have hSB := hS.later hB
      have hMB := hM.later hB
      go_wp2_with (first
        | (go_at_call 38; refine (Ht.out _ hLB hSB hMB).mono ?_; rintro e w3 ⟨rfl, hb3⟩; have hB3 := bjoin hB hB.size hb3; have hL3 := hLB.later hb3)
        | (go_at_call 39; refine (Hr.out _ hL3).mono ?_; rintro e w4 ⟨rfl, hb4⟩; have hB4 := bjoin hB3 hB3.size hb4))
      all_goals (go_ret; exact ⟨ret_bool (by simp), hB4⟩)
theorem writes_law (v : Value) (l : List Sp.Sym) (hl : l.length ≤ 9223372036854775807) (r : Int) (w : World) (H : Lies w v l) (hS : SignsIn w) (hM : MaxIn w) :
    Calls Tryz.prog 7 #[v, .int .i64 r] w fun e w' => e = .returned (.bool true) ∧ Below w.heap.size w w' := by
  cases hf : Sp.few l with
  | false => exact writes_not v l hl hf r w H hS hM
  | true =>
    rcases H with ⟨a, c, rfl, rfl⟩ | ⟨g, o, c, rfl, h2, h3, h4⟩
    · exact writes_nil a c r w hS hM
    · exact writes_main g o c l h2 hf r w h3 h4 hS hM
end Go.Proofs.YtjghijeblddijaaGreatDoor
namespace Go.Proofs.YtjghijeblddijaaGreatDoor
open Go.ChangeShapes Go.WideShapes Go.ChangeAt Go.RowKit
open Go.ChangeMaps (open_string shut_string)

set_option maxRecDepth 100000 in
theorem stropWrites_contract (H : Type) (enc : TypeId × Value → H) (W : World) (base : Nat) (args : Array Value) (ds gs : List (DataW H)) (before : List MemPlace)
    (hval : ∀ (j : Nat) t v, Tryz.f7.params[j]? = some t → args[j]? = some v → Value.okWide Tryz.prog W .any base t v)
    (hW : DataW.Whole enc Tryz.prog Tryz.f7.params.toList Rows.stropWritesSpec.vars false W args.toList ds gs before) (hL : laidMetH Tryz.prog Rows.stropRegimesRow.laid W) (hsh : W.ShapedOpen Tryz.prog) :
    Calls Tryz.prog 7 args W fun e W' => ∃ v, e = .returned v ∧ Rows.stropWritesSpec.post enc Tryz.prog Tryz.f7 false true false false W args v W' := by
  have hW' := hW
  obtain ⟨p, q, hA0, hV, rfl, hfz, hnd⟩ := hW
  have hA : DataW.TrodAll enc Tryz.prog W 0 (fun _ => true) true Tryz.f7.params.toList args.toList ds p := hA0
  rw [Tryz.params7] at hA hval
  obtain ⟨v0, vs0, d0, ds0, p0, q0, ha0, rfl, rfl, h0, r0⟩ := trodAll_cons hA
  obtain ⟨v1, vs1, d1, ds1, p1, q1, rfl, rfl, rfl, h1, r1⟩ := trodAll_cons r0
  obtain ⟨rfl, rfl, rfl⟩ := trodAll_nil r1
  obtain rfl : args = #[v0, v1] := by cases args; simp_all
  obtain ⟨rfl, rfl⟩ := trodVars_none hV
  obtain ⟨a0, len0, cap0, rfl⟩ := okWide_slice Tryz.underlying22 (hval 0 22 v0 rfl rfl)
  have hk0 := h0
  obtain ⟨fuel0, hf0⟩ := h0
  obtain ⟨x0, hl0, hx0⟩ := open_syms hf0
  obtain ⟨x1, rfl, rfl, rfl, w1⟩ := open_int Tryz.underlying3 (hval 1 3 v1 rfl rfl) h1
  clear hA0
  simp only [List.append_nil] at hW'
  refine (writes_law (.slice a0 len0 cap0) x0 hl0 x1 W hx0 (signs_of_laid hL) (max_of_shape hsh)).mono fun e W' ⟨he, hg⟩ => ?_
  subst he
  have hlt := fun x hx => hW'.lt x hx
  exact ⟨_, rfl, post_of_below (pa := (p0 ++ ([] ++ []))) (pv := []) hW' (fun _ _ _ => trodAll_cons_mk (shut_bool Tryz.underlying4 _) trodAll_mk0)
    (fun sp hsp => trodAll_cons_mk (Go.WideElems.Trod_stays laid_out (by kernel_rfl) (of_decide_eq_true (by kernel_rfl)) hk0 (fun x hx => hg.same (hlt x (by simp [hx]))) (fun x hx => hsp x (by simp [hx]))) (trodAll_cons_mk (shut_int Tryz.underlying3 w1) trodAll_mk0)) (fun _ _ => rfl) (by simp)
    hg (ok_one (by kernel_rfl) rfl (okWide_bool_mk Tryz.underlying4 _))⟩
set_option maxRecDepth 100000 in
theorem stropWrites_reads (os : Os) {H : Type} (enc : TypeId × Value → H) : ∃ places, DataW.whole enc Tryz.prog ((laidW os).forCall (fun _ _ => 0) ⟨#[], #[.slice none 0 0, .int .i64 0], []⟩).memory Tryz.f7.params.toList Rows.stropWritesSpec.vars false #[Value.slice none 0 0, .int .i64 0].toList 8 = some ([.nil, .lit (.int .i64 0)], [], places) :=
  ⟨[], by kernel_rfl⟩
set_option maxRecDepth 100000 in
theorem stropWrites_lifted (os : Os) (started : os.Started) (H : Type) (enc : TypeId × Value → H) (F : Stop.Interp) :
    ReturnsInHanded {} Tryz.checked os 7 .any ((OpenSpec.ofChange Rows.stropWritesSpec).preRow enc Tryz.prog Tryz.f7 Rows.stropWritesRow.domain false Rows.stropWritesRow.laid) (((OpenSpec.ofChange Rows.stropWritesSpec).at F).post enc Tryz.prog Tryz.f7 false true false false) := by
  obtain ⟨places, hx⟩ := stropWrites_reads os enc
  refine returnsInHanded_of_row (C := Tryz.checked) (s := OpenSpec.ofChange Rows.stropWritesSpec) own_knob started (by kernel_rfl) Tryz.func7
    (witness_of_shape (enc := enc) (C := Tryz.checked) false (laidW os) #[.slice none 0 0, .int .i64 0] (World.laidAll_os _ _ _) (World.shaped_of_ZipB (by kernel_rfl) (by kernel_rfl)) (by kernel_rfl)
      (OpenSpec.preRow_of_cond 8 hx (by kernel_rfl) (fun k hk => by cases hk) (by kernel_rfl) (laidW_met os _))) ?_
  intro W base args ds gs before hval hW _ _ _ hL hsh _
  exact stropWrites_contract H enc W base args ds gs before hval hW hL hsh
theorem stropWrites_facts : joinedFacts Tryz.pinned.checked.prog 7 Tryz.f7 (OpenSpec.ofChange Rows.stropWritesSpec).bare Rows.stropWritesRow = true := by kernel_rfl
theorem stropWrites_named : Tryz.pinned.checked.prog.funcNamed Rows.stropWritesRow.func = some 7 := by kernel_rfl
theorem stropWrites_inst : (Tryz.f7).isInstance Tryz.pinned.checked.prog Rows.stropWritesRow.origin Rows.stropWritesRow.targs := of_decide_eq_true (by kernel_rfl)
theorem stropWrites_wrap : (Tryz.f7).isWrapper Tryz.pinned.checked.prog Rows.stropWritesRow.wrapper Rows.stropWritesRow.mainSum := by unfold Func.isWrapper; first | (rw [if_pos (by decide +kernel)]; kernel_rfl) | (rw [if_neg (by decide +kernel)]; exact ⟨rfl, rfl⟩)
theorem stropWrites_said : Rows.StropWritesSaid :=
  OpenClaim.holds_of_cond 7 Tryz.f7 rfl rfl rfl rfl rfl rfl rfl ⟨rfl, rfl, rfl, rfl, rfl⟩ rfl rfl rfl rfl rfl stropWrites_named Tryz.func7 stropWrites_facts stropWrites_inst stropWrites_wrap
    (fun os started H enc _ F => by rw [OpenClaim.pre_eq_preRow]; exact stropWrites_lifted os started H enc F)
theorem stropWrites_plain (f : FuncId) (fn : Func) (hf : Tryz.pinned.checked.prog.funcNamed "environ/environlaw04.StropWrites" = some f) (hfn : Tryz.pinned.checked.prog.funcs[f]? = some fn) :
    true = Tryz.pinned.checked.prog.looks [] ∧ ∀ (j : Nat) t, fn.params[j]? = some t → Tryz.pinned.checked.prog.wantsStandIn t = false := by
  obtain rfl : f = 7 := Option.some.inj ((show Tryz.prog.funcNamed "environ/environlaw04.StropWrites" = some 7 by kernel_rfl).symm.trans hf) |>.symm
  obtain rfl : fn = Tryz.f7 := (Option.some.inj (Tryz.func7.symm.trans hfn)).symm
  refine ⟨by kernel_rfl, fun j t ht => ?_⟩
  rw [Tryz.params7] at ht
  have hm : t ∈ [22, 3] := by simpa using Array.mem_of_getElem? ht
  have hall : ([22, 3].all fun u => !Tryz.prog.wantsStandIn u) = true := by kernel_rfl
  exact (show Tryz.prog.wantsStandIn t = false by simpa using List.all_eq_true.1 hall t hm)
/-- The card. -/
theorem stropWrites_holds : Rows.StropWritesCardSaid :=
  Claim7.holds_tied_plain_at .later [] _ _ _ _ stropWrites_said (fun _ h => by cases h) (by kernel_rfl) (fun _ h => by cases h) stropWrites_row_tie rfl ⟨rfl, rfl⟩ (by kernel_rfl) rfl stropWrites_plain (by kernel_rfl)
#print axioms stropWrites_holds
end Go.Proofs.YtjghijeblddijaaGreatDoor
