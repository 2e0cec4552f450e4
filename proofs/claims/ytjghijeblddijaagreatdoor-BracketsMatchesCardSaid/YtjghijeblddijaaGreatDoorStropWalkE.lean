/- Walks: bold. -/
import Derived.Test.YtjghijeblddijaaGreatDoorStropWalkC
import Derived.Test.YtjghijeblddijaaGreatDoorShelf
import Derived.Lib.Case
import Derived.Shelf.Abstract
namespace Go.Proofs.YtjghijeblddijaaGreatDoor
open Go.RowKit

theorem bold1_tells (w : World) : Tells w 198 #[] Sp.alnum := by
  refine ⟨enters_of Tryz.func198 (by kernel_rfl) rfl, fun W c hW => ?_⟩
  go_enter Tryz.func198, Tryz.ntmps198
  go_wp2_with (first | (go_at_call 199; refine (small_c _ _).mono ?_; rintro e w' ⟨rfl, rfl⟩) | (go_at_call 200; refine (capital_c _ _).mono ?_; rintro e w' ⟨rfl, rfl⟩) | (go_at_call 137; refine (digit_c _ _).mono ?_; rintro e w' ⟨rfl, rfl⟩))
  all_goals (go_ret; exact ⟨ret_bool (by simp [Sp.alnum, *]), rfl⟩)
theorem bold2_tells (w : World) : Tells w 202 #[] (fun c => Sp.capital c || Sp.digit c) := by
  refine ⟨enters_of Tryz.func202 (by kernel_rfl) rfl, fun W c hW => ?_⟩
  go_enter Tryz.func202, Tryz.ntmps202
  go_wp2_with (first | (go_at_call 200; refine (capital_c _ _).mono ?_; rintro e w' ⟨rfl, rfl⟩) | (go_at_call 137; refine (digit_c _ _).mono ?_; rintro e w' ⟨rfl, rfl⟩))
  all_goals (go_ret; exact ⟨ret_bool (by simp [*]), rfl⟩)

/-- What bold hands back. -/
def boldV (x : Option (List UInt8 × Nat)) (i : Nat) : Value :=
  match x with
  | some (w, n) => .tuple #[.string ⟨w.toArray⟩, .int .i64 ((i + n : Nat) : Int), .bool true]
  | none => .tuple #[.string ⟨#[]⟩, .int .i64 (i : Int), .bool false]

theorem up_upperB (c : UInt8) : Sp.up c = Lib.upperB c := by
  unfold Sp.up Lib.upperB Sp.small
  rfl
theorem up_fun : Lib.upperB = Sp.up := funext fun c => (up_upperB c).symm
theorem alnum_ascii (c : UInt8) (h : Sp.alnum c = true) : c.toNat < 128 := by
  simp only [Sp.alnum, Bool.or_eq_true, Sp.small_iff, Sp.capital_iff, Sp.digit_iff] at h
  omega
theorem run_all (p : UInt8 → Bool) (l : List UInt8) : ∀ c ∈ l.take (Sp.run p l), p c = true := by
  induction l with
  | nil => simp
  | cons c t ih =>
    simp only [Sp.run]
    split
    · rename_i h
      intro x hx
      rw [List.take_succ_cons] at hx
      rcases List.mem_cons.1 hx with rfl | hx
      · exact h
      · exact ih x hx
    · simp
theorem upper_word (l : List UInt8) (n : Nat) (hn : n = Sp.run Sp.alnum l) : ∀ (j : Nat) (b : UInt8), (l.take n)[j]? = some b → b.toNat < 128 := by
  intro j b hb
  exact alnum_ascii b (run_all Sp.alnum l b (by rw [← hn]; exact List.mem_of_getElem? hb))

set_option maxRecDepth 100000 in
theorem bold_upper (g : Nat) (s : ByteArray) (at_ : Int) (i : Nat) (hi : i < s.size) (hs : s.size ≤ 140737488355328) (w : World) (H : ScnR w g s at_ 0) :
    Calls Tryz.prog 133 #[.pointer (some ⟨g, 0, none⟩), .int .i64 (i : Int)] w fun e w' => e = .returned (boldV (Sp.bold 0 ((bs s).drop i)) i) ∧ w = w' := by
  have R := H
  obtain ⟨c0, c1, c2⟩ := H
  have hd := Lib.hid (bs_drop s i hi)
  by_cases hc : Sp.capital s[i] = true
  · have hb := Lib.hid (run_bound (fun c => Sp.capital c || Sp.digit c) s i (by omega))
    generalize hn : Sp.run (fun c => Sp.capital c || Sp.digit c) ((bs s).drop i) = n at hb
    have Hn := Lib.hid hn
    clear hn
    have hle : i + n ≤ s.size := hb.out
    go_enter Tryz.func133, Tryz.ntmps133
    go_wp2_with (first | (go_at_call 200; refine (capital_c _ _).mono ?_; rintro e w' ⟨rfl, rfl⟩) | (go_at_call 201; refine (run_i i g s at_ 0 _ rfl (by omega) hs _ _ _ _ R (bold2_tells _)).mono ?_; rw [Hn.out]; rintro e w' ⟨rfl, rfl⟩))
    have hfin : Sp.bold 0 ((bs s).drop i) = some (((bs s).drop i).take n, n) := by
      rw [← Hn.out]; conv => lhs; rw [hd.out]
      rw [hd.out]; simp [Sp.bold, hc]
    go_ret3
    refine ⟨?_, rfl⟩
    rw [hfin, extract_eq]
    simp [boldV]
  · go_enter Tryz.func133, Tryz.ntmps133
    go_wp2_with (go_at_call 200; refine (capital_c _ _).mono ?_; rintro e w' ⟨rfl, rfl⟩)
    have hfin : Sp.bold 0 ((bs s).drop i) = none := by rw [hd.out]; simp [Sp.bold, hc]
    go_ret3
    exact ⟨by rw [hfin]; rfl, rfl⟩

theorem bold_end (g : Nat) (s : ByteArray) (at_ rg : Int) (i : Nat) (hi : s.size ≤ i) (w : World) (H : ScnR w g s at_ rg) :
    Calls Tryz.prog 133 #[.pointer (some ⟨g, 0, none⟩), .int .i64 (i : Int)] w fun e w' => e = .returned (boldV (Sp.bold rg.toNat ((bs s).drop i)) i) ∧ w = w' := by
  obtain ⟨c0, c1, c2⟩ := H
  have hfin : Hid (Sp.bold rg.toNat ((bs s).drop i) = none) := Lib.hid (by rw [bs_drop_end s i hi]; rfl)
  go_enter Tryz.func133, Tryz.ntmps133
  go_wp2
  go_ret3
  exact ⟨by rw [hfin.out]; rfl, rfl⟩

theorem getD_drop (s : ByteArray) (i j : Nat) : ((bs s).drop i).getD j 0 = (bs s).getD (i + j) 0 := by
  simp [List.getD_eq_getElem?_getD, List.getElem?_drop]
theorem bs_getD_end (s : ByteArray) (k : Nat) (h : s.size ≤ k) : (bs s).getD k 0 = 0 := by
  rw [List.getD_eq_getElem?_getD, List.getElem?_eq_none (by simpa using h)]; rfl

set_option maxRecDepth 100000 in
set_option maxHeartbeats 1000000 in
theorem bold_point (g : Nat) (s : ByteArray) (at_ : Int) (i : Nat) (hi : i < s.size) (hs : s.size ≤ 140737488355328) (w : World) (H : ScnR w g s at_ 1) (hm : s[i] = Sp.mark (1 : Int).toNat) (hi1 : i + 1 < s.size) (hsm : Sp.small (Sp.low s[i + 1]) = true) :
    Calls Tryz.prog 133 #[.pointer (some ⟨g, 0, none⟩), .int .i64 (i : Int)] w fun e w' => e = .returned (boldV (Sp.bold (1 : Int).toNat ((bs s).drop i)) i) ∧ Below w.heap.size w w' := by
  have R := H
  obtain ⟨c0, c1, c2⟩ := H
  have hd := Lib.hid (bs_drop s i hi)
  have hg0 := Lib.hid (getD_drop s (i + 1) 0)
  have hb := Lib.hid (run_bound Sp.alnum s (i + 1) (by omega))
  have hasc := Lib.hid (upper_word ((bs s).drop (i + 1)))
  generalize hn : Sp.run Sp.alnum ((bs s).drop (i + 1)) = n at hb hasc
  have Hn := Lib.hid hn
  clear hn
  have hle : i + 1 + n ≤ s.size := hb.out
  have hgn := Lib.hid (getD_drop s (i + 1) n)
  have hx : (s.extract (i + 1) (i + 1 + n)).size ≤ 140737488355328 := by simp; omega
  have hup := fun W => Tryz.strings_ToUpper_ascii (s.extract (i + 1) (i + 1 + n)) W hx (by rw [← bs, bs_extract]; simpa using hasc.out n rfl)
  have Hup := Lib.hid hup
  clear hup
  have hm' : (s[i].toNat : Int) = 46 := by rw [hm]; rfl
  have e1 : ((s[i].toNat : Int) != 46) = false := by simp [hm']
  have Hm' := Lib.hid hm'
  clear hm'
  go_enter Tryz.func133, Tryz.ntmps133
  go_wp2_with (first | (go_at_call 203; refine (low_c _ _).mono ?_; rintro e w' ⟨rfl, rfl⟩) | (go_at_call 199; refine (small_c _ _).mono ?_; rintro e w' ⟨rfl, rfl⟩) | (go_at_call 201; refine (run_i (i + 1) g s at_ 1 _ (by omega) (by omega) hs _ _ _ _ R (bold1_tells _)).mono ?_; rw [Hn.out]; rintro e w' ⟨rfl, rfl⟩) | (go_at_call 204; refine (Hup.out _).mono ?_; rintro e w' ⟨rfl, hb1⟩; have d0 := cell_later hb1 c0; have d2 := cell_later hb1 c2))
  have hfin : Sp.bold 1 ((bs s).drop i) = some ((((bs s).drop (i + 1)).take n).map Sp.up, n + 1) := by
    rw [hd.out]
    have h1 : ((bs s).drop (i + 1)).getD 0 0 = s[i + 1] := by rw [hg0.out]; exact bs_get s (i + 1) hi1
    simp only [Sp.bold, h1, hsm, hm, Hn.out]
    rfl
  go_ret3
  refine ⟨?_, hb1⟩
  show _ = Ending.returned (boldV (Sp.bold 1 _) i)
  rw [hfin, ← up_fun]
  simp [boldV, Lib.toUpperA]
  omega

set_option maxRecDepth 100000 in
set_option maxHeartbeats 1000000 in
theorem bold_quote (g : Nat) (s : ByteArray) (at_ : Int) (i : Nat) (hi : i < s.size) (hs : s.size ≤ 140737488355328) (w : World) (H : ScnR w g s at_ 2) (hm : s[i] = Sp.mark (2 : Int).toNat) (hi1 : i + 1 < s.size) (hsm : Sp.small (Sp.low s[i + 1]) = true) :
    Calls Tryz.prog 133 #[.pointer (some ⟨g, 0, none⟩), .int .i64 (i : Int)] w fun e w' => e = .returned (boldV (Sp.bold (2 : Int).toNat ((bs s).drop i)) i) ∧ Below w.heap.size w w' := by
  have R := H
  obtain ⟨c0, c1, c2⟩ := H
  have hd := Lib.hid (bs_drop s i hi)
  have hg0 := Lib.hid (getD_drop s (i + 1) 0)
  have hb := Lib.hid (run_bound Sp.alnum s (i + 1) (by omega))
  have hasc := Lib.hid (upper_word ((bs s).drop (i + 1)))
  generalize hn : Sp.run Sp.alnum ((bs s).drop (i + 1)) = n at hb hasc
  have Hn := Lib.hid hn
  clear hn
  have hle : i + 1 + n ≤ s.size := hb.out
  have hgn := Lib.hid (getD_drop s (i + 1) n)
  have hx : (s.extract (i + 1) (i + 1 + n)).size ≤ 140737488355328 := by simp; omega
  have hup := fun W => Tryz.strings_ToUpper_ascii (s.extract (i + 1) (i + 1 + n)) W hx (by rw [← bs, bs_extract]; simpa using hasc.out n rfl)
  have Hup := Lib.hid hup
  clear hup
  have hm' : (s[i].toNat : Int) = 39 := by rw [hm]; rfl
  have e1 : ((s[i].toNat : Int) != 39) = false := by simp [hm']
  have Hm' := Lib.hid hm'
  clear hm'
  by_cases hen : i + 1 + n < s.size
  · have hgn2 := Lib.hid (bs_get s (i + 1 + n) hen)
    by_cases hq : (s[i + 1 + n].toNat : Int) = 39
    · have e2 : ((s[i + 1 + n].toNat : Int) != 39) = false := by simp [hq]
      have hq' : s[i + 1 + n] = 39 := by rw [← UInt8.toNat_inj]; show s[i + 1 + n].toNat = 39; omega
      have Hq := Lib.hid hq'
      clear hq hq'
      go_enter Tryz.func133, Tryz.ntmps133
      go_wp2_with (first | (go_at_call 203; refine (low_c _ _).mono ?_; rintro e w' ⟨rfl, rfl⟩) | (go_at_call 199; refine (small_c _ _).mono ?_; rintro e w' ⟨rfl, rfl⟩) | (go_at_call 201; refine (run_i (i + 1) g s at_ 2 _ (by omega) (by omega) hs _ _ _ _ R (bold1_tells _)).mono ?_; rw [Hn.out]; rintro e w' ⟨rfl, rfl⟩) | (go_at_call 204; refine (Hup.out _).mono ?_; rintro e w' ⟨rfl, hb1⟩; have d0 := cell_later hb1 c0; have d2 := cell_later hb1 c2))
      have hfin : Sp.bold 2 ((bs s).drop i) = some ((((bs s).drop (i + 1)).take n).map Sp.up, n + 2) := by
        rw [hd.out]
        have h1 : ((bs s).drop (i + 1)).getD 0 0 = s[i + 1] := by rw [hg0.out]; exact bs_get s (i + 1) hi1
        simp only [Sp.bold, h1, hsm, hm, Hn.out, hgn.out, hgn2.out, Hq.out]
        rfl
      go_ret3
      refine ⟨?_, hb1⟩
      show _ = Ending.returned (boldV (Sp.bold 2 _) i)
      rw [hfin, ← up_fun]
      simp [boldV, Lib.toUpperA]
      omega
    · have e2 : ((s[i + 1 + n].toNat : Int) != 39) = true := by simp [hq]
      have hq' : ¬ s[i + 1 + n] = 39 := by rw [← UInt8.toNat_inj]; show ¬ s[i + 1 + n].toNat = 39; omega
      have Hq := Lib.hid hq'
      clear hq hq'
      go_enter Tryz.func133, Tryz.ntmps133
      go_wp2_with (first | (go_at_call 203; refine (low_c _ _).mono ?_; rintro e w' ⟨rfl, rfl⟩) | (go_at_call 199; refine (small_c _ _).mono ?_; rintro e w' ⟨rfl, rfl⟩) | (go_at_call 201; refine (run_i (i + 1) g s at_ 2 _ (by omega) (by omega) hs _ _ _ _ R (bold1_tells _)).mono ?_; rw [Hn.out]; rintro e w' ⟨rfl, rfl⟩) | (go_at_call 204; refine (Hup.out _).mono ?_; rintro e w' ⟨rfl, hb1⟩; have d0 := cell_later hb1 c0; have d2 := cell_later hb1 c2))
      have hfin : Sp.bold 2 ((bs s).drop i) = none := by
        rw [hd.out]
        have h1 : ((bs s).drop (i + 1)).getD 0 0 = s[i + 1] := by rw [hg0.out]; exact bs_get s (i + 1) hi1
        have h2 : (s[i + 1 + n] == Sp.mark 2) = false := by simpa [Sp.mark] using Hq.out
        simp only [Sp.bold, h1, hsm, hm, Hn.out, hgn.out, hgn2.out]
        simp [h2]
      go_ret3
      refine ⟨?_, hb1⟩
      show _ = Ending.returned (boldV (Sp.bold 2 _) i)
      rw [hfin]; rfl
  · go_enter Tryz.func133, Tryz.ntmps133
    go_wp2_with (first | (go_at_call 203; refine (low_c _ _).mono ?_; rintro e w' ⟨rfl, rfl⟩) | (go_at_call 199; refine (small_c _ _).mono ?_; rintro e w' ⟨rfl, rfl⟩) | (go_at_call 201; refine (run_i (i + 1) g s at_ 2 _ (by omega) (by omega) hs _ _ _ _ R (bold1_tells _)).mono ?_; rw [Hn.out]; rintro e w' ⟨rfl, rfl⟩) | (go_at_call 204; refine (Hup.out _).mono ?_; rintro e w' ⟨rfl, hb1⟩; have d0 := cell_later hb1 c0; have d2 := cell_later hb1 c2))
    have hfin : Sp.bold 2 ((bs s).drop i) = none := by
      rw [hd.out]
      have h1 : ((bs s).drop (i + 1)).getD 0 0 = s[i + 1] := by rw [hg0.out]; exact bs_get s (i + 1) hi1
      simp only [Sp.bold, h1, hsm, hm, Hn.out, hgn.out, bs_getD_end s _ (Nat.le_of_not_lt hen)]
      simp [Sp.mark]
    go_ret3
    refine ⟨?_, hb1⟩
    show _ = Ending.returned (boldV (Sp.bold 2 _) i)
    rw [hfin]; rfl

theorem bold_none1 (c : UInt8) (t : List UInt8) (h : (c == Sp.mark 1 && Sp.small (Sp.low (t.getD 0 0))) = false) : Sp.bold 1 (c :: t) = none := by
  simp only [Sp.bold, h]; rfl
theorem bold_none2 (c : UInt8) (t : List UInt8) (h : (c == Sp.mark 2 && Sp.small (Sp.low (t.getD 0 0))) = false) : Sp.bold 2 (c :: t) = none := by
  simp only [Sp.bold, h]; rfl
set_option maxRecDepth 100000 in
set_option maxHeartbeats 1000000 in
theorem bold_mark (g : Nat) (s : ByteArray) (at_ rg : Int) (hrg : rg = 1 ∨ rg = 2) (i : Nat) (hi : i < s.size) (hs : s.size ≤ 140737488355328) (w : World) (H : ScnR w g s at_ rg) :
    Calls Tryz.prog 133 #[.pointer (some ⟨g, 0, none⟩), .int .i64 (i : Int)] w fun e w' => e = .returned (boldV (Sp.bold rg.toNat ((bs s).drop i)) i) ∧ Below w.heap.size w w' := by
  have R := H
  obtain ⟨c0, c1, c2⟩ := H
  have hd := Lib.hid (bs_drop s i hi)
  have hg0 := Lib.hid (getD_drop s (i + 1) 0)
  by_cases hm : s[i] = Sp.mark rg.toNat
  · by_cases hi1 : i + 1 < s.size
    · by_cases hsm : Sp.small (Sp.low s[i + 1]) = true
      · rcases hrg with rfl | rfl
        · exact bold_point g s at_ i hi hs w R hm hi1 hsm
        · exact bold_quote g s at_ i hi hs w R hm hi1 hsm
      · have hfin : Hid (Sp.bold rg.toNat ((bs s).drop i) = none) := Lib.hid (by
          rw [hd.out]
          have h1 : ((bs s).drop (i + 1)).getD 0 0 = s[i + 1] := by rw [hg0.out]; exact bs_get s (i + 1) hi1
          rcases hrg with rfl | rfl
          · exact bold_none1 _ _ (by rw [h1]; simp [hsm])
          · exact bold_none2 _ _ (by rw [h1]; simp [hsm]))
        have hm' : (s[i].toNat : Int) = if rg = 2 then 39 else 46 := by rw [hm]; rcases hrg with rfl | rfl <;> rfl
        rcases hrg with rfl | rfl
        all_goals
          have Hm' := Lib.hid hm'
          clear hm' hm
        · have e1 : ((s[i].toNat : Int) != 46) = false := by rw [Hm'.out]; rfl
          go_enter Tryz.func133, Tryz.ntmps133
          go_wp2_with (first | (go_at_call 203; refine (low_c _ _).mono ?_; rintro e w' ⟨rfl, rfl⟩) | (go_at_call 199; refine (small_c _ _).mono ?_; rintro e w' ⟨rfl, rfl⟩))
          go_ret3
          exact ⟨congrArg (fun x => Ending.returned (boldV x i)) hfin.out.symm, Below.refl _ _⟩
        · have e1 : ((s[i].toNat : Int) != 39) = false := by rw [Hm'.out]; rfl
          go_enter Tryz.func133, Tryz.ntmps133
          go_wp2_with (first | (go_at_call 203; refine (low_c _ _).mono ?_; rintro e w' ⟨rfl, rfl⟩) | (go_at_call 199; refine (small_c _ _).mono ?_; rintro e w' ⟨rfl, rfl⟩))
          go_ret3
          exact ⟨congrArg (fun x => Ending.returned (boldV x i)) hfin.out.symm, Below.refl _ _⟩
    · have hfin : Hid (Sp.bold rg.toNat ((bs s).drop i) = none) := Lib.hid (by
        rw [hd.out]
        have h1 : ((bs s).drop (i + 1)).getD 0 0 = 0 := by rw [hg0.out]; exact bs_getD_end s _ (by omega)
        have h2 : Sp.small (Sp.low 0) = false := by decide
        rcases hrg with rfl | rfl
        · exact bold_none1 _ _ (by rw [h1, h2]; simp)
        · exact bold_none2 _ _ (by rw [h1, h2]; simp))
      have hm' : (s[i].toNat : Int) = if rg = 2 then 39 else 46 := by rw [hm]; rcases hrg with rfl | rfl <;> rfl
      have Hm' := Lib.hid hm'
      clear hm' hm
      rcases hrg with rfl | rfl
      · have e1 : ((s[i].toNat : Int) != 46) = false := by rw [Hm'.out]; rfl
        go_enter Tryz.func133, Tryz.ntmps133
        go_wp2
        go_ret3
        exact ⟨congrArg (fun x => Ending.returned (boldV x i)) hfin.out.symm, Below.refl _ _⟩
      · have e1 : ((s[i].toNat : Int) != 39) = false := by rw [Hm'.out]; rfl
        go_enter Tryz.func133, Tryz.ntmps133
        go_wp2
        go_ret3
        exact ⟨congrArg (fun x => Ending.returned (boldV x i)) hfin.out.symm, Below.refl _ _⟩
  · have hfin : Hid (Sp.bold rg.toNat ((bs s).drop i) = none) := Lib.hid (by
      rw [hd.out]
      rcases hrg with rfl | rfl
      · exact bold_none1 _ _ (by rw [show (s[i] == Sp.mark 1) = false from beq_eq_false_iff_ne.2 hm]; rfl)
      · exact bold_none2 _ _ (by rw [show (s[i] == Sp.mark 2) = false from beq_eq_false_iff_ne.2 hm]; rfl))
    rcases hrg with rfl | rfl
    · have e1 : ((s[i].toNat : Int) != 46) = true := by
        rw [bne_iff_ne]; intro h; exact hm (by rw [← UInt8.toNat_inj]; show s[i].toNat = 46; omega)
      go_enter Tryz.func133, Tryz.ntmps133
      go_wp2
      go_ret3
      exact ⟨congrArg (fun x => Ending.returned (boldV x i)) hfin.out.symm, Below.refl _ _⟩
    · have e1 : ((s[i].toNat : Int) != 39) = true := by
        rw [bne_iff_ne]; intro h; exact hm (by rw [← UInt8.toNat_inj]; show s[i].toNat = 39; omega)
      go_enter Tryz.func133, Tryz.ntmps133
      go_wp2
      go_ret3
      exact ⟨congrArg (fun x => Ending.returned (boldV x i)) hfin.out.symm, Below.refl _ _⟩

theorem bold_c (g : Nat) (s : ByteArray) (at_ rg : Int) (h0 : 0 ≤ rg) (h2 : rg ≤ 2) (i : Nat) (hs : s.size ≤ 140737488355328) (w : World) (H : ScnR w g s at_ rg) :
    Calls Tryz.prog 133 #[.pointer (some ⟨g, 0, none⟩), .int .i64 (i : Int)] w fun e w' => e = .returned (boldV (Sp.bold rg.toNat ((bs s).drop i)) i) ∧ Below w.heap.size w w' := by
  by_cases hi : i < s.size
  · by_cases hr : rg = 0
    · subst hr
      exact (bold_upper g s at_ i hi hs w H).mono fun e w' ⟨he, hw⟩ => ⟨he, hw ▸ Below.refl _ _⟩
    · exact bold_mark g s at_ rg (by omega) i hi hs w H
  · exact (bold_end g s at_ rg i (by omega) w H).mono fun e w' ⟨he, hw⟩ => ⟨he, hw ▸ Below.refl _ _⟩
/-- The two ways, told apart. -/
theorem bold_yes (g : Nat) (s : ByteArray) (at_ rg : Int) (h0 : 0 ≤ rg) (h2 : rg ≤ 2) (i : Nat) (hs : s.size ≤ 140737488355328) (w : World) (H : ScnR w g s at_ rg) (wd : List UInt8) (n : Nat) (hb : Sp.bold rg.toNat ((bs s).drop i) = some (wd, n)) :
    Calls Tryz.prog 133 #[.pointer (some ⟨g, 0, none⟩), .int .i64 (i : Int)] w fun e w' => e = .returned (.tuple #[.string ⟨wd.toArray⟩, .int .i64 ((i + n : Nat) : Int), .bool true]) ∧ Below w.heap.size w w' :=
  (bold_c g s at_ rg h0 h2 i hs w H).mono fun e w' ⟨he, hw⟩ => ⟨by rw [he, hb]; rfl, hw⟩
theorem bold_no (g : Nat) (s : ByteArray) (at_ rg : Int) (h0 : 0 ≤ rg) (h2 : rg ≤ 2) (i : Nat) (hs : s.size ≤ 140737488355328) (w : World) (H : ScnR w g s at_ rg) (hb : Sp.bold rg.toNat ((bs s).drop i) = none) :
    Calls Tryz.prog 133 #[.pointer (some ⟨g, 0, none⟩), .int .i64 (i : Int)] w fun e w' => e = .returned (.tuple #[.string ⟨#[]⟩, .int .i64 (i : Int), .bool false]) ∧ Below w.heap.size w w' :=
  (bold_c g s at_ rg h0 h2 i hs w H).mono fun e w' ⟨he, hw⟩ => ⟨by rw [he, hb]; rfl, hw⟩
end Go.Proofs.YtjghijeblddijaaGreatDoor
