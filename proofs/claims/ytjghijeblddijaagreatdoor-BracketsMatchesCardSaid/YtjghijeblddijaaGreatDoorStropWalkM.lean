/- Walks: cutLeft. -/
import Derived.Test.YtjghijeblddijaaGreatDoorStropKit
namespace Go.Proofs.YtjghijeblddijaaGreatDoor
open Go.RowKit

/-- A step of a range over ASCII. -/
theorem next_ascii (W : World) (g : Nat) (s : ByteArray) (pos : Nat) (hW : W.heap[g]? = some (.stringIter s pos)) (h : pos < s.size) (ha : s[pos].toNat < 128) :
    ∃ W1, (∀ ty, (Instr.next (.pointer (some ⟨g, 0, none⟩)) true ty).run Tryz.prog W = .ok (.tuple #[.bool true, .int .i64 pos, .int .i32 (s[pos].toNat : Int)]) W1) ∧
      W1.heap[g]? = some (.stringIter s (pos + 1)) ∧ Below g W W1 ∧ W1.heap.size = W.heap.size := by
  have hg : g < W.heap.size := (Array.getElem?_eq_some_iff.1 hW).1
  refine ⟨{ W with heap := W.heap.setIfInBounds g (.stringIter s (pos + 1)) }, fun ty => ?_, ?_, ⟨rfl, rfl, rfl, by simp, fun k hk => ?_⟩, by simp⟩
  · simp only [Instr.next, getObj, setObj, Sem.run_bind, Sem.run, hW, Result.andThen, h, if_true, decode_ascii s pos h ha]
    simp [goInt]
  · simp [hg]
  · simp [Array.getElem?_setIfInBounds]; omega
theorem next_end (W : World) (g : Nat) (s : ByteArray) (pos : Nat) (hW : W.heap[g]? = some (.stringIter s pos)) (h : ¬ pos < s.size) :
    ∀ ty, (Instr.next (.pointer (some ⟨g, 0, none⟩)) true ty).run Tryz.prog W = .ok (.tuple #[.bool false]) W := by
  intro ty
  simp [Instr.next, getObj, Sem.run, hW, h]
theorem iterPos_of {W : World} {g : Nat} {s : ByteArray} {pos : Nat} (hW : W.heap[g]? = some (.stringIter s pos)) : W.iterPos g = pos := by simp [World.iterPos, hW]
theorem iter_at (W : World) (s : ByteArray) : (W.iter s 0).heap[W.heap.size]? = some (.stringIter s 0) := World.iter_heap W s 0
theorem iter_below {B : Nat} {w W : World} (h : Below B w W) (hB : B ≤ W.heap.size) (s : ByteArray) : Below B w (W.iter s 0) := h.alloc hB _
theorem iter_size (W : World) (s : ByteArray) : (W.iter s 0).heap.size = W.heap.size + 1 := by simp [World.iter]

theorem mem_take (set : ByteArray) (q : Nat) (h : q < set.size) (c : UInt8) : ((bs set).take (q + 1)).contains c = (((bs set).take q).contains c || c == set[q]) := by
  rw [List.take_succ_eq_append_getElem (by simpa using h)]
  rw [Bool.eq_iff_iff]
  simp [List.mem_append]
  rfl

set_option maxRecDepth 100000 in
set_option maxHeartbeats 2000000 in
theorem cutLeft_c (s set : ByteArray) (ha : ∀ k, (h : k < s.size) → s[k].toNat < 128) (hb : ∀ k, (h : k < set.size) → set[k].toNat < 128) (w : World) :
    Calls Tryz.prog 264 #[.string s, .string set] w fun e w' => e = .returned (.string ⟨((bs s).dropWhile fun c => (bs set).contains c).toArray⟩) ∧ Below w.heap.size w w' := by
  have Ha := Lib.hid ha
  have Hb := Lib.hid hb
  clear ha hb
  go_enter Tryz.func264, Tryz.ntmps264
  go_wp2
  go_loopw [5, 6, 7, 9] (fun _ _ _ _ W => ∃ pos : Nat, pos ≤ s.size ∧ W.heap[w.heap.size]? = some (.stringIter s pos) ∧ Below w.heap.size w W ∧ w.heap.size < W.heap.size ∧
      Hid ((bs s).dropWhile (fun c => (bs set).contains c) = ((bs s).drop pos).dropWhile fun c => (bs set).contains c)) (fun _ _ _ _ W => s.size - W.iterPos w.heap.size)
  case atStart => exact ⟨0, Nat.zero_le _, iter_at w s, iter_below (Below.refl _ _) (Nat.le_refl _) s, by rw [iter_size]; omega, Lib.hid rfl⟩
  case round =>
    obtain ⟨pos, hp, hW, hB, hsz, hh⟩ := hrel
    by_cases hlt : pos < s.size
    · obtain ⟨W1, hnx, hW1, hB1, hs1⟩ := next_ascii wr w.heap.size s pos hW hlt (Ha.out pos hlt)
      have hBW : Below w.heap.size w W1 := hB.trans hB1
      have hpos := Lib.hid (iterPos_of hW)
      have hszW : w.heap.size < W1.heap.size := by omega
      clear hs1
      have hd := Lib.hid (bs_drop s pos hlt)
      go_wp2
      clear hnx hB1 hW hB hsz
      go_loopw [7, 9] (fun n _ V => ∃ (q : Nat) (b : Bool), q ≤ set.size ∧ n = .bool b ∧ V.heap[W1.heap.size]? = some (.stringIter set q) ∧ Below W1.heap.size W1 V ∧ W1.heap.size < V.heap.size ∧ Hid (b = ((bs set).take q).contains s[pos])) (fun _ _ V => set.size - V.iterPos W1.heap.size)
      case atStart => exact ⟨0, false, Nat.zero_le _, rfl, iter_at W1 set, iter_below (Below.refl _ _) (Nat.le_refl _) set, by rw [iter_size]; omega, Lib.hid (by simp)⟩
      case round =>
        obtain ⟨q, b, hq, rfl, hV, hBV, hszV, hb⟩ := hrel
        by_cases hltq : q < set.size
        · obtain ⟨V1, hnx, hV1, hBV1, hsV1⟩ := next_ascii wr W1.heap.size set q hV hltq (Hb.out q hltq)
          have hszV1 : W1.heap.size < V1.heap.size := by omega
          clear hsV1
          have hmt := Lib.hid (mem_take set q hltq s[pos])
          cases b with
          | true =>
            go_wp2
            go_roundw
            case rel => exact ⟨q + 1, true, by omega, rfl, hV1, hBV.trans hBV1, by omega, Lib.hid (by rw [hmt.out, ← hb.out]; rfl)⟩
            case measure => rw [iterPos_of hV1, iterPos_of hV]; omega
          | false =>
            by_cases heq : s[pos] = set[q]
            · have e1 : ((s[pos].toNat : Int) == (set[q].toNat : Int)) = true := by rw [heq]; simp
              have Heq := Lib.hid heq
              clear heq
              go_wp2
              go_roundw
              case rel => exact ⟨q + 1, true, by omega, rfl, hV1, hBV.trans hBV1, by omega, Lib.hid (by rw [hmt.out, ← hb.out, Heq.out]; simp)⟩
              case measure => rw [iterPos_of hV1, iterPos_of hV]; omega
            · have e1 : ((s[pos].toNat : Int) == (set[q].toNat : Int)) = false := by
                rw [beq_eq_false_iff_ne]; intro h; exact heq (UInt8.toNat_inj.1 (by omega))
              have Heq := Lib.hid heq
              clear heq
              go_wp2
              go_roundw
              case rel => exact ⟨q + 1, false, by omega, rfl, hV1, hBV.trans hBV1, by omega, Lib.hid (by rw [hmt.out, ← hb.out, beq_eq_false_iff_ne.2 Heq.out]; rfl)⟩
              case measure => rw [iterPos_of hV1, iterPos_of hV]; omega
        · have hnx := next_end wr W1.heap.size set q hV hltq
          have hb' : b = (bs set).contains s[pos] := by rw [hb.out, List.take_of_length_le (by simp; omega)]
          have Hb' := Lib.hid hb'
          have hBw : Below w.heap.size w wr := hBW.trans (hBV.mono (by omega))
          have hWw : wr.heap[w.heap.size]? = some (.stringIter s (pos + 1)) := (hBV.block _ hszW).trans hW1
          clear hb'
          cases b with
          | true =>
            go_wp2
            go_roundw
            case rel => exact ⟨pos + 1, by omega, hWw, hBw, by omega, Lib.hid (by rw [hh.out, hd.out, List.dropWhile_cons_of_pos (by rw [← Hb'.out])])⟩
            case measure => rw [iterPos_of hWw, hpos.out]; omega
          | false =>
            go_wp2
            go_ret
            rw [hh.out, hd.out, List.dropWhile_cons_of_neg (by rw [← Hb'.out]; simp), ← hd.out]
            refine ⟨?_, hBw⟩
            rw [extract_eq, List.take_of_length_le (by simp)]; rfl
    · have hnx := next_end wr w.heap.size s pos hW hlt
      go_wp2
      go_ret
      rw [hh.out, bs_drop_end s pos (by omega)]
      exact ⟨rfl, hB⟩

set_option maxRecDepth 100000 in
theorem decodeLast_ascii (s : ByteArray) (h : 0 < s.size) (ha : s[s.size - 1].toNat < 128) (hs : s.size ≤ 140737488355328) (w : World) :
    Calls Tryz.prog 186 #[.string s] w fun e w' => e = .returned (.tuple #[.int .i32 (s[s.size - 1].toNat : Int), .int .i64 1]) ∧ w = w' := by
  have x1 : (1 : Int) ≤ (s.size : Int) := by omega
  have x2 : (s.size : Int) - 1 < (s.size : Int) := by omega
  have x3 : ((s.size : Int) == 0) = false := by rw [beq_eq_false_iff_ne]; omega
  have x4 : Hid (wrap32 ((s[s.size - 1].toNat : Nat) : Int) = (s[s.size - 1].toNat : Int)) := Lib.hid (by unfold wrap32; omega)
  have x5 : wrap32 ((s[s.size - 1].toNat : Nat) : Int) < 128 := by rw [x4.out]; omega
  clear ha
  go_enter Tryz.func186, Tryz.ntmps186
  go_wp2
  go_ret2
  exact ⟨congrArg (fun z => Ending.returned (.tuple #[.int .i32 z, .int .i64 1])) x4.out, rfl⟩

theorem dropRight_last (l : List UInt8) (p : UInt8 → Bool) (h : l ≠ []) : (l.reverse.dropWhile p).reverse = if p (l.getLast h) = true then (l.dropLast.reverse.dropWhile p).reverse else l := by
  have e : l.reverse = l.getLast h :: l.dropLast.reverse := by
    conv => lhs; rw [← List.dropLast_concat_getLast h]
    simp
  rw [e]
  by_cases hp : p (l.getLast h) = true
  · rw [List.dropWhile_cons_of_pos hp, if_pos hp]
  · rw [List.dropWhile_cons_of_neg hp, if_neg hp, ← e, List.reverse_reverse]

set_option maxRecDepth 100000 in
set_option maxHeartbeats 2000000 in
theorem cutRight_c (s set : ByteArray) (hs : s.size ≤ 140737488355328) (ha : ∀ c ∈ bs s, c.toNat < 128) (hb : ∀ k, (h : k < set.size) → set[k].toNat < 128) (w : World) :
    Calls Tryz.prog 263 #[.string s, .string set] w fun e w' => e = .returned (.string ⟨((bs s).reverse.dropWhile fun c => (bs set).contains c).reverse.toArray⟩) ∧ Below w.heap.size w w' := by
  have Hb := Lib.hid hb
  clear hb
  go_enter Tryz.func263, Tryz.ntmps263
  go_wp2
  go_loopw [0, 5, 6, 7, 9] (fun x _ _ _ _ W => ∃ t : ByteArray, x = .string t ∧ t.size ≤ s.size ∧ Below w.heap.size w W ∧ Hid ((∀ c ∈ bs t, c.toNat < 128) ∧
      ((bs s).reverse.dropWhile fun c => (bs set).contains c).reverse = ((bs t).reverse.dropWhile fun c => (bs set).contains c).reverse)) (fun x _ _ _ _ _ => match x with | .string t => t.size | _ => 0)
  case atStart => exact ⟨s, rfl, Nat.le_refl _, Below.refl _ _, Lib.hid ⟨ha, rfl⟩⟩
  case round =>
    obtain ⟨t, rfl, hts, hB, hh⟩ := hrel
    by_cases h0 : 0 < t.size
    · have hne : bs t ≠ [] := by intro h; have := bs_length t; rw [h] at this; simp at this; omega
      have hlast : (bs t).getLast hne = t[t.size - 1] := by rw [List.getLast_eq_getElem]; simp; rfl
      have ha1 : t[t.size - 1].toNat < 128 := by rw [← hlast]; exact hh.out.1 _ (List.getLast_mem hne)
      have hdl := fun W => Lib.hid (decodeLast_ascii t h0 ha1 (by omega) W)
      have hdr := dropRight_last (bs t) (fun c => (bs set).contains c) hne
      rw [hlast] at hdr
      have Hdr := Lib.hid hdr
      have Hdl := Lib.hid hdl
      have Hlast := Lib.hid hlast
      clear hdr hdl ha1 hlast
      have x1 : (1 : Int) ≤ (t.size : Int) := by omega
      have x6 : (0 : Int) ≤ (t.size : Int) - 1 := by omega
      have x7 : (t.size : Int) - 1 ≤ (t.size : Int) := by omega
      go_wp2_with (go_at_call 186; refine ((Hdl.out _).out).mono ?_; rintro e w' ⟨rfl, rfl⟩)
      generalize hx : t[t.size - 1] = x at *
      have Hx := Lib.hid hx
      clear hx
      obtain ⟨W1, rfl⟩ : ∃ W1 : World, W1 = wr := ⟨_, rfl⟩
      go_loopw [7, 9] (fun n _ V => ∃ (q : Nat) (b : Bool), q ≤ set.size ∧ n = .bool b ∧ V.heap[W1.heap.size]? = some (.stringIter set q) ∧ Below W1.heap.size W1 V ∧ W1.heap.size < V.heap.size ∧ Hid (b = ((bs set).take q).contains x)) (fun _ _ V => set.size - V.iterPos W1.heap.size)
      case atStart => exact ⟨0, false, Nat.zero_le _, rfl, iter_at W1 set, iter_below (Below.refl _ _) (Nat.le_refl _) set, by rw [iter_size]; omega, Lib.hid (by simp)⟩
      case round =>
        obtain ⟨q, b, hq, rfl, hV, hBV, hszV, hb⟩ := hrel
        by_cases hltq : q < set.size
        · obtain ⟨V1, hnx, hV1, hBV1, hsV1⟩ := next_ascii wr W1.heap.size set q hV hltq (Hb.out q hltq)
          have hszV1 : W1.heap.size < V1.heap.size := by omega
          clear hsV1
          have hmt := Lib.hid (mem_take set q hltq x)
          cases b with
          | true =>
            go_wp2
            go_roundw
            case rel => exact ⟨q + 1, true, by omega, rfl, hV1, hBV.trans hBV1, by omega, Lib.hid (by rw [hmt.out, ← hb.out]; rfl)⟩
            case measure => rw [iterPos_of hV1, iterPos_of hV]; omega
          | false =>
            by_cases heq : x = set[q]
            · have e1 : ((x.toNat : Int) == (set[q].toNat : Int)) = true := by rw [heq]; simp
              have Heq := Lib.hid heq
              clear heq
              go_wp2
              go_roundw
              case rel => exact ⟨q + 1, true, by omega, rfl, hV1, hBV.trans hBV1, by omega, Lib.hid (by rw [hmt.out, ← hb.out, beq_iff_eq.2 Heq.out]; rfl)⟩
              case measure => rw [iterPos_of hV1, iterPos_of hV]; omega
            · have e1 : ((x.toNat : Int) == (set[q].toNat : Int)) = false := by
                rw [beq_eq_false_iff_ne]; intro h; exact heq (UInt8.toNat_inj.1 (by omega))
              have Heq := Lib.hid heq
              clear heq
              go_wp2
              go_roundw
              case rel => exact ⟨q + 1, false, by omega, rfl, hV1, hBV.trans hBV1, by omega, Lib.hid (by rw [hmt.out, ← hb.out, beq_eq_false_iff_ne.2 Heq.out]; rfl)⟩
              case measure => rw [iterPos_of hV1, iterPos_of hV]; omega
        · have hnx := next_end wr W1.heap.size set q hV hltq
          have hb' : b = (bs set).contains x := by rw [hb.out, List.take_of_length_le (by simp; omega)]
          have Hb' := Lib.hid hb'
          have hBw : Below w.heap.size w wr := bjoin hB hB.size hBV
          clear hb'
          cases b with
          | true =>
            go_wp2
            go_roundw
            case rel =>
              have hdl : bs (t.extract 0 (t.size - 1)) = (bs t).dropLast := by rw [bs_extract, List.dropLast_eq_take, bs_length]; simp
              refine ⟨t.extract 0 (t.size - 1), by simp, by simp; omega, hBw, Lib.hid ⟨?_, ?_⟩⟩
              · rw [hdl]; exact fun c hc => hh.out.1 c ((List.dropLast_sublist _).subset hc)
              · rw [hh.out.2, Hdr.out, if_pos Hb'.out.symm, hdl]
            case measure => simp; omega
          | false =>
            go_wp2
            go_ret
            rw [hh.out.2, Hdr.out, if_neg (by rw [← Hb'.out]; simp), of_bs]
            exact ⟨rfl, hBw⟩
    · go_wp2
      go_ret
      have e : bs t = [] := by rw [← List.length_eq_zero_iff, bs_length]; omega
      rw [hh.out.2]
      refine ⟨?_, hB⟩
      rw [← of_bs t, e]; rfl
end Go.Proofs.YtjghijeblddijaaGreatDoor
