/- A region that draws its order: an invariant over which operations have come up. Walks of chapter 05: what a conditional looks like (chain): a map and five rows, made in any order. Walks of chapter 05: none, forms. Printed by wip/tools/formsB.py. -/
import Derived.Test.YtjghijeblddijaaGreatDoorStropCheck
import Derived.Orders
import Derived.Test.YtjghijeblddijaaGreatDoorBrkWalkA
import Derived.Test.YtjghijeblddijaaGreatDoorStropWalkN
namespace Go.Proofs.YtjghijeblddijaaGreatDoor
open Go.RowKit
def cntF (l : Array Bool) : Nat := l.toList.count false
theorem cntF_set (l : Array Bool) (i : Nat) (h : l.getD i true = false) : cntF (l.setIfInBounds i true) + 1 = cntF l := by
  have hi : i < l.size := by
    rcases Nat.lt_or_ge i l.size with h' | h'
    · exact h'
    · simp [Array.getElem?_eq_none h'] at h
  have hv : l.toList[i]'(by simpa using hi) = false := by simpa [hi] using h
  unfold cntF
  rw [Array.toList_setIfInBounds, List.count_set (by simpa using hi), hv]
  have hpos : 0 < l.toList.count false := List.count_pos_iff.2 (by rw [← hv]; exact List.getElem_mem _)
  simp only [BEq.rfl, if_true]
  have : (true == false) = false := rfl
  rw [this]
  simp only [Bool.false_eq_true, if_false]
  omega
theorem wpAny_inv {P : Program} {md : Region.Mode} {ops : Array Oper} {Q : Exit → Act → World → Prop} (J : Array Bool → Act → World → Prop)
    (hs : ∀ (listed : Array Bool) (a : Act) (w : World) (i : Nat), J listed a w → i ∈ Region.ready md ops listed → wpOp P ops Q i (fun a' w' => J (listed.setIfInBounds i true) a' w') a w)
    (hd : ∀ (listed : Array Bool) (a : Act) (w : World), J listed a w → Region.ready md ops listed = [] → Q .normal a w) :
    ∀ (fuel : Nat) (listed : Array Bool) (a : Act) (w : World), cntF listed ≤ fuel → J listed a w → wpAny P md ops Q fuel listed a w := by
  intro fuel
  induction fuel with
  | zero =>
    intro listed a w hc hJ
    have hr : Region.ready md ops listed = [] := by
      rw [List.eq_nil_iff_forall_not_mem]
      intro j hj
      have h0 := (mem_ready.1 hj).1
      have := cntF_set listed j h0
      omega
    exact ⟨hr, hd listed a w hJ hr⟩
  | succ fuel ih =>
    intro listed a w hc hJ
    refine ⟨hd listed a w hJ, fun i hi => wpOp_mono (fun a' w' h' => ih _ a' w' ?_ h') (hs listed a w i hJ hi)⟩
    have := cntF_set listed i (mem_ready.1 hi).1
    omega
/-- Each operation waits for earlier ones alone. -/
def ordered (ops : Array Oper) : Bool := (List.range ops.size).all fun i => match ops[i]? with
  | some o => o.after.all fun e => decide (e.on < i)
  | none => true
theorem ordered_lt {ops : Array Oper} (h : ordered ops = true) {i : Nat} {o : Oper} (ho : ops[i]? = some o) : ∀ e ∈ o.after, e.on < i := by
  intro e he
  have hi : i < ops.size := (Array.getElem?_eq_some_iff.1 ho).1
  unfold ordered at h
  have h1 := List.all_eq_true.1 h i (List.mem_range.2 hi)
  rw [ho] at h1
  have h2 := Array.all_eq_true_iff_forall_mem.1 h1 e he
  exact of_decide_eq_true h2
theorem ready_nil {md : Region.Mode} {ops : Array Oper} (ho : ordered ops = true) {listed : Array Bool} (hs : listed.size = ops.size) (h : Region.ready md ops listed = []) : ∀ i, i < ops.size → listed.getD i false = true := by
  intro i
  induction i using Nat.strongRecOn with
  | ind i ih =>
    intro hi
    cases hb : listed.getD i false with
    | true => rfl
    | false =>
      exfalso
      have hm : i ∈ Region.ready md ops listed := by
        refine mem_ready.2 ⟨?_, ops[i], Array.getElem?_eq_getElem hi, fun e he _ => ?_⟩
        · have : i < listed.size := by omega
          simp [this] at hb ⊢
          exact hb
        · have := ordered_lt ho (Array.getElem?_eq_getElem hi) e he
          exact ih e.on this (by omega)
      rw [h] at hm
      cases hm
end Go.Proofs.YtjghijeblddijaaGreatDoor
set_option linter.unusedVariables false
set_option linter.unusedSectionVars false
namespace Go.Proofs.YtjghijeblddijaaGreatDoor
open Go.RowKit
theorem ff {p : Prop} (h : false = true) : p := by cases h
/-! A map with texts as keys: what it tells. -/
theorem findNow_app (kd : TypeDesc) (k : Value) (e : MapEntry) : ∀ (l : List MapEntry) (i : Nat), Instr.findNow kd k (l ++ [e]) i = match Instr.findNow kd k l i with
    | some none => (match Instr.sameNow kd k e.key with | some true => some (some (i + l.length, e.val)) | some false => some none | none => none)
    | r => r := by
  intro l
  induction l with
  | nil =>
    intro i
    simp only [List.nil_append, Instr.findNow, List.length_nil, Nat.add_zero]
    cases Instr.sameNow kd k e.key with
    | none => rfl
    | some b => cases b <;> rfl
  | cons x t ih =>
    intro i
    rw [List.cons_append, Instr.findNow, Instr.findNow]
    cases Instr.sameNow kd k x.key with
    | none => rfl
    | some b =>
      cases b with
      | true => rfl
      | false =>
        dsimp only
        rw [ih (i + 1), List.length_cons, show i + 1 + t.length = i + (t.length + 1) from by omega]
def find (es : Array MapEntry) (key : ByteArray) : Option (Option (Nat × Value)) := Instr.findNow .string (.string key) es.toList 0
theorem ba_beq (a b : ByteArray) : (a == b) = decide (a = b) := by
  obtain ⟨x⟩ := a
  obtain ⟨y⟩ := b
  have h : ((⟨x⟩ : ByteArray) == ⟨y⟩) = (x == y) := rfl
  rw [h, Bool.eq_iff_iff, beq_iff_eq, decide_eq_true_eq, ByteArray.mk.injEq]
theorem find_push (es : Array MapEntry) (key k : ByteArray) (v : Value) (c : Nat) (h : find es key = some none) :
    find (es.push ⟨.string k, v, c⟩) key = if key = k then some (some (es.size, v)) else some none := by
  unfold find at h ⊢
  rw [Array.toList_push, findNow_app, h]
  have hs : Instr.sameNow .string (.string key) (.string k) = some (key == k) := rfl
  dsimp only
  rw [hs]
  rw [ba_beq]
  by_cases hk : key = k
  · rw [if_pos hk, decide_eq_true hk]; simp
  · rw [if_neg hk, decide_eq_false hk]
theorem find_push_old (es : Array MapEntry) (key k : ByteArray) (v : Value) (c : Nat) (r : Nat × Value) (h : find es key = some (some r)) : find (es.push ⟨.string k, v, c⟩) key = some (some r) := by
  unfold find at h ⊢
  rw [Array.toList_push, findNow_app, h]
/-- What the map tells: of three keys, as far as they have been laid. -/
structure MTells (es : Array MapEntry) (b4 b9 b13 : Bool) (th ag : ByteArray) (s1 s2 s3 : Value) : Prop where
  t1 : b4 = true → ∃ i, find es ⟨#[]⟩ = some (some (i, s1))
  t2 : b9 = true → ∃ i, find es th = some (some (i, s2))
  t3 : b13 = true → ∃ i, find es ag = some (some (i, s3))
  no : ∀ key : ByteArray, (b4 = true → key ≠ ⟨#[]⟩) → (b9 = true → key ≠ th) → (b13 = true → key ≠ ag) → find es key = some none
theorem MTells.empty (th ag : ByteArray) (s1 s2 s3 : Value) : MTells #[] false false false th ag s1 s2 s3 :=
  ⟨fun h => ff h, fun h => ff h, fun h => ff h, fun _ _ _ _ => rfl⟩
section
variable {es : Array MapEntry} {b4 b9 b13 : Bool} {th ag : ByteArray} {s1 s2 s3 : Value} (h1 : th ≠ ⟨#[]⟩) (h2 : ag ≠ ⟨#[]⟩) (h3 : th ≠ ag)
include h1 h2 h3
theorem MTells.put1 (h : MTells es false b9 b13 th ag s1 s2 s3) (v : Value) (c : Nat) : MTells (es.push ⟨.string ⟨#[]⟩, v, c⟩) true b9 b13 th ag v s2 s3 := by
  refine ⟨fun _ => ⟨es.size, ?_⟩, fun hb => ?_, fun hb => ?_, fun key k1 k2 k3 => ?_⟩
  · rw [find_push es _ _ v c (h.no _ (fun h => ff h) (fun _ => h1.symm) (fun _ => h2.symm)), if_pos rfl]
  · obtain ⟨i, hi⟩ := h.t2 hb
    exact ⟨i, find_push_old es _ _ v c _ hi⟩
  · obtain ⟨i, hi⟩ := h.t3 hb
    exact ⟨i, find_push_old es _ _ v c _ hi⟩
  · rw [find_push es _ _ v c (h.no key (fun h => ff h) k2 k3), if_neg (k1 rfl)]
theorem MTells.put2 (h : MTells es b4 false b13 th ag s1 s2 s3) (v : Value) (c : Nat) : MTells (es.push ⟨.string th, v, c⟩) b4 true b13 th ag s1 v s3 := by
  refine ⟨fun hb => ?_, fun _ => ⟨es.size, ?_⟩, fun hb => ?_, fun key k1 k2 k3 => ?_⟩
  · obtain ⟨i, hi⟩ := h.t1 hb
    exact ⟨i, find_push_old es _ _ v c _ hi⟩
  · rw [find_push es _ _ v c (h.no _ (fun _ => h1) (fun h => ff h) (fun _ => h3)), if_pos rfl]
  · obtain ⟨i, hi⟩ := h.t3 hb
    exact ⟨i, find_push_old es _ _ v c _ hi⟩
  · rw [find_push es _ _ v c (h.no key k1 (fun h => ff h) k3), if_neg (k2 rfl)]
theorem MTells.put3 (h : MTells es b4 b9 false th ag s1 s2 s3) (v : Value) (c : Nat) : MTells (es.push ⟨.string ag, v, c⟩) b4 b9 true th ag s1 s2 v := by
  refine ⟨fun hb => ?_, fun hb => ?_, fun _ => ⟨es.size, ?_⟩, fun key k1 k2 k3 => ?_⟩
  · obtain ⟨i, hi⟩ := h.t1 hb
    exact ⟨i, find_push_old es _ _ v c _ hi⟩
  · obtain ⟨i, hi⟩ := h.t2 hb
    exact ⟨i, find_push_old es _ _ v c _ hi⟩
  · rw [find_push es _ _ v c (h.no _ (fun _ => h2) (fun _ => h3.symm) (fun h => ff h)), if_pos rfl]
  · rw [find_push es _ _ v c (h.no key k1 k2 (fun h => ff h)), if_neg (k3 rfl)]
end
/-- One operation of a region, by its run. -/
theorem wpOp_run {P : Program} {ops : Array Oper} {Q : Exit → Act → World → Prop} {i : Nat} {K : Act → World → Prop} {a : Act} {w w' : World} {o : Oper} {v : Value} (ho : ops[i]? = some o) (hg : o.guard = none)
    (hr : (execOp a.eval o).run P w = .ok (.value v) w') (h : K (a.put o.dst v) w') : wpOp P ops Q i K a w := by
  unfold wpOp
  rw [ho]
  dsimp only
  rw [if_pos (by simp [Region.wanted, hg])]
  left
  unfold Oper.wp
  rw [hr]
  exact h
theorem wpOp_skip {P : Program} {ops : Array Oper} {Q : Exit → Act → World → Prop} {i : Nat} {K : Act → World → Prop} {a : Act} {w w' : World} {o : Oper} (ho : ops[i]? = some o) (hg : o.guard = none)
    (hr : (execOp a.eval o).run P w = .ok .skip w') (h : K (a.put o.dst undef) w') : wpOp P ops Q i K a w := by
  unfold wpOp
  rw [ho]
  dsimp only
  rw [if_pos (by simp [Region.wanted, hg])]
  left
  unfold Oper.wp
  rw [hr]
  exact h
/-- A value that is there only if its operation has come up. -/
def vv (b : Bool) (x : Value) : Value := if b = true then x else undef
def upd (B : Nat → Bool) (i : Nat) : Nat → Bool := fun j => if j = i then true else B j
theorem upd_getD (l : Array Bool) (i : Nat) (hi : i < l.size) : (fun j => (l.setIfInBounds i true).getD j false) = upd (fun j => l.getD j false) i := by
  funext j
  unfold upd
  by_cases h : j = i
  · subst h; simp [hi]
  · rw [if_neg h]
    have : i ≠ j := fun e => h e.symm
    simp [this]
def strCells (l : List ByteArray) : Obj := .cells (l.map Value.string).toArray 9 (0, 0)
/-- The frame of chain inside its region. -/
def chF (B : Nat → Bool) (cl th ag la : ByteArray) (em : Bool) (res m r1 r2 r3 rc fb : Nat) : Act :=
  { tmps := #[.string cl, .string th, .string ag, .string la, .bool em, undef, undef, undef, undef, undef, .pointer (some ⟨res, 0, none⟩), vv (B 19) (.pointer (some ⟨fb, 0, none⟩)), vv (B 0) (.string cl), vv (B 1) (.map (some m)), vv (B 2) (.string th), vv (B 3) (.slice (some ⟨r1, 0, none⟩) 1 1),
      vv (B 5) (.string th), vv (B 6) (.string ag), vv (B 7) (.string la), vv (B 8) (.slice (some ⟨r2, 0, none⟩) 2 2), vv (B 10) (.string ag), vv (B 11) (.string th), vv (B 12) (.slice (some ⟨r3, 0, none⟩) 1 1), vv (B 14) (.map (some m)), vv (B 15) (.string th), vv (B 16) (.string la), vv (B 17) (.slice (some ⟨rc, 0, none⟩) 2 2),
      vv (B 18) (.agg #[.string cl, .map (some m), .slice (some ⟨rc, 0, none⟩) 2 2]), undef, undef, undef, undef, undef, undef, undef], defers := [] }
/-- What holds inside the region. -/
structure ChW (B : Nat → Bool) (cl th ag la : ByteArray) (W0 w : World) (m r1 r2 r3 rc fb : Nat) : Prop where
  below : Below W0.heap.size W0 w
  map : B 1 = true → W0.heap.size ≤ m ∧ ∃ es c, w.heap[m]? = some (.map es c) ∧ MTells es (B 4) (B 9) (B 13) th ag (.slice (some ⟨r1, 0, none⟩) 1 1) (.slice (some ⟨r2, 0, none⟩) 2 2) (.slice (some ⟨r3, 0, none⟩) 1 1)
  w1 : B 3 = true → W0.heap.size ≤ r1 ∧ w.heap[r1]? = some (strCells [th])
  w2 : B 8 = true → W0.heap.size ≤ r2 ∧ w.heap[r2]? = some (strCells [ag, la])
  w3 : B 12 = true → W0.heap.size ≤ r3 ∧ w.heap[r3]? = some (strCells [th])
  wc : B 17 = true → W0.heap.size ≤ rc ∧ w.heap[rc]? = some (strCells [th, la])
  d4 : B 4 = true → B 1 = true ∧ B 3 = true
  d9 : B 9 = true → B 1 = true ∧ B 8 = true
  d13 : B 13 = true → B 1 = true ∧ B 12 = true
  d14 : B 14 = true → B 1 = true ∧ B 4 = true ∧ B 9 = true ∧ B 13 = true
  d18 : B 18 = true → B 14 = true ∧ B 17 = true
  d20 : B 20 = true → B 18 = true ∧ B 19 = true
  wf : B 19 = true → W0.heap.size ≤ fb ∧ w.heap[fb]? = some (.cells (if B 20 = true then #[.string cl, .map (some m), .slice (some ⟨rc, 0, none⟩) 2 2] else #[.string ⟨#[]⟩, .map none, .slice none 0 0]) 86 (0, 0))
def ChJ (cl th ag la : ByteArray) (em : Bool) (res : Nat) (W0 : World) (listed : Array Bool) (a : Act) (w : World) : Prop :=
  listed.size = 21 ∧ ∃ m r1 r2 r3 rc fb, a = chF (fun j => listed.getD j false) cl th ag la em res m r1 r2 r3 rc fb ∧ ChW (fun j => listed.getD j false) cl th ag la W0 w m r1 r2 r3 rc fb
theorem ch_step {cl th ag la : ByteArray} {em : Bool} {res : Nat} {W0 : World} {listed : Array Bool} {i : Nat} {a : Act} {w : World} (hsz : listed.size = 21) (hi : i < 21) {B : Nat → Bool} (hB : (fun j => listed.getD j false) = B)
    (h : ∃ m r1 r2 r3 rc fb, a = chF (upd B i) cl th ag la em res m r1 r2 r3 rc fb ∧ ChW (upd B i) cl th ag la W0 w m r1 r2 r3 rc fb) : ChJ cl th ag la em res W0 (listed.setIfInBounds i true) a w := by
  refine ⟨by simp [hsz], ?_⟩
  rw [upd_getD listed i (by omega), hB]
  exact h
theorem alloc_keep {w : World} {o : Obj} {g : Nat} {x : Obj} (h : w.heap[g]? = some x) : (w.alloc o).heap[g]? = some x :=
  (heap_alloc_old _ _ (Array.getElem?_eq_some_iff.1 h).1).trans h
theorem ChW.alloc {B : Nat → Bool} {cl th ag la : ByteArray} {W0 w : World} {m r1 r2 r3 rc fb : Nat} (h : ChW B cl th ag la W0 w m r1 r2 r3 rc fb) (o : Obj) : ChW B cl th ag la W0 (w.alloc o) m r1 r2 r3 rc fb :=
  ⟨h.below.alloc h.below.size o, fun hb => by
      obtain ⟨h1, es, c, h2, h3⟩ := h.map hb
      exact ⟨h1, es, c, alloc_keep h2, h3⟩,
    fun hb => ⟨(h.w1 hb).1, alloc_keep (h.w1 hb).2⟩, fun hb => ⟨(h.w2 hb).1, alloc_keep (h.w2 hb).2⟩, fun hb => ⟨(h.w3 hb).1, alloc_keep (h.w3 hb).2⟩, fun hb => ⟨(h.wc hb).1, alloc_keep (h.wc hb).2⟩,
    h.d4, h.d9, h.d13, h.d14, h.d18, h.d20, fun hb => ⟨(h.wf hb).1, alloc_keep (h.wf hb).2⟩⟩
theorem MTells.turn1 {es : Array MapEntry} {b4 b9 b13 : Bool} {th ag : ByteArray} {s1 s2 s3 : Value} (h : MTells es b4 b9 b13 th ag s1 s2 s3) (hb : b4 = false) (s : Value) : MTells es b4 b9 b13 th ag s s2 s3 := ⟨fun h' => ff (hb.symm.trans h'), h.t2, h.t3, h.no⟩
theorem MTells.turn2 {es : Array MapEntry} {b4 b9 b13 : Bool} {th ag : ByteArray} {s1 s2 s3 : Value} (h : MTells es b4 b9 b13 th ag s1 s2 s3) (hb : b9 = false) (s : Value) : MTells es b4 b9 b13 th ag s1 s s3 := ⟨h.t1, fun h' => ff (hb.symm.trans h'), h.t3, h.no⟩
theorem MTells.turn3 {es : Array MapEntry} {b4 b9 b13 : Bool} {th ag : ByteArray} {s1 s2 s3 : Value} (h : MTells es b4 b9 b13 th ag s1 s2 s3) (hb : b13 = false) (s : Value) : MTells es b4 b9 b13 th ag s1 s2 s := ⟨h.t1, h.t2, fun h' => ff (hb.symm.trans h'), h.no⟩
theorem not_of {b c : Bool} (h : b = true → c = true) (hc : c = false) : b = false := by
  cases b with
  | false => rfl
  | true => rw [h rfl] at hc; cases hc
section
variable {B : Nat → Bool} {cl th ag la : ByteArray} {W0 w : World} {m r1 r2 r3 rc fb : Nat}
theorem ChW.new1 (h : ChW B cl th ag la W0 w m r1 r2 r3 rc fb) (hb : B 1 = false) : ChW (upd B 1) cl th ag la W0 (w.alloc (.map #[] 0)) w.heap.size r1 r2 r3 rc fb := by
  have k := h.alloc (.map #[] 0)
  have b4 : B 4 = false := not_of (fun h' => (h.d4 h').1) hb
  have b9 : B 9 = false := not_of (fun h' => (h.d9 h').1) hb
  have b13 : B 13 = false := not_of (fun h' => (h.d13 h').1) hb
  have b14 : B 14 = false := not_of (fun h' => (h.d14 h').1) hb
  have b18 : B 18 = false := not_of (fun h' => (h.d18 h').1) b14
  have b20 : B 20 = false := not_of (fun h' => (h.d20 h').1) b18
  refine ⟨k.below, fun _ => ⟨h.below.size, #[], 0, heap_alloc_new w _, ?_⟩, k.w1, k.w2, k.w3, k.wc, fun h' => ff (b4.symm.trans h'), fun h' => ff (b9.symm.trans h'), fun h' => ff (b13.symm.trans h'), fun h' => ff (b14.symm.trans h'), k.d18, k.d20, fun h' => ?_⟩
  · show MTells #[] (B 4) (B 9) (B 13) _ _ _ _ _
    rw [b4, b9, b13]; exact MTells.empty _ _ _ _ _
  · have := k.wf h'
    rw [show upd B 1 20 = B 20 from rfl, b20]
    rw [b20] at this
    exact this
theorem ChW.new3 (h : ChW B cl th ag la W0 w m r1 r2 r3 rc fb) (hb : B 3 = false) : ChW (upd B 3) cl th ag la W0 (w.alloc (strCells [th])) m w.heap.size r2 r3 rc fb := by
  have k := h.alloc (strCells [th])
  have b4 : B 4 = false := not_of (fun h' => (h.d4 h').2) hb
  refine ⟨k.below, fun h' => ?_, fun _ => ⟨h.below.size, heap_alloc_new w _⟩, k.w2, k.w3, k.wc, fun h' => ff (b4.symm.trans h'), k.d9, k.d13, k.d14, k.d18, k.d20, k.wf⟩
  obtain ⟨h1, es, c, h2, h3⟩ := k.map h'
  exact ⟨h1, es, c, h2, h3.turn1 b4 _⟩
theorem ChW.new8 (h : ChW B cl th ag la W0 w m r1 r2 r3 rc fb) (hb : B 8 = false) : ChW (upd B 8) cl th ag la W0 (w.alloc (strCells [ag, la])) m r1 w.heap.size r3 rc fb := by
  have k := h.alloc (strCells [ag, la])
  have b9 : B 9 = false := not_of (fun h' => (h.d9 h').2) hb
  refine ⟨k.below, fun h' => ?_, k.w1, fun _ => ⟨h.below.size, heap_alloc_new w _⟩, k.w3, k.wc, k.d4, fun h' => ff (b9.symm.trans h'), k.d13, k.d14, k.d18, k.d20, k.wf⟩
  obtain ⟨h1, es, c, h2, h3⟩ := k.map h'
  exact ⟨h1, es, c, h2, h3.turn2 b9 _⟩
theorem ChW.new12 (h : ChW B cl th ag la W0 w m r1 r2 r3 rc fb) (hb : B 12 = false) : ChW (upd B 12) cl th ag la W0 (w.alloc (strCells [th])) m r1 r2 w.heap.size rc fb := by
  have k := h.alloc (strCells [th])
  have b13 : B 13 = false := not_of (fun h' => (h.d13 h').2) hb
  refine ⟨k.below, fun h' => ?_, k.w1, k.w2, fun _ => ⟨h.below.size, heap_alloc_new w _⟩, k.wc, k.d4, k.d9, fun h' => ff (b13.symm.trans h'), k.d14, k.d18, k.d20, k.wf⟩
  obtain ⟨h1, es, c, h2, h3⟩ := k.map h'
  exact ⟨h1, es, c, h2, h3.turn3 b13 _⟩
theorem ChW.new17 (h : ChW B cl th ag la W0 w m r1 r2 r3 rc fb) (hb : B 17 = false) : ChW (upd B 17) cl th ag la W0 (w.alloc (strCells [th, la])) m r1 r2 r3 w.heap.size fb := by
  have k := h.alloc (strCells [th, la])
  have b18 : B 18 = false := not_of (fun h' => (h.d18 h').2) hb
  have b20 : B 20 = false := not_of (fun h' => (h.d20 h').1) b18
  refine ⟨k.below, k.map, k.w1, k.w2, k.w3, fun _ => ⟨h.below.size, heap_alloc_new w _⟩, k.d4, k.d9, k.d13, k.d14, fun h' => ff (b18.symm.trans h'), k.d20, fun h' => ?_⟩
  have := k.wf h'
  rw [show upd B 17 20 = B 20 from rfl, b20]
  rw [b20] at this
  exact this
theorem ChW.new19 (h : ChW B cl th ag la W0 w m r1 r2 r3 rc fb) (hb : B 19 = false) : ChW (upd B 19) cl th ag la W0 (w.alloc (.cells #[.string ⟨#[]⟩, .map none, .slice none 0 0] 86 (0, 0))) m r1 r2 r3 rc w.heap.size := by
  have k := h.alloc (.cells #[.string ⟨#[]⟩, .map none, .slice none 0 0] 86 (0, 0))
  have b20 : B 20 = false := not_of (fun h' => (h.d20 h').2) hb
  refine ⟨k.below, k.map, k.w1, k.w2, k.w3, k.wc, k.d4, k.d9, k.d13, k.d14, k.d18, fun h' => ff (b20.symm.trans h'), fun _ => ⟨h.below.size, ?_⟩⟩
  rw [show upd B 19 20 = B 20 from rfl, b20, if_neg (by decide)]
  exact heap_alloc_new w _
/-- The world with another object in a block. -/
def setBlk (w : World) (b : Nat) (o : Obj) : World := { w with heap := w.heap.setIfInBounds b o }
theorem map_put2 {P : Program} {T K E : TypeId} (hT : P.underlying T = some (.map K E)) (hK : P.underlying K = some .string) (W : World) (r : Nat) (es : Array MapEntry) (clock : Nat) (hW : W.heap[r]? = some (.map es clock)) (key : ByteArray) (v : Value)
    (hf : find es key = some none) : (Instr.mapUpdate T (.map (some r)) (.string key) v).run P W = .ok () (setBlk W r (.map (es.push ⟨.string key, v, clock⟩) (clock + 1))) := by
  unfold find at hf
  simp [Instr.mapUpdate, run_underlying hT, run_underlying hK, getObj, Sem.run, hW, checkKey_str hK, Instr.findKey, hf, setObj, setBlk]
theorem setBlk_at {w : World} {b : Nat} {o y : Obj} (h : w.heap[b]? = some y) : (setBlk w b o).heap[b]? = some o := by
  have hlt := (Array.getElem?_eq_some_iff.1 h).1
  unfold setBlk
  simp [hlt]
theorem setBlk_ne {w : World} {b x : Nat} {o y : Obj} (hx : w.heap[x]? = some y) (hne : b ≠ x) : (setBlk w b o).heap[x]? = some y := by
  unfold setBlk
  show (w.heap.setIfInBounds b o)[x]? = _
  rw [Array.getElem?_setIfInBounds_ne hne]; exact hx
theorem setBlk_below {B : Nat} {W0 w : World} (h : Below B W0 w) {b : Nat} (hb : B ≤ b) (o : Obj) : Below B W0 (setBlk w b o) :=
  h.trans ⟨rfl, rfl, rfl, by unfold setBlk; simp, fun k hk => by
    unfold setBlk
    show (w.heap.setIfInBounds b o)[k]? = _
    rw [Array.getElem?_setIfInBounds_ne (by omega)]⟩
theorem map_ne {w : World} {m x : Nat} {es : Array MapEntry} {c : Nat} {cs : Array Value} {ty : TypeId} {fr : Nat × Nat} (hm : w.heap[m]? = some (.map es c)) (hx : w.heap[x]? = some (.cells cs ty fr)) : m ≠ x := by
  intro e
  subst e
  rw [hm] at hx
  cases hx
theorem ChW.put {B B' : Nat → Bool} (h : ChW B cl th ag la W0 w m r1 r2 r3 rc fb) (hb : B 1 = true) {es es' : Array MapEntry} {c c' : Nat} (hm : w.heap[m]? = some (.map es c)) (hT : MTells es' (B' 4) (B' 9) (B' 13) th ag (.slice (some ⟨r1, 0, none⟩) 1 1) (.slice (some ⟨r2, 0, none⟩) 2 2) (.slice (some ⟨r3, 0, none⟩) 1 1))
    (e3 : B' 3 = B 3) (e8 : B' 8 = B 8) (e12 : B' 12 = B 12) (e17 : B' 17 = B 17) (e19 : B' 19 = B 19) (e20 : B' 20 = B 20)
    (d4 : B' 4 = true → B' 1 = true ∧ B' 3 = true) (d9 : B' 9 = true → B' 1 = true ∧ B' 8 = true) (d13 : B' 13 = true → B' 1 = true ∧ B' 12 = true) (d14 : B' 14 = true → B' 1 = true ∧ B' 4 = true ∧ B' 9 = true ∧ B' 13 = true) (d18 : B' 18 = true → B' 14 = true ∧ B' 17 = true) (d20 : B' 20 = true → B' 18 = true ∧ B' 19 = true) :
    ChW B' cl th ag la W0 (setBlk w m (.map es' c')) m r1 r2 r3 rc fb := by
  have hmb := (h.map hb).1
  refine ⟨setBlk_below h.below hmb _, fun _ => ⟨hmb, es', c', setBlk_at hm, hT⟩, fun h' => ?_, fun h' => ?_, fun h' => ?_, fun h' => ?_, d4, d9, d13, d14, d18, d20, fun h' => ?_⟩
  · rw [e3] at h'
    exact ⟨(h.w1 h').1, setBlk_ne (h.w1 h').2 (map_ne hm (h.w1 h').2)⟩
  · rw [e8] at h'
    exact ⟨(h.w2 h').1, setBlk_ne (h.w2 h').2 (map_ne hm (h.w2 h').2)⟩
  · rw [e12] at h'
    exact ⟨(h.w3 h').1, setBlk_ne (h.w3 h').2 (map_ne hm (h.w3 h').2)⟩
  · rw [e17] at h'
    exact ⟨(h.wc h').1, setBlk_ne (h.wc h').2 (map_ne hm (h.wc h').2)⟩
  · rw [e19] at h'
    rw [e20]
    exact ⟨(h.wf h').1, setBlk_ne (h.wf h').2 (map_ne hm (h.wf h').2)⟩
end
/-- What a conditional's form is, in memory: close, the map, the row of closes. -/
structure ChainAt (w : World) (base : Nat) (th ag la : ByteArray) (m r1 r2 r3 : Nat) : Prop where
  bm : base ≤ m
  b1 : base ≤ r1
  b2 : base ≤ r2
  b3 : base ≤ r3
  map : ∃ es c, w.heap[m]? = some (.map es c) ∧ MTells es true true true th ag (.slice (some ⟨r1, 0, none⟩) 1 1) (.slice (some ⟨r2, 0, none⟩) 2 2) (.slice (some ⟨r3, 0, none⟩) 1 1)
  w1 : w.heap[r1]? = some (strCells [th])
  w2 : w.heap[r2]? = some (strCells [ag, la])
  w3 : w.heap[r3]? = some (strCells [th])
/-! The operations of the region, one by one. -/
section
variable {ev : Operand → Value} {o : Oper} {w : World}
theorem run_moveO (x : Operand) (h : o.op = .move x) : (execOp ev o).run Tryz.prog w = .ok (.value (ev x)) w := by
  unfold execOp
  rw [h]
  rfl
theorem run_makeMapO (h : o.op = .makeMap 84 none) : (execOp ev o).run Tryz.prog w = .ok (.value (.map (some w.heap.size))) (w.alloc (.map #[] 0)) := by
  have hm := run_makeMap (P := Tryz.prog) 84 w
  unfold execOp
  rw [h]
  simp [go_sem, hm]
theorem run_row1 (x : Operand) (a : ByteArray) (h : o.op = .buildSlice 25 1 #[(0, x)]) (hx : ev x = .string a) : (execOp ev o).run Tryz.prog w = .ok (.value (.slice (some ⟨w.heap.size, 0, none⟩) 1 1)) (w.alloc (strCells [a])) := by
  unfold execOp
  rw [h]
  simp [go_sem, Sem.run_bind, hx, strCells]
theorem run_row2 (x y : Operand) (a b : ByteArray) (h : o.op = .buildSlice 25 2 #[(0, x), (1, y)]) (hx : ev x = .string a) (hy : ev y = .string b) : (execOp ev o).run Tryz.prog w = .ok (.value (.slice (some ⟨w.heap.size, 0, none⟩) 2 2)) (w.alloc (strCells [a, b])) := by
  unfold execOp
  rw [h]
  simp [go_sem, Sem.run_bind, hx, hy, strCells]
theorem run_insertO (x k v : Operand) (m : Nat) (key : ByteArray) (val : Value) (es : Array MapEntry) (c : Nat) (h : o.op = .insert 84 x k v) (hx : ev x = .map (some m)) (hk : ev k = .string key) (hv : ev v = val) (hm : w.heap[m]? = some (.map es c)) (hf : find es key = some none) :
    (execOp ev o).run Tryz.prog w = .ok .skip (setBlk w m (.map (es.push ⟨.string key, val, c⟩) (c + 1))) := by
  have hp := map_put2 Tryz.underlying84 Tryz.underlying9 w m es c hm key val hf
  unfold execOp
  rw [h]
  simp [go_sem, hx, hk, hv, hp]
theorem run_buildForm (x y z : Operand) (a : ByteArray) (m rc : Nat) (h : o.op = .build 86 #[(0, x), (1, y), (2, z)]) (hx : ev x = .string a) (hy : ev y = .map (some m)) (hz : ev z = .slice (some ⟨rc, 0, none⟩) 2 2) : (execOp ev o).run Tryz.prog w = .ok (.value (.agg #[.string a, .map (some m), .slice (some ⟨rc, 0, none⟩) 2 2])) w := by
  unfold execOp
  rw [h]
  simp [go_sem, Sem.run_bind, hx, hy, hz]
theorem run_allocForm (h : o.op = .alloc 86) : (execOp ev o).run Tryz.prog w = .ok (.value (.pointer (some ⟨w.heap.size, 0, none⟩))) (w.alloc (.cells #[.string ⟨#[]⟩, .map none, .slice none 0 0] 86 (0, 0))) := by
  unfold execOp
  rw [h]
  simp [go_sem, Sem.run_bind]
end
theorem run_storeForm {ev : Operand → Value} {o : Oper} {w : World} (x y : Operand) (fb : Nat) (cl : ByteArray) (m rc : Nat) (h : o.op = .store 86 x y) (hx : ev x = .pointer (some ⟨fb, 0, none⟩)) (hy : ev y = .agg #[.string cl, .map (some m), .slice (some ⟨rc, 0, none⟩) 2 2]) (hF : w.heap[fb]? = some (.cells #[.string ⟨#[]⟩, .map none, .slice none 0 0] 86 (0, 0))) :
    (execOp ev o).run Tryz.prog w = .ok .skip (((w.setCell ⟨fb, 0, none⟩ (.string cl)).setCell ⟨fb, 1, none⟩ (.map (some m))).setCell ⟨fb, 2, none⟩ (.slice (some ⟨rc, 0, none⟩) 2 2)) := by
  have c0 := cell_of_blk hF 0
  have c1 := cell_of_blk hF 1
  have c2 := cell_of_blk hF 2
  have f0 := free_of_blk hF 0
  have f1 := free_of_blk hF 1
  have f2 := free_of_blk hF 2
  unfold execOp
  rw [h]
  simp [go_sem, hx, hy, c0, c1, c2, f0, f1, f2]
theorem cells_ne {w : World} {a b : Nat} {xs ys : Array Value} {s t : TypeId} {f g : Nat × Nat} (ha : w.heap[a]? = some (.cells xs s f)) (hb : w.heap[b]? = some (.cells ys t g)) (h : s ≠ t) : a ≠ b := by
  intro e
  subst e
  rw [ha] at hb
  injection hb with hb
  injection hb with _ h2 _
  exact h h2
theorem ChW.stored {B : Nat → Bool} {cl th ag la : ByteArray} {W0 w : World} {m r1 r2 r3 rc fb : Nat} (h : ChW B cl th ag la W0 w m r1 r2 r3 rc fb) (hfb : W0.heap.size ≤ fb) (hF : w.heap[fb]? = some (.cells #[.string ⟨#[]⟩, .map none, .slice none 0 0] 86 (0, 0))) (h18 : B 18 = true) (h19 : B 19 = true) :
    ChW (upd B 20) cl th ag la W0 (((w.setCell ⟨fb, 0, none⟩ (.string cl)).setCell ⟨fb, 1, none⟩ (.map (some m))).setCell ⟨fb, 2, none⟩ (.slice (some ⟨rc, 0, none⟩) 2 2)) m r1 r2 r3 rc fb := by
  have keep : ∀ {x : Nat} {y : Obj}, w.heap[x]? = some y → fb ≠ x → (((w.setCell ⟨fb, 0, none⟩ (.string cl)).setCell ⟨fb, 1, none⟩ (.map (some m))).setCell ⟨fb, 2, none⟩ (.slice (some ⟨rc, 0, none⟩) 2 2)).heap[x]? = some y := by
    intro x y hx hne
    rw [Below.heap_setCell _ _ _ _ (Ne.symm hne), Below.heap_setCell _ _ _ _ (Ne.symm hne), Below.heap_setCell _ _ _ _ (Ne.symm hne)]
    exact hx
  have hty : (86 : TypeId) ≠ 9 := by decide
  refine ⟨((h.below.setCell hfb _).setCell hfb _).setCell hfb _, fun h' => ?_, fun h' => ⟨(h.w1 h').1, keep (h.w1 h').2 (cells_ne hF (h.w1 h').2 hty)⟩, fun h' => ⟨(h.w2 h').1, keep (h.w2 h').2 (cells_ne hF (h.w2 h').2 hty)⟩, fun h' => ⟨(h.w3 h').1, keep (h.w3 h').2 (cells_ne hF (h.w3 h').2 hty)⟩, fun h' => ⟨(h.wc h').1, keep (h.wc h').2 (cells_ne hF (h.wc h').2 hty)⟩,
    h.d4, h.d9, h.d13, h.d14, h.d18, fun _ => ⟨h18, h19⟩, fun _ => ⟨hfb, ?_⟩⟩
  · obtain ⟨h1, es, c, h2, h3⟩ := h.map h'
    exact ⟨h1, es, c, keep h2 (fun e => map_ne h2 hF e.symm), h3⟩
  · rw [show upd B 20 20 = true from rfl, if_pos rfl, blk_setCell (blk_setCell (blk_setCell hF 0 _) 1 _) 2 _]
    rfl
theorem chF_m {B : Nat → Bool} {cl th ag la : ByteArray} {em : Bool} {res m r1 r2 r3 rc fb : Nat} (m' : Nat) (b1 : B 1 = false) (b14 : B 14 = false) (b18 : B 18 = false) : chF B cl th ag la em res m r1 r2 r3 rc fb = chF B cl th ag la em res m' r1 r2 r3 rc fb := by
  unfold chF
  rw [b1, b14, b18]
  rfl
theorem chF_rc {B : Nat → Bool} {cl th ag la : ByteArray} {em : Bool} {res m r1 r2 r3 rc fb : Nat} (rc' : Nat) (b17 : B 17 = false) (b18 : B 18 = false) : chF B cl th ag la em res m r1 r2 r3 rc fb = chF B cl th ag la em res m r1 r2 r3 rc' fb := by
  unfold chF
  rw [b17, b18]
  rfl
def closesOf (em : Bool) (th la : ByteArray) : List ByteArray := if em = true then [th, la, ⟨#[]⟩] else [th, la]
/-- A row of texts. -/
def StrRow (w : World) (g : Nat) (l : List ByteArray) : Prop := ∀ (k : Nat) (x : ByteArray), l[k]? = some x → w.cell? ⟨g, k, none⟩ = some (.string x)
theorem strRow_of {w : World} {g : Nat} {l : List ByteArray} (h : w.heap[g]? = some (strCells l)) : StrRow w g l := by
  intro k x hx
  unfold strCells at h
  rw [cell_of_blk h k]
  simp [hx]
theorem chain_result {tmps : Array Value} {W : World} (b : Nat) (x y z : Value) (fr : Nat × Nat) (h10 : tmps.getD 10 undef = .pointer (some ⟨b, 0, none⟩)) (k : W.heap[b]? = some (.cells #[x, y, z] 86 fr)) :
    (results Tryz.f119 tmps).run Tryz.prog W = .ok (.agg #[x, y, z]) W := by
  have h10' : tmps[10]?.getD undef = .pointer (some ⟨b, 0, none⟩) := by simpa using h10
  have c0 : W.cell? ⟨b, 0, none⟩ = some x := (cell_of_blk k 0).trans rfl
  have c1 : W.cell? ⟨b, 1, none⟩ = some y := (cell_of_blk k 1).trans rfl
  have c2 : W.cell? ⟨b, 2, none⟩ = some z := (cell_of_blk k 2).trans rfl
  have ha := Tryz.isAgg86
  simp [results, h10', asAddr, loadVar, Sem.run_bind, ha, go_sem, c0, c1, c2]
theorem str_inj : ∀ l l' : List ByteArray, l.map Value.string = l'.map Value.string → l = l' := by
  intro l
  induction l with
  | nil =>
    intro l' h
    cases l' with
    | nil => rfl
    | cons a t => cases h
  | cons a t ih =>
    intro l' h
    cases l' with
    | nil => cases h
    | cons b u =>
      rw [List.map_cons, List.map_cons] at h
      injection h with h1 h2
      injection h1 with h1
      rw [h1, ih u h2]
theorem str_ne {w : World} {a b : Nat} {l l' : List ByteArray} (ha : w.heap[a]? = some (strCells l)) (hb : w.heap[b]? = some (strCells l')) (h : l ≠ l') : a ≠ b := by
  intro e
  subst e
  rw [ha] at hb
  injection hb with hb
  unfold strCells at hb
  injection hb with h1 _ _
  have h2 := congrArg Array.toList h1
  exact h (str_inj _ _ h2)
theorem row_of {w : World} {g : Nat} {cur : Array Value} {l : List ByteArray} {n : Nat} {ty : TypeId} (h : w.heap[g]? = some (.cells cur ty (0, 0))) (ht : cur.toList.take n = l.map Value.string) : StrRow w g l := by
  intro k x hx
  rw [cell_of_blk h k]
  have h1 : (cur.toList.take n)[k]? = some (.string x) := by rw [ht]; simp [hx]
  rw [List.getElem?_take] at h1
  split at h1
  · simpa using h1
  · cases h1
/-- The end of chain: its result, out of its cell. -/
theorem chain_end {R : Ending → World → Prop} {a : Act} {W : World} {b : Nat} {x y z : Value} {fr : Nat × Nat} (k : W.heap[b]? = some (.cells #[x, y, z] 86 fr)) (h : R (.returned (.agg #[x, y, z])) W)
    (h10 : a.tmps.getD 10 undef = .pointer (some ⟨b, 0, none⟩) := by rfl) (hd : a.defers = [] := by rfl) : bodyPost Tryz.prog Tryz.f119 R .ret a W :=
  bodyPost_ret (chain_result b x y z fr h10 k) hd h
theorem info_str : (Tryz.prog.info? 9).map (fun i => (i.zero, i.size, i.bytes)) = some (some (.string ⟨#[]⟩), 1, 16) := by kernel_rfl
theorem set3 {W : World} {b : Nat} {x y z : Value} {ty : TypeId} (K : W.heap[b]? = some (.cells #[x, y, z] ty (0, 0))) (x' y' z' : Value) :
    (((W.setCell ⟨b, 0, none⟩ x').setCell ⟨b, 1, none⟩ y').setCell ⟨b, 2, none⟩ z').heap[b]? = some (.cells #[x', y', z'] ty (0, 0)) := by
  rw [blk_setCell (blk_setCell (blk_setCell K 0 x') 1 y') 2 z']; rfl
theorem set3_ne {W : World} {b g : Nat} {y : Obj} (h : W.heap[g]? = some y) (hne : g ≠ b) (x' y' z' : Value) :
    (((W.setCell ⟨b, 0, none⟩ x').setCell ⟨b, 1, none⟩ y').setCell ⟨b, 2, none⟩ z').heap[g]? = some y := by
  rw [Below.heap_setCell _ _ _ _ hne, Below.heap_setCell _ _ _ _ hne, Below.heap_setCell _ _ _ _ hne]; exact h
set_option maxRecDepth 100000 in
set_option maxHeartbeats 8000000 in
theorem bChain_c (cl th ag la : ByteArray) (n1 : th ≠ ⟨#[]⟩) (n2 : ag ≠ ⟨#[]⟩) (n3 : th ≠ ag) (em : Bool) (w : World) :
    Calls Tryz.prog 119 #[.string cl, .string th, .string ag, .string la, .bool em] w fun e w' =>
      ∃ m r1 r2 r3 rc c, e = .returned (.agg #[.string cl, .map (some m), .slice (some ⟨rc, 0, none⟩) (closesOf em th la).length c]) ∧ Below w.heap.size w w' ∧ ChainAt w' w.heap.size th ag la m r1 r2 r3 ∧ w.heap.size ≤ rc ∧ StrRow w' rc (closesOf em th la) := by
  have hB0 : Below w.heap.size w (w.alloc (.cells #[.string ⟨#[]⟩, .map none, .slice none 0 0] 86)) := below_alloc0 (Below.refl _ _) _
  have K0 := heap_alloc_new w (.cells #[.string ⟨#[]⟩, .map none, .slice none 0 0] 86)
  go_enter Tryz.func119, Tryz.ntmps119
  go_wp2
  generalize w.alloc (.cells #[.string ⟨#[]⟩, .map none, .slice none 0 0] 86) = WA at *
  refine wp_region_any (by kernel_rfl) ?_
  change wpAny _ _ _ _ _ _ _ WA.drew
  generalize hW0 : WA.drew = W0
  refine wpAny_inv (ChJ cl th ag la em w.heap.size W0) ?_ ?_ _ _ _ _ (by decide) ?_
  · intro listed a w1 i ⟨hsz, m, r1, r2, r3, rc, fb, ha, hw⟩ hi
    obtain ⟨h0, o, ho, hd⟩ := mem_ready.1 hi
    have hlt : i < 21 := (Array.getElem?_eq_some_iff.1 ho).1
    have hBi : listed.getD i false = false := by
      have : i < listed.size := by omega
      simp [this] at h0 ⊢
      exact h0
    generalize hB : (fun j => listed.getD j false) = B at ha hw
    replace hBi : B i = false := by rw [← hB]; exact hBi
    replace hd : ∀ e ∈ o.after, Region.binds .any e = true → B e.on = true := by rw [← hB]; exact hd
    subst ha
    have hcases : i = 0 ∨ i = 1 ∨ i = 2 ∨ i = 3 ∨ i = 4 ∨ i = 5 ∨ i = 6 ∨ i = 7 ∨ i = 8 ∨ i = 9 ∨ i = 10 ∨ i = 11 ∨ i = 12 ∨ i = 13 ∨ i = 14 ∨ i = 15 ∨ i = 16 ∨ i = 17 ∨ i = 18 ∨ i = 19 ∨ i = 20 := by omega
    clear hi h0 hlt
    rcases hcases with rfl | rfl | rfl | rfl | rfl | rfl | rfl | rfl | rfl | rfl | rfl | rfl | rfl | rfl | rfl | rfl | rfl | rfl | rfl | rfl | rfl
    · cases ho
      refine wpOp_run rfl rfl (run_moveO _ rfl) ?_
      exact ch_step hsz (by decide) hB ⟨m, r1, r2, r3, rc, fb, rfl, ⟨hw.below, hw.map, hw.w1, hw.w2, hw.w3, hw.wc, hw.d4, hw.d9, hw.d13, hw.d14, hw.d18, hw.d20, hw.wf⟩⟩
    · cases ho
      have b14 : B 14 = false := not_of (fun h' => (hw.d14 h').1) hBi
      have b18 : B 18 = false := not_of (fun h' => (hw.d18 h').1) b14
      refine wpOp_run rfl rfl (run_makeMapO rfl) ?_
      exact ch_step hsz (by decide) hB ⟨w1.heap.size, r1, r2, r3, rc, fb, by rw [chF_m w1.heap.size hBi b14 b18]; rfl, hw.new1 hBi⟩
    · cases ho
      refine wpOp_run rfl rfl (run_moveO _ rfl) ?_
      exact ch_step hsz (by decide) hB ⟨m, r1, r2, r3, rc, fb, rfl, ⟨hw.below, hw.map, hw.w1, hw.w2, hw.w3, hw.wc, hw.d4, hw.d9, hw.d13, hw.d14, hw.d18, hw.d20, hw.wf⟩⟩
    · cases ho
      have h2 : B 2 = true := hd ⟨2, .data⟩ (by simp) rfl
      have e14 : (chF B cl th ag la em w.heap.size m r1 r2 r3 rc fb).eval (.tmp 14) = .string th := by show vv (B 2) _ = _; rw [h2]; rfl
      refine wpOp_run rfl rfl (run_row1 _ th rfl e14) ?_
      exact ch_step hsz (by decide) hB ⟨m, w1.heap.size, r2, r3, rc, fb, rfl, hw.new3 hBi⟩
    · cases ho
      have h1 : B 1 = true := hd ⟨1, .data⟩ (by simp) rfl
      have h3 : B 3 = true := hd ⟨3, .data⟩ (by simp) rfl
      have e13 : (chF B cl th ag la em w.heap.size m r1 r2 r3 rc fb).eval (.tmp 13) = .map (some m) := by show vv (B 1) _ = _; rw [h1]; rfl
      have e15 : (chF B cl th ag la em w.heap.size m r1 r2 r3 rc fb).eval (.tmp 15) = .slice (some ⟨r1, 0, none⟩) 1 1 := by show vv (B 3) _ = _; rw [h3]; rfl
      obtain ⟨_, es, c, hm, hT⟩ := hw.map h1
      rw [hBi] at hT
      have hf : find es ⟨#[]⟩ = some none := hT.no _ (fun h => ff h) (fun _ => n1.symm) (fun _ => n2.symm)
      refine wpOp_skip rfl rfl (run_insertO _ _ _ m ⟨#[]⟩ (.slice (some ⟨r1, 0, none⟩) 1 1) es c rfl e13 rfl e15 hm hf) ?_
      exact ch_step hsz (by decide) hB ⟨m, r1, r2, r3, rc, fb, rfl, hw.put h1 hm (hT.put1 n1 n2 n3 _ _) rfl rfl rfl rfl rfl rfl (fun _ => ⟨h1, h3⟩) hw.d9 hw.d13 (fun h' => ⟨(hw.d14 h').1, rfl, (hw.d14 h').2.2⟩) hw.d18 hw.d20⟩
    · cases ho
      refine wpOp_run rfl rfl (run_moveO _ rfl) ?_
      exact ch_step hsz (by decide) hB ⟨m, r1, r2, r3, rc, fb, rfl, ⟨hw.below, hw.map, hw.w1, hw.w2, hw.w3, hw.wc, hw.d4, hw.d9, hw.d13, hw.d14, hw.d18, hw.d20, hw.wf⟩⟩
    · cases ho
      refine wpOp_run rfl rfl (run_moveO _ rfl) ?_
      exact ch_step hsz (by decide) hB ⟨m, r1, r2, r3, rc, fb, rfl, ⟨hw.below, hw.map, hw.w1, hw.w2, hw.w3, hw.wc, hw.d4, hw.d9, hw.d13, hw.d14, hw.d18, hw.d20, hw.wf⟩⟩
    · cases ho
      refine wpOp_run rfl rfl (run_moveO _ rfl) ?_
      exact ch_step hsz (by decide) hB ⟨m, r1, r2, r3, rc, fb, rfl, ⟨hw.below, hw.map, hw.w1, hw.w2, hw.w3, hw.wc, hw.d4, hw.d9, hw.d13, hw.d14, hw.d18, hw.d20, hw.wf⟩⟩
    · cases ho
      have h6 : B 6 = true := hd ⟨6, .data⟩ (by simp) rfl
      have h7 : B 7 = true := hd ⟨7, .data⟩ (by simp) rfl
      have e17 : (chF B cl th ag la em w.heap.size m r1 r2 r3 rc fb).eval (.tmp 17) = .string ag := by show vv (B 6) _ = _; rw [h6]; rfl
      have e18 : (chF B cl th ag la em w.heap.size m r1 r2 r3 rc fb).eval (.tmp 18) = .string la := by show vv (B 7) _ = _; rw [h7]; rfl
      refine wpOp_run rfl rfl (run_row2 _ _ ag la rfl e17 e18) ?_
      exact ch_step hsz (by decide) hB ⟨m, r1, w1.heap.size, r3, rc, fb, rfl, hw.new8 hBi⟩
    · cases ho
      have h1 : B 1 = true := hd ⟨1, .data⟩ (by simp) rfl
      have h5 : B 5 = true := hd ⟨5, .data⟩ (by simp) rfl
      have h8 : B 8 = true := hd ⟨8, .data⟩ (by simp) rfl
      have e13 : (chF B cl th ag la em w.heap.size m r1 r2 r3 rc fb).eval (.tmp 13) = .map (some m) := by show vv (B 1) _ = _; rw [h1]; rfl
      have e19 : (chF B cl th ag la em w.heap.size m r1 r2 r3 rc fb).eval (.tmp 19) = .slice (some ⟨r2, 0, none⟩) 2 2 := by show vv (B 8) _ = _; rw [h8]; rfl
      have e16 : (chF B cl th ag la em w.heap.size m r1 r2 r3 rc fb).eval (.tmp 16) = .string th := by show vv (B 5) _ = _; rw [h5]; rfl
      obtain ⟨_, es, c, hm, hT⟩ := hw.map h1
      rw [hBi] at hT
      have hf : find es th = some none := hT.no _ (fun _ => n1) (fun h => ff h) (fun _ => n3)
      refine wpOp_skip rfl rfl (run_insertO _ _ _ m th (.slice (some ⟨r2, 0, none⟩) 2 2) es c rfl e13 e16 e19 hm hf) ?_
      exact ch_step hsz (by decide) hB ⟨m, r1, r2, r3, rc, fb, rfl, hw.put h1 hm (hT.put2 n1 n2 n3 _ _) rfl rfl rfl rfl rfl rfl hw.d4 (fun _ => ⟨h1, h8⟩) hw.d13 (fun h' => ⟨(hw.d14 h').1, (hw.d14 h').2.1, rfl, (hw.d14 h').2.2.2⟩) hw.d18 hw.d20⟩
    · cases ho
      refine wpOp_run rfl rfl (run_moveO _ rfl) ?_
      exact ch_step hsz (by decide) hB ⟨m, r1, r2, r3, rc, fb, rfl, ⟨hw.below, hw.map, hw.w1, hw.w2, hw.w3, hw.wc, hw.d4, hw.d9, hw.d13, hw.d14, hw.d18, hw.d20, hw.wf⟩⟩
    · cases ho
      refine wpOp_run rfl rfl (run_moveO _ rfl) ?_
      exact ch_step hsz (by decide) hB ⟨m, r1, r2, r3, rc, fb, rfl, ⟨hw.below, hw.map, hw.w1, hw.w2, hw.w3, hw.wc, hw.d4, hw.d9, hw.d13, hw.d14, hw.d18, hw.d20, hw.wf⟩⟩
    · cases ho
      have h11 : B 11 = true := hd ⟨11, .data⟩ (by simp) rfl
      have e21 : (chF B cl th ag la em w.heap.size m r1 r2 r3 rc fb).eval (.tmp 21) = .string th := by show vv (B 11) _ = _; rw [h11]; rfl
      refine wpOp_run rfl rfl (run_row1 _ th rfl e21) ?_
      exact ch_step hsz (by decide) hB ⟨m, r1, r2, w1.heap.size, rc, fb, rfl, hw.new12 hBi⟩
    · cases ho
      have h1 : B 1 = true := hd ⟨1, .data⟩ (by simp) rfl
      have h10 : B 10 = true := hd ⟨10, .data⟩ (by simp) rfl
      have h12 : B 12 = true := hd ⟨12, .data⟩ (by simp) rfl
      have e13 : (chF B cl th ag la em w.heap.size m r1 r2 r3 rc fb).eval (.tmp 13) = .map (some m) := by show vv (B 1) _ = _; rw [h1]; rfl
      have e22 : (chF B cl th ag la em w.heap.size m r1 r2 r3 rc fb).eval (.tmp 22) = .slice (some ⟨r3, 0, none⟩) 1 1 := by show vv (B 12) _ = _; rw [h12]; rfl
      have e20 : (chF B cl th ag la em w.heap.size m r1 r2 r3 rc fb).eval (.tmp 20) = .string ag := by show vv (B 10) _ = _; rw [h10]; rfl
      obtain ⟨_, es, c, hm, hT⟩ := hw.map h1
      rw [hBi] at hT
      have hf : find es ag = some none := hT.no _ (fun _ => n2) (fun _ => n3.symm) (fun h => ff h)
      refine wpOp_skip rfl rfl (run_insertO _ _ _ m ag (.slice (some ⟨r3, 0, none⟩) 1 1) es c rfl e13 e20 e22 hm hf) ?_
      exact ch_step hsz (by decide) hB ⟨m, r1, r2, r3, rc, fb, rfl, hw.put h1 hm (hT.put3 n1 n2 n3 _ _) rfl rfl rfl rfl rfl rfl hw.d4 hw.d9 (fun _ => ⟨h1, h12⟩) (fun h' => ⟨(hw.d14 h').1, (hw.d14 h').2.1, (hw.d14 h').2.2.1, rfl⟩) hw.d18 hw.d20⟩
    · cases ho
      have h1 : B 1 = true := hd ⟨1, .data⟩ (by simp) rfl
      have h4 : B 4 = true := hd ⟨4, .data⟩ (by simp) rfl
      have h9 : B 9 = true := hd ⟨9, .data⟩ (by simp) rfl
      have h13 : B 13 = true := hd ⟨13, .data⟩ (by simp) rfl
      have e13 : (chF B cl th ag la em w.heap.size m r1 r2 r3 rc fb).eval (.tmp 13) = .map (some m) := by show vv (B 1) _ = _; rw [h1]; rfl
      refine wpOp_run rfl rfl (run_moveO _ rfl) ?_
      rw [e13]
      exact ch_step hsz (by decide) hB ⟨m, r1, r2, r3, rc, fb, rfl, ⟨hw.below, hw.map, hw.w1, hw.w2, hw.w3, hw.wc, hw.d4, hw.d9, hw.d13, fun _ => ⟨h1, h4, h9, h13⟩, fun h' => ⟨rfl, (hw.d18 h').2⟩, hw.d20, hw.wf⟩⟩
    · cases ho
      refine wpOp_run rfl rfl (run_moveO _ rfl) ?_
      exact ch_step hsz (by decide) hB ⟨m, r1, r2, r3, rc, fb, rfl, ⟨hw.below, hw.map, hw.w1, hw.w2, hw.w3, hw.wc, hw.d4, hw.d9, hw.d13, hw.d14, hw.d18, hw.d20, hw.wf⟩⟩
    · cases ho
      refine wpOp_run rfl rfl (run_moveO _ rfl) ?_
      exact ch_step hsz (by decide) hB ⟨m, r1, r2, r3, rc, fb, rfl, ⟨hw.below, hw.map, hw.w1, hw.w2, hw.w3, hw.wc, hw.d4, hw.d9, hw.d13, hw.d14, hw.d18, hw.d20, hw.wf⟩⟩
    · cases ho
      have h15 : B 15 = true := hd ⟨15, .data⟩ (by simp) rfl
      have h16 : B 16 = true := hd ⟨16, .data⟩ (by simp) rfl
      have e24 : (chF B cl th ag la em w.heap.size m r1 r2 r3 rc fb).eval (.tmp 24) = .string th := by show vv (B 15) _ = _; rw [h15]; rfl
      have e25 : (chF B cl th ag la em w.heap.size m r1 r2 r3 rc fb).eval (.tmp 25) = .string la := by show vv (B 16) _ = _; rw [h16]; rfl
      have b18 : B 18 = false := not_of (fun h' => (hw.d18 h').2) hBi
      refine wpOp_run rfl rfl (run_row2 _ _ th la rfl e24 e25) ?_
      exact ch_step hsz (by decide) hB ⟨m, r1, r2, r3, w1.heap.size, fb, by rw [chF_rc w1.heap.size hBi b18]; rfl, hw.new17 hBi⟩
    · cases ho
      have h0 : B 0 = true := hd ⟨0, .data⟩ (by simp) rfl
      have h14 : B 14 = true := hd ⟨14, .data⟩ (by simp) rfl
      have h17 : B 17 = true := hd ⟨17, .data⟩ (by simp) rfl
      have e12 : (chF B cl th ag la em w.heap.size m r1 r2 r3 rc fb).eval (.tmp 12) = .string cl := by show vv (B 0) _ = _; rw [h0]; rfl
      have e23 : (chF B cl th ag la em w.heap.size m r1 r2 r3 rc fb).eval (.tmp 23) = .map (some m) := by show vv (B 14) _ = _; rw [h14]; rfl
      have e26 : (chF B cl th ag la em w.heap.size m r1 r2 r3 rc fb).eval (.tmp 26) = .slice (some ⟨rc, 0, none⟩) 2 2 := by show vv (B 17) _ = _; rw [h17]; rfl
      refine wpOp_run rfl rfl (run_buildForm _ _ _ _ _ _ rfl e12 e23 e26) ?_
      exact ch_step hsz (by decide) hB ⟨m, r1, r2, r3, rc, fb, rfl, ⟨hw.below, hw.map, hw.w1, hw.w2, hw.w3, hw.wc, hw.d4, hw.d9, hw.d13, hw.d14, fun _ => ⟨h14, h17⟩, fun h' => ⟨rfl, (hw.d20 h').2⟩, hw.wf⟩⟩
    · cases ho
      refine wpOp_run rfl rfl (run_allocForm rfl) ?_
      exact ch_step hsz (by decide) hB ⟨m, r1, r2, r3, rc, w1.heap.size, rfl, hw.new19 hBi⟩
    · cases ho
      have h18 : B 18 = true := hd ⟨18, .data⟩ (by simp) rfl
      have h19 : B 19 = true := hd ⟨19, .data⟩ (by simp) rfl
      have e11 : (chF B cl th ag la em w.heap.size m r1 r2 r3 rc fb).eval (.tmp 11) = .pointer (some ⟨fb, 0, none⟩) := by show vv (B 19) _ = _; rw [h19]; rfl
      have e27 : (chF B cl th ag la em w.heap.size m r1 r2 r3 rc fb).eval (.tmp 27) = .agg #[.string cl, .map (some m), .slice (some ⟨rc, 0, none⟩) 2 2] := by show vv (B 18) _ = _; rw [h18]; rfl
      obtain ⟨hfb, hF⟩ := hw.wf h19
      rw [hBi, if_neg (by decide)] at hF
      refine wpOp_skip rfl rfl (run_storeForm _ _ fb cl m rc rfl e11 e27 hF) ?_
      exact ch_step hsz (by decide) hB ⟨m, r1, r2, r3, rc, fb, rfl, hw.stored hfb hF h18 h19⟩
  · intro listed a w1 ⟨hsz, m, r1, r2, r3, rc, fb, ha, hw⟩ hr
    have hall := ready_nil (by kernel_rfl) hsz hr
    generalize hB : (fun j => listed.getD j false) = B at ha hw
    have hb : ∀ i, i < 21 → B i = true := by rw [← hB]; exact hall
    have hfr : chF B cl th ag la em w.heap.size m r1 r2 r3 rc fb = { tmps := #[.string cl, .string th, .string ag, .string la, .bool em, undef, undef, undef, undef, undef, .pointer (some ⟨w.heap.size, 0, none⟩), .pointer (some ⟨fb, 0, none⟩), .string cl, .map (some m), .string th, .slice (some ⟨r1, 0, none⟩) 1 1,
      .string th, .string ag, .string la, .slice (some ⟨r2, 0, none⟩) 2 2, .string ag, .string th, .slice (some ⟨r3, 0, none⟩) 1 1, .map (some m), .string th, .string la, .slice (some ⟨rc, 0, none⟩) 2 2,
      .agg #[.string cl, .map (some m), .slice (some ⟨rc, 0, none⟩) 2 2], undef, undef, undef, undef, undef, undef, undef], defers := [] } := by
      unfold chF
      rw [hb 0 (by decide), hb 1 (by decide), hb 2 (by decide), hb 3 (by decide), hb 5 (by decide), hb 6 (by decide), hb 7 (by decide), hb 8 (by decide), hb 10 (by decide), hb 11 (by decide), hb 12 (by decide), hb 14 (by decide), hb 15 (by decide), hb 16 (by decide), hb 17 (by decide), hb 18 (by decide), hb 19 (by decide)]
      rfl
    rw [hfr] at ha
    subst ha
    obtain ⟨hm1, es, c, hm2, hm3⟩ := hw.map (hb 1 (by decide))
    rw [hb 4 (by decide), hb 9 (by decide), hb 13 (by decide)] at hm3
    obtain ⟨k1, k2⟩ := hw.w1 (hb 3 (by decide))
    obtain ⟨k3, k4⟩ := hw.w2 (hb 8 (by decide))
    obtain ⟨k5, k6⟩ := hw.w3 (hb 12 (by decide))
    obtain ⟨k7, k8⟩ := hw.wc (hb 17 (by decide))
    obtain ⟨k9, k10⟩ := hw.wf (hb 19 (by decide))
    rw [hb 20 (by decide), if_pos rfl] at k10
    have hbel := hw.below
    clear hw hb hall hr hB hsz hfr
    have hWA : W0.heap = WA.heap := by rw [← hW0]; rfl
    have hlt : w.heap.size < W0.heap.size := by rw [hWA]; exact lt_of_blk K0
    have hBW : Below w.heap.size w w1 := (by rw [← hW0]; exact hB0.drew : Below w.heap.size w W0).trans (hbel.mono (Nat.le_of_lt hlt))
    have KR : w1.heap[w.heap.size]? = some (.cells #[.string ⟨#[]⟩, .map none, .slice none 0 0] 86 (0, 0)) := (hbel.block w.heap.size hlt).trans (by rw [hWA]; exact K0)
    have d0 := cell_of_blk k10 0
    have d1 := cell_of_blk k10 1
    have d2 := cell_of_blk k10 2
    have f2 := free_of_blk k10 2
    have r0 := cell_of_blk KR 0
    have r1' := cell_of_blk KR 1
    have r2' := cell_of_blk KR 2
    have g0 := free_of_blk KR 0
    have g1 := free_of_blk KR 1
    have g2 := free_of_blk KR 2
    have Hm := Lib.hid hm2
    have HR := Lib.hid KR
    have Hk2 := Lib.hid k2
    have Hk4 := Lib.hid k4
    have Hk6 := Lib.hid k6
    have Hk8 := Lib.hid k8
    have Hk10 := Lib.hid k10
    clear hm2 KR k2 k4 k6 k8 k10 hbel hWA hW0 K0 hB0
    cases em with
    | false =>
      go_wp2
      have X1 := set3 HR.out (.string cl) (.map (some m)) (.slice (some ⟨rc, 0, none⟩) 2 2)
      have y0 := set3_ne Hm.out (show m ≠ w.heap.size by omega) (.string cl) (.map (some m)) (.slice (some ⟨rc, 0, none⟩) 2 2)
      have y1 := set3_ne Hk2.out (show r1 ≠ w.heap.size by omega) (.string cl) (.map (some m)) (.slice (some ⟨rc, 0, none⟩) 2 2)
      have y2 := set3_ne Hk4.out (show r2 ≠ w.heap.size by omega) (.string cl) (.map (some m)) (.slice (some ⟨rc, 0, none⟩) 2 2)
      have y3 := set3_ne Hk6.out (show r3 ≠ w.heap.size by omega) (.string cl) (.map (some m)) (.slice (some ⟨rc, 0, none⟩) 2 2)
      have y4 := set3_ne Hk8.out (show rc ≠ w.heap.size by omega) (.string cl) (.map (some m)) (.slice (some ⟨rc, 0, none⟩) 2 2)
      have yB : Below w.heap.size w (((w1.setCell ⟨w.heap.size, 0, none⟩ (.string cl)).setCell ⟨w.heap.size, 1, none⟩ (.map (some m))).setCell ⟨w.heap.size, 2, none⟩ (.slice (some ⟨rc, 0, none⟩) 2 2)) := ((hBW.setCell (Nat.le_refl _) _).setCell (Nat.le_refl _) _).setCell (Nat.le_refl _) _
      have hC : ChainAt _ w.heap.size th ag la m r1 r2 r3 := ⟨by omega, by omega, by omega, by omega, ⟨es, c, y0, hm3⟩, y1, y2, y3⟩
      exact chain_end X1 ⟨m, r1, r2, r3, rc, 2, rfl, yB, hC, by omega, strRow_of y4⟩
    | true =>
      have hfb2 : fb < w1.heap.size := lt_of_blk Hk10.out
      go_wp2_with (at_builtin; refine append_lit W0.heap.size rfl _ _ 25 9 (.string ⟨#[]⟩) 1 16 rfl Tryz.underlying25 info_str rfl (by decide) (by decide) (some ⟨rc, 0, none⟩) 2 2 [.string th, .string la] [.string ⟨#[]⟩] rfl rfl rfl (by simp [Value.oneCell']) ⟨rfl, .inr ⟨rc, 2, #[.string th, .string la], rfl, k7, Hk8.out, by decide, by decide, rfl, rfl⟩⟩ (Nat.le_trans k9 (Nat.le_of_lt hfb2)) (by decide) ?_; intro A' c' w2 hown hgr hbel2 hat; have L2 := (hgr.block fb hfb2 (by intro e; injection e with e; exact cells_ne Hk10.out Hk8.out (by decide) e)).trans Hk10.out; have R2 := (hbel2.block w.heap.size hlt).trans HR.out; clear d0 d1 d2 f2 r0 r1' r2' g0 g1 g2; have d0 := cell_of_blk L2 0; have d1 := cell_of_blk L2 1; have d2 := cell_of_blk L2 2; have f2 := free_of_blk L2 2; have r0 := cell_of_blk R2 0; have r1' := cell_of_blk R2 1; have r2' := cell_of_blk R2 2; have g0 := free_of_blk R2 0; have g1 := free_of_blk R2 1; have g2 := free_of_blk R2 2; have hfr : fb ≠ w.heap.size := by omega)
      have kv : ∀ (x : Nat) (y : Obj), w2.heap[x]? = some y → x ≠ fb → x ≠ w.heap.size → ((((w2.setCell ⟨fb, 2, none⟩ (.slice A' 3 c')).setCell ⟨w.heap.size, 0, none⟩ (.string cl)).setCell ⟨w.heap.size, 1, none⟩ (.map (some m))).setCell ⟨w.heap.size, 2, none⟩ (.slice A' 3 c')).heap[x]? = some y := by
        intro x y hx h1 h2
        refine set3_ne ?_ h2 _ _ _
        rw [Below.heap_setCell _ _ _ _ h1]; exact hx
      have X0 : (w2.setCell ⟨fb, 2, none⟩ (.slice A' 3 c')).heap[w.heap.size]? = some (.cells #[.string ⟨#[]⟩, .map none, .slice none 0 0] 86 (0, 0)) := by
        rw [Below.heap_setCell _ _ _ _ (Ne.symm hfr)]; exact R2
      have X1 := set3 X0 (.string cl) (.map (some m)) (.slice A' 3 c')
      have hty : (9 : TypeId) ≠ 86 := by decide
      have y0 := kv m _ ((hgr.block m (Array.getElem?_eq_some_iff.1 Hm.out).1 (fun e => map_ne Hm.out Hk8.out (Option.some.inj e))).trans Hm.out) (map_ne Hm.out Hk10.out) (by omega)
      have y1 := kv r1 _ ((hgr.block r1 (lt_of_blk Hk2.out) (fun e => str_ne Hk2.out Hk8.out (by simp) (Option.some.inj e))).trans Hk2.out) (cells_ne Hk2.out Hk10.out hty) (by omega)
      have y2 := kv r2 _ ((hgr.block r2 (lt_of_blk Hk4.out) (fun e => str_ne Hk4.out Hk8.out (by simpa using Ne.symm n3) (Option.some.inj e))).trans Hk4.out) (cells_ne Hk4.out Hk10.out hty) (by omega)
      have y3 := kv r3 _ ((hgr.block r3 (lt_of_blk Hk6.out) (fun e => str_ne Hk6.out Hk8.out (by simp) (Option.some.inj e))).trans Hk6.out) (cells_ne Hk6.out Hk10.out hty) (by omega)
      have yB : Below w.heap.size w ((((w2.setCell ⟨fb, 2, none⟩ (.slice A' 3 c')).setCell ⟨w.heap.size, 0, none⟩ (.string cl)).setCell ⟨w.heap.size, 1, none⟩ (.map (some m))).setCell ⟨w.heap.size, 2, none⟩ (.slice A' 3 c')) := ((((hBW.trans (hbel2.mono (Nat.le_of_lt hlt))).setCell (show w.heap.size ≤ fb by omega) _).setCell (Nat.le_refl _) _).setCell (Nat.le_refl _) _).setCell (Nat.le_refl _) _
      have hC : ChainAt _ w.heap.size th ag la m r1 r2 r3 := ⟨by omega, by omega, by omega, by omega, ⟨es, c, y0, hm3⟩, y1, y2, y3⟩
      rcases hown.2 with ⟨_, h0⟩ | ⟨g, cap, cur, j1, j2, j3, j4, j5, j6, j7⟩
      · exact absurd h0 (by decide)
      · injection j1 with q1 q2 q3
        have hrow : StrRow _ g [th, la, ⟨#[]⟩] := row_of (kv g _ j3 (cells_ne j3 L2 hty) (by omega)) j7
        rw [q1] at X1 yB hC hrow ⊢
        exact chain_end X1 ⟨m, r1, r2, r3, g, c', rfl, yB, hC, by omega, hrow⟩
  · refine ⟨rfl, 0, 0, 0, 0, 0, 0, rfl, ⟨Below.refl _ _, fun h => ff h, fun h => ff h, fun h => ff h, fun h => ff h, fun h => ff h, fun h => ff h, fun h => ff h, fun h => ff h, fun h => ff h, fun h => ff h, fun h => ff h, fun h => ff h⟩⟩
end Go.Proofs.YtjghijeblddijaaGreatDoor
set_option linter.unusedVariables false
namespace Go.Proofs.YtjghijeblddijaaGreatDoor
open Go.RowKit
theorem none_result {tmps : Array Value} {W : World} (b : Nat) (x y z : Value) (fr : Nat × Nat) (h2 : tmps.getD 2 undef = .pointer (some ⟨b, 0, none⟩)) (k : W.heap[b]? = some (.cells #[x, y, z] 86 fr)) :
    (results Tryz.f118 tmps).run Tryz.prog W = .ok (.agg #[x, y, z]) W := by
  have h2' : tmps[2]?.getD undef = .pointer (some ⟨b, 0, none⟩) := by simpa using h2
  have c0 : W.cell? ⟨b, 0, none⟩ = some x := (cell_of_blk k 0).trans rfl
  have c1 : W.cell? ⟨b, 1, none⟩ = some y := (cell_of_blk k 1).trans rfl
  have c2 : W.cell? ⟨b, 2, none⟩ = some z := (cell_of_blk k 2).trans rfl
  have ha := Tryz.isAgg86
  simp [results, h2', asAddr, loadVar, Sem.run_bind, ha, go_sem, c0, c1, c2]
theorem forms_result {tmps : Array Value} {W : World} (b : Nat) (x y z v : Value) (fr : Nat × Nat) (h2 : tmps.getD 2 undef = .pointer (some ⟨b, 0, none⟩)) (h3 : tmps.getD 3 undef = v) (k : W.heap[b]? = some (.cells #[x, y, z] 86 fr)) :
    (results Tryz.f58 tmps).run Tryz.prog W = .ok (.tuple #[.agg #[x, y, z], v]) W := by
  have h2' : tmps[2]?.getD undef = .pointer (some ⟨b, 0, none⟩) := by simpa using h2
  have h3' : tmps[3]?.getD undef = v := by simpa using h3
  have c0 : W.cell? ⟨b, 0, none⟩ = some x := (cell_of_blk k 0).trans rfl
  have c1 : W.cell? ⟨b, 1, none⟩ = some y := (cell_of_blk k 1).trans rfl
  have c2 : W.cell? ⟨b, 2, none⟩ = some z := (cell_of_blk k 2).trans rfl
  have ha := Tryz.isAgg86
  simp [results, h2', h3', asAddr, loadVar, Sem.run_bind, ha, go_sem, c0, c1, c2]
theorem forms_end {R : Ending → World → Prop} {a : Act} {W : World} {b : Nat} {x y z v : Value} {fr : Nat × Nat} (k : W.heap[b]? = some (.cells #[x, y, z] 86 fr)) (h : R (.returned (.tuple #[.agg #[x, y, z], v])) W)
    (h2 : a.tmps.getD 2 undef = .pointer (some ⟨b, 0, none⟩) := by rfl) (h3 : a.tmps.getD 3 undef = v := by rfl) (hd : a.defers = [] := by rfl) : bodyPost Tryz.prog Tryz.f58 R .ret a W :=
  bodyPost_ret (forms_result b x y z v fr h2 h3 k) hd h
set_option maxRecDepth 100000 in
set_option maxHeartbeats 4000000 in
theorem bNone_c (cl : ByteArray) (w : World) :
    Calls Tryz.prog 118 #[.string cl] w fun e w' => ∃ b, e = .returned (.agg #[.string cl, .map none, .slice (some ⟨b, 0, none⟩) 1 1]) ∧ w.heap.size ≤ b ∧ w'.heap[b]? = some (strCells [⟨#[]⟩]) ∧ Below w.heap.size w w' := by
  have hK := alloc_keep (o := .cells #[.string ⟨#[]⟩] 9) (heap_alloc_new w (.cells #[.string cl, .map none, .slice (some ⟨w.heap.size + 1, 0, none⟩) 1 1] 86))
  have hN := heap_alloc_new (w.alloc (.cells #[.string cl, .map none, .slice (some ⟨w.heap.size + 1, 0, none⟩) 1 1] 86)) (.cells #[.string ⟨#[]⟩] 9)
  have hB : Below w.heap.size w ((w.alloc (.cells #[.string cl, .map none, .slice (some ⟨w.heap.size + 1, 0, none⟩) 1 1] 86)).alloc (.cells #[.string ⟨#[]⟩] 9)) := ((Below.refl _ w).alloc (Nat.le_refl _) _).alloc (by simp) _
  go_enter Tryz.func118, Tryz.ntmps118
  go_wp2
  refine bodyPost_ret (none_result w.heap.size _ _ _ _ rfl hK) rfl ⟨w.heap.size + 1, rfl, by omega, ?_, hB⟩
  simpa [strCells] using hN
def bst (l : List UInt8) : ByteArray := ⟨l.toArray⟩
/-- What a group's form is, in memory: its map, its row of closes; the blocks that it lies in. -/
structure FormAt (w : World) (op : Bk.Op) (mp cs : Value) (F : List Nat) : Prop where
  map : match Bk.chain op with
    | none => mp = .map none
    | some (t, a, l) => ∃ m r1 r2 r3 base, mp = .map (some m) ∧ ChainAt w base (bst t) (bst a) (bst l) m r1 r2 r3 ∧ m ∈ F ∧ r1 ∈ F ∧ r2 ∈ F ∧ r3 ∈ F
  closes : (Bk.closes op = [] ∧ cs = .slice none 0 0) ∨ ∃ g c, cs = .slice (some ⟨g, 0, none⟩) (Bk.closes op).length c ∧ StrRow w g ((Bk.closes op).map bst) ∧ g ∈ F
theorem StrRow.keep {w w' : World} {g : Nat} {l : List ByteArray} (h : StrRow w g l) (k : w'.heap[g]? = w.heap[g]?) : StrRow w' g l := by
  intro i x hx
  rw [← h i x hx]
  unfold World.cell?
  rw [k]
theorem ChainAt.keep {w w' : World} {base : Nat} {th ag la : ByteArray} {m r1 r2 r3 : Nat} (h : ChainAt w base th ag la m r1 r2 r3) (km : w'.heap[m]? = w.heap[m]?) (k1 : w'.heap[r1]? = w.heap[r1]?) (k2 : w'.heap[r2]? = w.heap[r2]?) (k3 : w'.heap[r3]? = w.heap[r3]?) : ChainAt w' base th ag la m r1 r2 r3 := by
  refine ⟨h.bm, h.b1, h.b2, h.b3, ?_, k1.trans h.w1, k2.trans h.w2, k3.trans h.w3⟩
  obtain ⟨es, c, h1, h2⟩ := h.map
  exact ⟨es, c, km.trans h1, h2⟩
theorem FormAt.keep {w w' : World} {op : Bk.Op} {mp cs : Value} {F : List Nat} (h : FormAt w op mp cs F) (k : ∀ b ∈ F, w'.heap[b]? = w.heap[b]?) : FormAt w' op mp cs F := by
  refine ⟨?_, ?_⟩
  · have := h.map
    cases hc : Bk.chain op with
    | none => rw [hc] at this; exact this
    | some p =>
      obtain ⟨t, a, l⟩ := p
      rw [hc] at this
      obtain ⟨m, r1, r2, r3, base, h1, h2, h3, h4, h5, h6⟩ := this
      exact ⟨m, r1, r2, r3, base, h1, h2.keep (k m h3) (k r1 h4) (k r2 h5) (k r3 h6), h3, h4, h5, h6⟩
  · rcases h.closes with h1 | ⟨g, c, h1, h2, h3⟩
    · exact .inl h1
    · exact .inr ⟨g, c, h1, h2.keep (k g h3), h3⟩
/-- What forms answers: an opening bracket. -/
def FormsPost (w : World) (op : Bk.Op) (e : Ending) (w' : World) : Prop :=
  ∃ mp cs F, e = .returned (.tuple #[.agg #[.string (bst (Bk.close op)), mp, cs], .bool true]) ∧ FormAt w' op mp cs F ∧ (∀ b ∈ F, w.heap.size ≤ b ∧ b < w'.heap.size) ∧ Below w.heap.size w w'
set_option maxRecDepth 100000 in
set_option maxHeartbeats 4000000 in
theorem bForms_beg (w : World) : Calls Tryz.prog 58 #[.string ⟨#[66, 69, 71, 73, 78]⟩] w (FormsPost w .beg) := by
  have KA := heap_alloc_new w (.cells #[.string ⟨#[]⟩, .map none, .slice none 0 0] 86)
  have hBA : Below w.heap.size w (w.alloc (.cells #[.string ⟨#[]⟩, .map none, .slice none 0 0] 86)) := below_alloc0 (Below.refl _ _) _
  have hsz : (w.alloc (.cells #[.string ⟨#[]⟩, .map none, .slice none 0 0] 86)).heap.size = w.heap.size + 1 := by simp
  go_enter Tryz.func58, Tryz.ntmps58
  go_wp2_with (first | (go_at_call 118; refine (bNone_c _ _).mono ?_; rintro e w1 ⟨b, rfl, hb0, hb1, hb⟩; have K1 := (hb.block w.heap.size (by omega)).trans KA; have c0 := cell_of_blk K1 0; have c1 := cell_of_blk K1 1; have c2 := cell_of_blk K1 2; have g0 := free_of_blk K1 0; have g1 := free_of_blk K1 1; have g2 := free_of_blk K1 2))
  all_goals skip
  have X1 := set3 K1 (.string ⟨#[69, 78, 68]⟩) (.map none) (.slice (some ⟨b, 0, none⟩) 1 1)
  have hne : b ≠ w.heap.size := by omega
  have y1 := set3_ne hb1 hne (.string ⟨#[69, 78, 68]⟩) (.map none) (.slice (some ⟨b, 0, none⟩) 1 1)
  have hbl := lt_of_blk hb1
  refine forms_end X1 ⟨.map none, .slice (some ⟨b, 0, none⟩) 1 1, [b], rfl, ⟨rfl, .inr ⟨b, 1, rfl, strRow_of y1, by simp⟩⟩, fun x hx => ?_, (((hBA.trans (hb.mono (by omega))).setCell (Nat.le_refl _) _).setCell (Nat.le_refl _) _).setCell (Nat.le_refl _) _⟩
  obtain rfl : x = b := by simpa using hx
  exact ⟨by omega, by simpa using hbl⟩
set_option maxRecDepth 100000 in
set_option maxHeartbeats 4000000 in
theorem bForms_sub (w : World) : Calls Tryz.prog 58 #[.string ⟨#[91]⟩] w (FormsPost w .sub) := by
  have KA := heap_alloc_new w (.cells #[.string ⟨#[]⟩, .map none, .slice none 0 0] 86)
  have hBA : Below w.heap.size w (w.alloc (.cells #[.string ⟨#[]⟩, .map none, .slice none 0 0] 86)) := below_alloc0 (Below.refl _ _) _
  have hsz : (w.alloc (.cells #[.string ⟨#[]⟩, .map none, .slice none 0 0] 86)).heap.size = w.heap.size + 1 := by simp
  go_enter Tryz.func58, Tryz.ntmps58
  go_wp2_with (first | (go_at_call 118; refine (bNone_c _ _).mono ?_; rintro e w1 ⟨b, rfl, hb0, hb1, hb⟩; have K1 := (hb.block w.heap.size (by omega)).trans KA; have c0 := cell_of_blk K1 0; have c1 := cell_of_blk K1 1; have c2 := cell_of_blk K1 2; have g0 := free_of_blk K1 0; have g1 := free_of_blk K1 1; have g2 := free_of_blk K1 2))
  all_goals skip
  have X1 := set3 K1 (.string ⟨#[93]⟩) (.map none) (.slice (some ⟨b, 0, none⟩) 1 1)
  have hne : b ≠ w.heap.size := by omega
  have y1 := set3_ne hb1 hne (.string ⟨#[93]⟩) (.map none) (.slice (some ⟨b, 0, none⟩) 1 1)
  have hbl := lt_of_blk hb1
  refine forms_end X1 ⟨.map none, .slice (some ⟨b, 0, none⟩) 1 1, [b], rfl, ⟨rfl, .inr ⟨b, 1, rfl, strRow_of y1, by simp⟩⟩, fun x hx => ?_, (((hBA.trans (hb.mono (by omega))).setCell (Nat.le_refl _) _).setCell (Nat.le_refl _) _).setCell (Nat.le_refl _) _⟩
  obtain rfl : x = b := by simpa using hx
  exact ⟨by omega, by simpa using hbl⟩
set_option maxRecDepth 100000 in
set_option maxHeartbeats 4000000 in
theorem bForms_dos (w : World) : Calls Tryz.prog 58 #[.string ⟨#[68, 79]⟩] w (FormsPost w .dos) := by
  have KA := heap_alloc_new w (.cells #[.string ⟨#[]⟩, .map none, .slice none 0 0] 86)
  have hBA : Below w.heap.size w (w.alloc (.cells #[.string ⟨#[]⟩, .map none, .slice none 0 0] 86)) := below_alloc0 (Below.refl _ _) _
  have hsz : (w.alloc (.cells #[.string ⟨#[]⟩, .map none, .slice none 0 0] 86)).heap.size = w.heap.size + 1 := by simp
  go_enter Tryz.func58, Tryz.ntmps58
  go_wp2_with (first | (go_at_call 118; refine (bNone_c _ _).mono ?_; rintro e w1 ⟨b, rfl, hb0, hb1, hb⟩; have K1 := (hb.block w.heap.size (by omega)).trans KA; have c0 := cell_of_blk K1 0; have c1 := cell_of_blk K1 1; have c2 := cell_of_blk K1 2; have g0 := free_of_blk K1 0; have g1 := free_of_blk K1 1; have g2 := free_of_blk K1 2))
  all_goals skip
  have X1 := set3 K1 (.string ⟨#[79, 68]⟩) (.map none) (.slice (some ⟨b, 0, none⟩) 1 1)
  have hne : b ≠ w.heap.size := by omega
  have y1 := set3_ne hb1 hne (.string ⟨#[79, 68]⟩) (.map none) (.slice (some ⟨b, 0, none⟩) 1 1)
  have hbl := lt_of_blk hb1
  refine forms_end X1 ⟨.map none, .slice (some ⟨b, 0, none⟩) 1 1, [b], rfl, ⟨rfl, .inr ⟨b, 1, rfl, strRow_of y1, by simp⟩⟩, fun x hx => ?_, (((hBA.trans (hb.mono (by omega))).setCell (Nat.le_refl _) _).setCell (Nat.le_refl _) _).setCell (Nat.le_refl _) _⟩
  obtain rfl : x = b := by simpa using hx
  exact ⟨by omega, by simpa using hbl⟩
set_option maxRecDepth 100000 in
set_option maxHeartbeats 4000000 in
theorem bForms_ifs (w : World) : Calls Tryz.prog 58 #[.string ⟨#[73, 70]⟩] w (FormsPost w .ifs) := by
  have KA := heap_alloc_new w (.cells #[.string ⟨#[]⟩, .map none, .slice none 0 0] 86)
  have hBA : Below w.heap.size w (w.alloc (.cells #[.string ⟨#[]⟩, .map none, .slice none 0 0] 86)) := below_alloc0 (Below.refl _ _) _
  have hsz : (w.alloc (.cells #[.string ⟨#[]⟩, .map none, .slice none 0 0] 86)).heap.size = w.heap.size + 1 := by simp
  go_enter Tryz.func58, Tryz.ntmps58
  go_wp2_with (first | (go_at_call 119; refine (bChain_c _ ⟨#[84, 72, 69, 78]⟩ ⟨#[69, 76, 73, 70]⟩ ⟨#[69, 76, 83, 69]⟩ (by decide) (by decide) (by decide) false _).mono ?_; rintro e w1 ⟨m, r1, r2, r3, rc, c, rfl, hb, hC, hrc, hrow⟩; have K1 := (hb.block w.heap.size (by omega)).trans KA; have c0 := cell_of_blk K1 0; have c1 := cell_of_blk K1 1; have c2 := cell_of_blk K1 2; have g0 := free_of_blk K1 0; have g1 := free_of_blk K1 1; have g2 := free_of_blk K1 2))
  all_goals skip
  have X1 := set3 K1 (.string ⟨#[70, 73]⟩) (.map (some m)) (.slice (some ⟨rc, 0, none⟩) (closesOf false ⟨#[84, 72, 69, 78]⟩ ⟨#[69, 76, 83, 69]⟩).length c)
  rw [hsz] at hC hrc
  obtain ⟨es, cl, hm, _⟩ := hC.map
  have l0 := (Array.getElem?_eq_some_iff.1 hm).1
  have l1 := lt_of_blk hC.w1
  have l2 := lt_of_blk hC.w2
  have l3 := lt_of_blk hC.w3
  have l4 : rc < w1.heap.size := World.block_lt_of_cell? w1 _ (hrow 0 _ rfl)
  have b0 := hC.bm
  have b1 := hC.b1
  have b2 := hC.b2
  have b3 := hC.b3
  have kp : ∀ x, w.heap.size + 1 ≤ x → (((w1.setCell ⟨w.heap.size, 0, none⟩ (.string ⟨#[70, 73]⟩)).setCell ⟨w.heap.size, 1, none⟩ (.map (some m))).setCell ⟨w.heap.size, 2, none⟩ (.slice (some ⟨rc, 0, none⟩) (closesOf false ⟨#[84, 72, 69, 78]⟩ ⟨#[69, 76, 83, 69]⟩).length c)).heap[x]? = w1.heap[x]? := by
    intro x hx
    have hne : x ≠ w.heap.size := by omega
    rw [Below.heap_setCell _ _ _ _ hne, Below.heap_setCell _ _ _ _ hne, Below.heap_setCell _ _ _ _ hne]
  refine forms_end X1 ⟨_, _, [m, r1, r2, r3, rc], rfl, ⟨⟨m, r1, r2, r3, _, rfl, hC.keep (kp m b0) (kp r1 b1) (kp r2 b2) (kp r3 b3), by simp, by simp, by simp, by simp⟩, .inr ⟨rc, c, rfl, hrow.keep (kp rc hrc), by simp⟩⟩, fun x hx => ?_, (((hBA.trans (hb.mono (by omega))).setCell (Nat.le_refl _) _).setCell (Nat.le_refl _) _).setCell (Nat.le_refl _) _⟩
  simp only [List.mem_cons, List.not_mem_nil, or_false] at hx
  have hs : (((w1.setCell ⟨w.heap.size, 0, none⟩ (.string ⟨#[70, 73]⟩)).setCell ⟨w.heap.size, 1, none⟩ (.map (some m))).setCell ⟨w.heap.size, 2, none⟩ (.slice (some ⟨rc, 0, none⟩) (closesOf false ⟨#[84, 72, 69, 78]⟩ ⟨#[69, 76, 83, 69]⟩).length c)).heap.size = w1.heap.size := by simp
  rw [hs]
  rcases hx with rfl | rfl | rfl | rfl | rfl <;> omega
set_option maxRecDepth 100000 in
set_option maxHeartbeats 4000000 in
theorem bForms_cases (w : World) : Calls Tryz.prog 58 #[.string ⟨#[67, 65, 83, 69]⟩] w (FormsPost w .cases) := by
  have KA := heap_alloc_new w (.cells #[.string ⟨#[]⟩, .map none, .slice none 0 0] 86)
  have hBA : Below w.heap.size w (w.alloc (.cells #[.string ⟨#[]⟩, .map none, .slice none 0 0] 86)) := below_alloc0 (Below.refl _ _) _
  have hsz : (w.alloc (.cells #[.string ⟨#[]⟩, .map none, .slice none 0 0] 86)).heap.size = w.heap.size + 1 := by simp
  go_enter Tryz.func58, Tryz.ntmps58
  go_wp2_with (first | (go_at_call 119; refine (bChain_c _ ⟨#[73, 78]⟩ ⟨#[79, 85, 83, 69]⟩ ⟨#[79, 85, 84]⟩ (by decide) (by decide) (by decide) false _).mono ?_; rintro e w1 ⟨m, r1, r2, r3, rc, c, rfl, hb, hC, hrc, hrow⟩; have K1 := (hb.block w.heap.size (by omega)).trans KA; have c0 := cell_of_blk K1 0; have c1 := cell_of_blk K1 1; have c2 := cell_of_blk K1 2; have g0 := free_of_blk K1 0; have g1 := free_of_blk K1 1; have g2 := free_of_blk K1 2))
  all_goals skip
  have X1 := set3 K1 (.string ⟨#[69, 83, 65, 67]⟩) (.map (some m)) (.slice (some ⟨rc, 0, none⟩) (closesOf false ⟨#[73, 78]⟩ ⟨#[79, 85, 84]⟩).length c)
  rw [hsz] at hC hrc
  obtain ⟨es, cl, hm, _⟩ := hC.map
  have l0 := (Array.getElem?_eq_some_iff.1 hm).1
  have l1 := lt_of_blk hC.w1
  have l2 := lt_of_blk hC.w2
  have l3 := lt_of_blk hC.w3
  have l4 : rc < w1.heap.size := World.block_lt_of_cell? w1 _ (hrow 0 _ rfl)
  have b0 := hC.bm
  have b1 := hC.b1
  have b2 := hC.b2
  have b3 := hC.b3
  have kp : ∀ x, w.heap.size + 1 ≤ x → (((w1.setCell ⟨w.heap.size, 0, none⟩ (.string ⟨#[69, 83, 65, 67]⟩)).setCell ⟨w.heap.size, 1, none⟩ (.map (some m))).setCell ⟨w.heap.size, 2, none⟩ (.slice (some ⟨rc, 0, none⟩) (closesOf false ⟨#[73, 78]⟩ ⟨#[79, 85, 84]⟩).length c)).heap[x]? = w1.heap[x]? := by
    intro x hx
    have hne : x ≠ w.heap.size := by omega
    rw [Below.heap_setCell _ _ _ _ hne, Below.heap_setCell _ _ _ _ hne, Below.heap_setCell _ _ _ _ hne]
  refine forms_end X1 ⟨_, _, [m, r1, r2, r3, rc], rfl, ⟨⟨m, r1, r2, r3, _, rfl, hC.keep (kp m b0) (kp r1 b1) (kp r2 b2) (kp r3 b3), by simp, by simp, by simp, by simp⟩, .inr ⟨rc, c, rfl, hrow.keep (kp rc hrc), by simp⟩⟩, fun x hx => ?_, (((hBA.trans (hb.mono (by omega))).setCell (Nat.le_refl _) _).setCell (Nat.le_refl _) _).setCell (Nat.le_refl _) _⟩
  simp only [List.mem_cons, List.not_mem_nil, or_false] at hx
  have hs : (((w1.setCell ⟨w.heap.size, 0, none⟩ (.string ⟨#[69, 83, 65, 67]⟩)).setCell ⟨w.heap.size, 1, none⟩ (.map (some m))).setCell ⟨w.heap.size, 2, none⟩ (.slice (some ⟨rc, 0, none⟩) (closesOf false ⟨#[73, 78]⟩ ⟨#[79, 85, 84]⟩).length c)).heap.size = w1.heap.size := by simp
  rw [hs]
  rcases hx with rfl | rfl | rfl | rfl | rfl <;> omega
set_option maxRecDepth 100000 in
set_option maxHeartbeats 4000000 in
theorem bForms_par (w : World) : Calls Tryz.prog 58 #[.string ⟨#[40]⟩] w (FormsPost w .par) := by
  have KA := heap_alloc_new w (.cells #[.string ⟨#[]⟩, .map none, .slice none 0 0] 86)
  have hBA : Below w.heap.size w (w.alloc (.cells #[.string ⟨#[]⟩, .map none, .slice none 0 0] 86)) := below_alloc0 (Below.refl _ _) _
  have hsz : (w.alloc (.cells #[.string ⟨#[]⟩, .map none, .slice none 0 0] 86)).heap.size = w.heap.size + 1 := by simp
  go_enter Tryz.func58, Tryz.ntmps58
  go_wp2_with (first | (go_at_call 119; refine (bChain_c _ ⟨#[124]⟩ ⟨#[124, 58]⟩ ⟨#[124]⟩ (by decide) (by decide) (by decide) true _).mono ?_; rintro e w1 ⟨m, r1, r2, r3, rc, c, rfl, hb, hC, hrc, hrow⟩; have K1 := (hb.block w.heap.size (by omega)).trans KA; have c0 := cell_of_blk K1 0; have c1 := cell_of_blk K1 1; have c2 := cell_of_blk K1 2; have g0 := free_of_blk K1 0; have g1 := free_of_blk K1 1; have g2 := free_of_blk K1 2))
  all_goals skip
  have X1 := set3 K1 (.string ⟨#[41]⟩) (.map (some m)) (.slice (some ⟨rc, 0, none⟩) (closesOf true ⟨#[124]⟩ ⟨#[124]⟩).length c)
  rw [hsz] at hC hrc
  obtain ⟨es, cl, hm, _⟩ := hC.map
  have l0 := (Array.getElem?_eq_some_iff.1 hm).1
  have l1 := lt_of_blk hC.w1
  have l2 := lt_of_blk hC.w2
  have l3 := lt_of_blk hC.w3
  have l4 : rc < w1.heap.size := World.block_lt_of_cell? w1 _ (hrow 0 _ rfl)
  have b0 := hC.bm
  have b1 := hC.b1
  have b2 := hC.b2
  have b3 := hC.b3
  have kp : ∀ x, w.heap.size + 1 ≤ x → (((w1.setCell ⟨w.heap.size, 0, none⟩ (.string ⟨#[41]⟩)).setCell ⟨w.heap.size, 1, none⟩ (.map (some m))).setCell ⟨w.heap.size, 2, none⟩ (.slice (some ⟨rc, 0, none⟩) (closesOf true ⟨#[124]⟩ ⟨#[124]⟩).length c)).heap[x]? = w1.heap[x]? := by
    intro x hx
    have hne : x ≠ w.heap.size := by omega
    rw [Below.heap_setCell _ _ _ _ hne, Below.heap_setCell _ _ _ _ hne, Below.heap_setCell _ _ _ _ hne]
  refine forms_end X1 ⟨_, _, [m, r1, r2, r3, rc], rfl, ⟨⟨m, r1, r2, r3, _, rfl, hC.keep (kp m b0) (kp r1 b1) (kp r2 b2) (kp r3 b3), by simp, by simp, by simp, by simp⟩, .inr ⟨rc, c, rfl, hrow.keep (kp rc hrc), by simp⟩⟩, fun x hx => ?_, (((hBA.trans (hb.mono (by omega))).setCell (Nat.le_refl _) _).setCell (Nat.le_refl _) _).setCell (Nat.le_refl _) _⟩
  simp only [List.mem_cons, List.not_mem_nil, or_false] at hx
  have hs : (((w1.setCell ⟨w.heap.size, 0, none⟩ (.string ⟨#[41]⟩)).setCell ⟨w.heap.size, 1, none⟩ (.map (some m))).setCell ⟨w.heap.size, 2, none⟩ (.slice (some ⟨rc, 0, none⟩) (closesOf true ⟨#[124]⟩ ⟨#[124]⟩).length c)).heap.size = w1.heap.size := by simp
  rw [hs]
  rcases hx with rfl | rfl | rfl | rfl | rfl <;> omega
set_option maxRecDepth 100000 in
set_option maxHeartbeats 4000000 in
theorem bForms_no (t : List UInt8) (h : Bk.opening t = none) (w : World) : Calls Tryz.prog 58 #[.string ⟨t.toArray⟩] w fun e w' => e = .returned (.tuple #[.agg #[.string ⟨#[]⟩, .map none, .slice none 0 0], .bool false]) ∧ Below w.heap.size w w' := by
  have h1 : t ≠ Bk.BEGIN := by intro e; rw [e] at h; cases h
  have h2 : t ≠ [91] := by intro e; rw [e] at h; cases h
  have h3 : t ≠ Bk.DO := by intro e; rw [e] at h; cases h
  have h4 : t ≠ Bk.IF := by intro e; rw [e] at h; cases h
  have h5 : t ≠ Bk.CASE := by intro e; rw [e] at h; cases h
  have h6 : t ≠ [40] := by intro e; rw [e] at h; cases h
  have d1 : (t == [66, 69, 71, 73, 78]) = false := beq_eq_false_iff_ne.2 h1
  have d2 : (t == [91]) = false := beq_eq_false_iff_ne.2 h2
  have d3 : (t == [68, 79]) = false := beq_eq_false_iff_ne.2 h3
  have d4 : (t == [73, 70]) = false := beq_eq_false_iff_ne.2 h4
  have d5 : (t == [67, 65, 83, 69]) = false := beq_eq_false_iff_ne.2 h5
  have d6 : (t == [40]) = false := beq_eq_false_iff_ne.2 h6
  have KA := heap_alloc_new w (.cells #[.string ⟨#[]⟩, .map none, .slice none 0 0] 86)
  have hBA : Below w.heap.size w (w.alloc (.cells #[.string ⟨#[]⟩, .map none, .slice none 0 0] 86)) := below_alloc0 (Below.refl _ _) _
  clear h h1 h2 h3 h4 h5 h6
  go_enter Tryz.func58, Tryz.ntmps58
  go_wp2
  exact forms_end KA ⟨rfl, hBA⟩
theorem bForms_c (t : List UInt8) (o : Bk.Op) (h : Bk.opening t = some o) (w : World) : Calls Tryz.prog 58 #[.string ⟨t.toArray⟩] w (FormsPost w o) := by
  unfold Bk.opening at h
  by_cases h1 : t = Bk.BEGIN
  · rw [if_pos h1] at h; injection h with h; subst h; subst h1; exact bForms_beg w
  rw [if_neg h1] at h
  by_cases h2 : t = [91]
  · rw [if_pos h2] at h; injection h with h; subst h; subst h2; exact bForms_sub w
  rw [if_neg h2] at h
  by_cases h3 : t = Bk.DO
  · rw [if_pos h3] at h; injection h with h; subst h; subst h3; exact bForms_dos w
  rw [if_neg h3] at h
  by_cases h4 : t = Bk.IF
  · rw [if_pos h4] at h; injection h with h; subst h; subst h4; exact bForms_ifs w
  rw [if_neg h4] at h
  by_cases h5 : t = Bk.CASE
  · rw [if_pos h5] at h; injection h with h; subst h; subst h5; exact bForms_cases w
  rw [if_neg h5] at h
  by_cases h6 : t = [40]
  · rw [if_pos h6] at h; injection h with h; subst h; subst h6; exact bForms_par w
  rw [if_neg h6] at h
  cases h
end Go.Proofs.YtjghijeblddijaaGreatDoor
