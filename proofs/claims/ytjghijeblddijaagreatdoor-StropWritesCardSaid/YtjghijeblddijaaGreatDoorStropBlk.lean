/- Blanks and comments before a symbol: the four remarks, in plain Lean. -/
import Derived.Test.YtjghijeblddijaaGreatDoorStropCutD
namespace Go.Proofs.YtjghijeblddijaaGreatDoor
namespace Sp
def remark (k : Nat) : List UInt8 :=
  if k = 0 then [32] else if k = 1 then [10, 9] else if k = 2 then [35, 32, 105, 116, 39, 115, 32, 97, 32, 36, 32, 99, 111, 109, 109, 101, 110, 116, 32, 35] else [35, 34, 35]
theorem remark_len (k : Nat) : (remark k).length ≤ 20 := by
  unfold remark
  split
  · decide
  · split
    · decide
    · split <;> decide
theorem cut_blank (c : UInt8) (b : List UInt8) (h : blank c = true) : Cut (c :: b) := fun _ _ e => by
  injection e with e _
  exact .inl (e ▸ h)
theorem cut_hash (b : List UInt8) : Cut (35 :: b) := fun _ _ e => by
  injection e with e _
  exact .inr e.symm
theorem skip_blank (c : UInt8) (b : List UInt8) (h : blank c = true) (f r pos : Nat) : scan f r (c :: b) pos = scan f r b (pos + 1) := by
  rw [scan_tl f r (c :: b), scan_tl f r b, tl_blank c b h, bl_blank c b h]
  congr 1; omega
theorem remark_put (k : Nat) (hk : k < 4) (s : List UInt8) (regime : Int) (l : List Sym) (h : symbols s regime = .ok l) (i : Nat) (x : Sym) (hi : l[i]? = some x) (hs : s.length ≤ 300) :
    ∃ m, symbols (s.take x.pos.toNat ++ remark k ++ s.drop x.pos.toNat) regime = .ok m ∧ alike l m = true := by
  have hl := remark_len k
  refine symbols_put s (remark k) regime l h i x hi (by omega) ?_ ?_ ?_
  · intro b
    have : k = 0 ∨ k = 1 ∨ k = 2 ∨ k = 3 := by omega
    rcases this with rfl | rfl | rfl | rfl
    · exact cut_blank _ _ (by decide)
    · exact cut_blank _ _ (by decide)
    · exact cut_hash _
    · exact cut_hash _
  · intro b
    have : k = 0 ∨ k = 1 ∨ k = 2 ∨ k = 3 := by omega
    rcases this with rfl | rfl | rfl | rfl
    · exact .inr (.inr (tl_blank 32 b (by decide)))
    · exact .inr (.inr ((tl_blank 10 (9 :: b) (by decide)).trans (tl_blank 9 b (by decide))))
    · exact .inr (.inl ⟨_, tl_not 35 _ (by decide)⟩)
    · exact .inr (.inl ⟨_, tl_not 35 _ (by decide)⟩)
  · intro r' b pos hr
    have : k = 0 ∨ k = 1 ∨ k = 2 ∨ k = 3 := by omega
    have hr3 : r' = 0 ∨ r' = 1 ∨ r' = 2 := by omega
    rcases this with rfl | rfl | rfl | rfl
    · exact ⟨0, 0, fun f => skip_blank 32 b (by decide) _ _ _⟩
    · exact ⟨0, 0, fun f => (skip_blank 10 (9 :: b) (by decide) _ _ _).trans (skip_blank 9 b (by decide) _ _ _)⟩
    · refine ⟨1, 0, fun f => ?_⟩
      have hsy : symbol r' (remark 2 ++ b) = .skip 20 r' := by
        rcases hr3 with rfl | rfl | rfl <;> rfl
      rw [scan_step f r' (remark 2 ++ b) pos (bl_not 35 _ (by decide)) (by simp [remark]), hsy]
      rfl
    · refine ⟨1, 0, fun f => ?_⟩
      have hsy : symbol r' (remark 3 ++ b) = .skip 3 r' := by
        rcases hr3 with rfl | rfl | rfl <;> rfl
      rw [scan_step f r' (remark 3 ++ b) pos (bl_not 35 _ (by decide)) (by simp [remark]), hsy]
      rfl
end Sp
end Go.Proofs.YtjghijeblddijaaGreatDoor
