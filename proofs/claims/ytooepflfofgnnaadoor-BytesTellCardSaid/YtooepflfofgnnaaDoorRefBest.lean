/- The contract of dropref2.Best. -/
import Derived.Test.YtooepflfofgnnaaDoorRefShift
import Derived.Test.YtooepflfofgnnaaDoorMoved
namespace Go.Proofs.YtooepflfofgnnaaDoor
open Go.ChangeShapes Go.WideShapes Go.ChangeAt Go.RowKit

/-- how far the k-th is, and what is kept ahead of it -/
def RB (wd hg : Nat) (zs ys : List Int) (k : Nat) (B X Y : Int) : Prop :=
  (k = 0 ∧ B = -1 ∧ X = 0 ∧ Y = 0) ∨ (k ≠ 0 ∧ B = mfar wd hg zs ys (mvX (bst wd hg zs ys k)) (mvY (bst wd hg zs ys k)) ∧ X = mvX (bst wd hg zs ys k) ∧ Y = mvY (bst wd hg zs ys k))
theorem RB.take {wd hg : Nat} {zs ys : List Int} {k : Nat} {B X Y : Int} (h : RB wd hg zs ys k B X Y) (hn : B < 0 ∨ mfar wd hg zs ys (mvX k) (mvY k) < B) : RB wd hg zs ys (k + 1) (mfar wd hg zs ys (mvX k) (mvY k)) (mvX k) (mvY k) := by
  right
  rcases h with ⟨rfl, rfl, rfl, rfl⟩ | ⟨h0, rfl, rfl, rfl⟩
  · have e : bst wd hg zs ys (0 + 1) = 0 := by rw [bst, bst]; split <;> rfl
    rw [e]
    exact ⟨by omega, rfl, rfl, rfl⟩
  · have hnn := farS_nonneg (shf wd hg zs (mvX (bst wd hg zs ys k)) (mvY (bst wd hg zs ys k)) zs.length) ys zs.length
    have hlt : mfar wd hg zs ys (mvX k) (mvY k) < mfar wd hg zs ys (mvX (bst wd hg zs ys k)) (mvY (bst wd hg zs ys k)) := by
      rcases hn with h | h
      · unfold mfar at h; omega
      · exact h
    have e : bst wd hg zs ys (k + 1) = k := by rw [bst, if_pos hlt]
    rw [e]
    exact ⟨by omega, rfl, rfl, rfl⟩
theorem RB.leave {wd hg : Nat} {zs ys : List Int} {k : Nat} {B X Y : Int} (h : RB wd hg zs ys k B X Y) (h1 : ¬ B < 0) (h2 : ¬ mfar wd hg zs ys (mvX k) (mvY k) < B) : RB wd hg zs ys (k + 1) B X Y := by
  right
  rcases h with ⟨rfl, rfl, rfl, rfl⟩ | ⟨h0, rfl, rfl, rfl⟩
  · omega
  · have e : bst wd hg zs ys (k + 1) = bst wd hg zs ys k := by rw [bst, if_neg h2]
    rw [e]
    exact ⟨by omega, rfl, rfl, rfl⟩

end Go.Proofs.YtooepflfofgnnaaDoor
