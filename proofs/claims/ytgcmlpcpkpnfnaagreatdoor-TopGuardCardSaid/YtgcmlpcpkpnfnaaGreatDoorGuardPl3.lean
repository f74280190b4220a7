/- Plain laws on what guard.heal makes of a group, and on the number of blocks that there were. -/
import Derived.Test.YtgcmlpcpkpnfnaaGreatDoorHeal1
import Derived.Test.YtgcmlpcpkpnfnaaGreatDoorGuardPl2
namespace Go.Proofs.YtgcmlpcpkpnfnaaGreatDoor
open Go.ChangeShapes Go.WideShapes Go.ChangeAt Go.RowKit

theorem datF_spec (all e : Nat) : ∀ f m, datF all e f m ≠ 0 → datF all e f m + grps (datF all e f m) e = all ∧ datF all e f m < all
  | 0, _, h => absurd rfl h
  | f + 1, m, h => by
    unfold datF at h ⊢
    by_cases h1 : m < all
    · rw [if_pos h1] at h ⊢
      by_cases h2 : m + grps m e = all
      · rw [if_pos h2]; exact ⟨h2, h1⟩
      · rw [if_neg h2] at h ⊢
        exact datF_spec all e f (m + 1) h
    · rw [if_neg h1] at h; exact absurd rfl h
theorem dat_spec (all e : Nat) (h : dat all e ≠ 0) : dat all e + grps (dat all e) e = all ∧ dat all e < all := datF_spec all e all 1 h

/-- what guard.heal answers: its error -/
def hlE (m : Nat) (gs : List ByteArray) (lk : List Bool) : Nat :=
  if cntT lk gs.length = 0 then (if ovl m (bts gs) = noughts m then 0 else 7) else if cntT lk gs.length = 1 then 0 else 8
/-- and the group behind it -/
def hlS (m : Nat) (gs : List ByteArray) (lk : List Bool) : List ByteArray :=
  if cntT lk gs.length = 1 then (gs.set (lstT lk gs.length) (S (noughts m))).set (lstT lk gs.length) (S (ovl m (bts (gs.set (lstT lk gs.length) (S (noughts m)))))) else gs
theorem hlS_length (m : Nat) (gs : List ByteArray) (lk : List Bool) : (hlS m gs lk).length = gs.length := by
  unfold hlS
  split
  · simp
  · rfl
end Go.Proofs.YtgcmlpcpkpnfnaaGreatDoor
