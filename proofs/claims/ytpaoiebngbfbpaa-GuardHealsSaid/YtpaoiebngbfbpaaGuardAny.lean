/- guard.Add, guard.Heal and the document's, each in one contract that gives a slice and an error. -/
import Derived.Test.YtpaoiebngbfbpaaRefHealAny
import Derived.Test.YtpaoiebngbfbpaaGuardBad
namespace Go.Proofs.Ytpaoiebngbfbpaa
open Go.ChangeShapes Go.WideShapes Go.ChangeAt Go.RowKit

def addL (ss : List ByteArray) (e : Int) : List ByteArray := if addE ss e = 0 then addS ss e.toNat else []
theorem addE_zero {ss : List ByteArray} {e : Int} (h : addE ss e = 0) : chk ss = 0 ∧ 1 ≤ e ∧ e ≤ 16 ∧ ss.length + grps ss.length e.toNat ≤ 16 := by
  unfold addE at h
  by_cases h1 : chk ss ≠ 0
  · rw [if_pos h1] at h; exact absurd h h1
  rw [if_neg h1] at h
  by_cases h2 : e < 1 ∨ 16 < e
  · rw [if_pos h2] at h; cases h
  rw [if_neg h2] at h
  by_cases h3 : 16 < ss.length + grps ss.length e.toNat
  · rw [if_pos h3] at h; cases h
  · exact ⟨by omega, by omega, by omega, by omega⟩
theorem add_any (a : Option Addr) (n cap : Nat) (ss : List ByteArray) (e : Int) (w : World) (h : StrsAt w a n cap ss) :
    Calls Try.prog 4 #[.slice a n cap, .int .i64 e] w fun x w' => (∃ b k c, x = .returned (.tuple #[.slice b k c, errv (addE ss e)]) ∧ StrsAt w' b k c (addL ss e)) ∧ Lat w w' := by
  by_cases h0 : addE ss e = 0
  · obtain ⟨h1, h2, h3, h4⟩ := addE_zero h0
    obtain ⟨k, rfl⟩ : ∃ k : Nat, e = k := ⟨e.toNat, by omega⟩
    rw [Int.toNat_natCast, h.len] at h4
    have hck := chk_ok h1
    refine (add_ok a n cap ss k w h h1 (by omega) (by omega) h4).mono ?_
    rintro x w' ⟨v, rfl, hov, hb⟩
    obtain ⟨b, c, rfl, hat⟩ := OwnStrs.slice hov (fun s hs => by rw [addS_sizes hck k s hs]; have := hck.eight; unfold maxLen; omega)
    refine ⟨⟨b, _, c, by rw [h0, errv_zero rfl], ?_⟩, hb⟩
    unfold addL
    rw [if_pos h0, Int.toNat_natCast]; exact hat
  · refine (add_err a n cap ss e w h h0).mono ?_
    rintro x w' ⟨rfl, hb⟩
    refine ⟨⟨none, 0, 0, by rw [errv_pos h0], ?_⟩, hb⟩
    unfold addL
    rw [if_neg h0]; exact StrsAt.nil _
def healL (xs : List ByteArray) (lk : List Bool) (e : Int) : List ByteArray := if healE xs lk e = 0 then healS xs lk e else []
theorem healE_chk {xs : List ByteArray} {lk : List Bool} {e : Int} (h : healE xs lk e = 0) : chk xs = 0 := by
  unfold healE at h
  by_cases h1 : chk xs ≠ 0
  · rw [if_pos h1] at h; exact absurd h h1
  · omega
theorem healS_le {xs : List ByteArray} {lk : List Bool} {e : Int} (h : healE xs lk e = 0) : ∀ s ∈ healS xs lk e, s.size ≤ maxLen := fun s hs => by
  have hck := chk_ok (healE_chk h)
  have := hgS_le8 xs lk (szAt xs 0) _ _ (fun s hs => by rw [add_sizes hck s hs]; exact Nat.le_refl _) _ s hs
  have h8 := hck.eight
  unfold maxLen; omega
theorem Heal_all (a : Option Addr) (n cap : Nat) (xs : List ByteArray) (a2 : Option Addr) (n2 c2 : Nat) (lk : List Bool) (e : Int) (w : World) (h : StrsAt w a n cap xs) (h2 : BoolsAt w a2 n2 c2 lk) :
    Calls Try.prog 5 #[.slice a n cap, .slice a2 n2 c2, .int .i64 e] w fun x w' => (∃ b k c, x = .returned (.tuple #[.slice b k c, errv (healE xs lk e)]) ∧ StrsAt w' b k c (healL xs lk e)) ∧ Lat w w' := by
  refine (Heal_any a n cap xs a2 n2 c2 lk e w h h2).mono ?_
  rintro x w' ⟨⟨v, rfl, h3, h4⟩, hb⟩
  refine ⟨?_, hb⟩
  unfold healL
  by_cases h0 : healE xs lk e = 0
  · obtain ⟨b, c, rfl, hat⟩ := OwnStrs.slice (h3 h0) (healS_le h0)
    rw [if_pos h0]; exact ⟨_, _, _, rfl, hat⟩
  · rw [h4 h0, if_neg h0]; exact ⟨_, _, _, rfl, StrsAt.nil _⟩
end Go.Proofs.Ytpaoiebngbfbpaa
