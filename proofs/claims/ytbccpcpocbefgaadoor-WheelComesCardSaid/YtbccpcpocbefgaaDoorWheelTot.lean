/- The contracts of dropref1.Wheel, wheel.At, Row, When without a premise, and when a seed comes first. -/
import Derived.Test.YtbccpcpocbefgaaDoorRefWheel
namespace Go.Proofs.YtbccpcpocbefgaaDoor
open Go.ChangeShapes Go.WideShapes Go.ChangeAt Go.RowKit

def rwE (k x t : Int) : Nat := if k < 1 ∨ 16 < k ∨ x < 0 ∨ 16 < x ∨ t < 0 ∨ 1000 < t then 1 else 0
def rwS (k x t : Int) : Nat := if rwE k x t = 0 then whl k.toNat x.toNat t.toNat else 0
theorem rwE_nat (k x t : Nat) (h0 : 1 ≤ k) (h1 : k ≤ 16) (h3 : x ≤ 16) (ht : t ≤ 1000) : rwE k x t = 0 ∧ rwS k x t = whl k x t := by
  have e : rwE k x t = 0 := by unfold rwE; rw [if_neg (by omega)]
  exact ⟨e, by unfold rwS; rw [if_pos e]; simp⟩
theorem rwE_zero {k x t : Int} (h : rwE k x t = 0) : 1 ≤ k ∧ k ≤ 16 ∧ 0 ≤ x ∧ x ≤ 16 ∧ 0 ≤ t ∧ t ≤ 1000 := by
  unfold rwE at h; split at h <;> omega
theorem rwE_one {k x t : Int} (h : rwE k x t ≠ 0) : rwE k x t = 1 ∧ (k < 1 ∨ 16 < k ∨ x < 0 ∨ 16 < x ∨ t < 0 ∨ 1000 < t) := by
  unfold rwE at h ⊢; split at h
  · rename_i q; exact ⟨if_pos q, q⟩
  · omega
theorem wAt_tot (k x t : Int) (w : World) :
    Calls Tryd.prog 21 #[.int .i64 k, .int .i64 x, .int .i64 t] w fun e w' => e = .returned (.tuple #[.int .i64 (rwS k x t), errv (rwE k x t)]) ∧ Lat w w' := by
  by_cases h : rwE k x t = 0
  · obtain ⟨a1, a2, a3, a4, a5, a6⟩ := rwE_zero h
    obtain ⟨k, rfl⟩ := Int.eq_ofNat_of_zero_le (show 0 ≤ k by omega)
    obtain ⟨x, rfl⟩ := Int.eq_ofNat_of_zero_le a3
    obtain ⟨t, rfl⟩ := Int.eq_ofNat_of_zero_le a5
    obtain ⟨e1, e2⟩ := rwE_nat k x t (by omega) (by omega) (by omega) (by omega)
    rw [e1, e2, errv_zero rfl]
    exact wAt_ok k x t w (by omega) (by omega) (by omega) (by omega)
  · obtain ⟨e1, e2⟩ := rwE_one h
    have e3 : rwS k x t = 0 := by unfold rwS; rw [if_neg h]
    rw [e1, e3, errv_pos (by omega)]
    exact (wAt_bad k x t w e2).mono fun e w' hh => ⟨hh.1, by rw [← hh.2]; exact Lat.refl _⟩

def wrE (k x t n : Int) : Nat := if k < 1 ∨ 16 < k ∨ x < 0 ∨ 16 < x ∨ t < 0 ∨ 1000 < t ∨ n < 0 ∨ 60 < n ∨ 1000 < t + n then 1 else 0
def wrL (k x t n : Int) : List Int := if wrE k x t n = 0 then whls k.toNat x.toNat t.toNat n.toNat else []
theorem wRow_tot (k x t n : Int) (w : World) :
    Calls Tryd.prog 20 #[.int .i64 k, .int .i64 x, .int .i64 t, .int .i64 n] w fun e w' => ∃ a cap, e = .returned (.tuple #[.slice a (wrL k x t n).length cap, errv (wrE k x t n)]) ∧ IntsAt w' a (wrL k x t n).length cap (wrL k x t n) ∧ Lat w w' := by
  by_cases h : k < 1 ∨ 16 < k ∨ x < 0 ∨ 16 < x ∨ t < 0 ∨ 1000 < t ∨ n < 0 ∨ 60 < n ∨ 1000 < t + n
  · have e : wrE k x t n = 1 := if_pos h
    have e2 : wrL k x t n = [] := by unfold wrL; rw [e]; rfl
    rw [e2, e, errv_pos (by omega)]
    exact (row_bad k x t n w h).mono fun e w' hh => ⟨none, 0, hh.1, IntsAt.nil _, by rw [← hh.2]; exact Lat.refl _⟩
  · have e : wrE k x t n = 0 := if_neg h
    obtain ⟨k, rfl⟩ := Int.eq_ofNat_of_zero_le (show 0 ≤ k by omega)
    obtain ⟨x, rfl⟩ := Int.eq_ofNat_of_zero_le (show 0 ≤ x by omega)
    obtain ⟨t, rfl⟩ := Int.eq_ofNat_of_zero_le (show 0 ≤ t by omega)
    obtain ⟨n, rfl⟩ := Int.eq_ofNat_of_zero_le (show 0 ≤ n by omega)
    have e2 : wrL k x t n = whls k x t n := by unfold wrL; rw [if_pos e]; simp
    rw [e2, e, errv_zero rfl, whls_length]
    exact row_ok k x t n w (by omega) (by omega) (by omega) (by omega) (by omega)

/-- when a seed comes first: the fault, and the time -/
def wnE (k x s : Int) : Nat := if rwE k x 0 ≠ 0 ∨ s < 1 ∨ 10000 < s then 1 else if s ≤ k then 0 else if x = 0 then 5 else if whenT k.toNat x.toNat (s - k - 1).toNat ≤ 1000 then 0 else 5
def wnV (k x s : Int) : Nat := if wnE k x s ≠ 0 then 0 else if s ≤ k then (s - 1).toNat else whenT k.toNat x.toNat (s - k - 1).toNat
theorem wWhen_tot (k x s : Int) (w : World) :
    Calls Tryd.prog 23 #[.int .i64 k, .int .i64 x, .int .i64 s] w fun e w' => e = .returned (.tuple #[.int .i64 (wnV k x s), errv (wnE k x s)]) ∧ Lat w w' := by
  by_cases h : rwE k x 0 ≠ 0 ∨ s < 1 ∨ 10000 < s
  · have e : wnE k x s = 1 := if_pos h
    have e2 : wnV k x s = 0 := by unfold wnV; rw [e]; rfl
    rw [e2, e, errv_pos (by omega)]
    refine when_bad k x s w ?_
    rcases h with h | h
    · have := (rwE_one h).2; omega
    · omega
  · have h0 : rwE k x 0 = 0 := by omega
    obtain ⟨a1, a2, a3, a4, _, _⟩ := rwE_zero h0
    obtain ⟨k, rfl⟩ := Int.eq_ofNat_of_zero_le (show 0 ≤ k by omega)
    obtain ⟨x, rfl⟩ := Int.eq_ofNat_of_zero_le a3
    obtain ⟨s, rfl⟩ := Int.eq_ofNat_of_zero_le (show 0 ≤ s by omega)
    by_cases h1 : s ≤ k
    · have e : wnE k x s = 0 := by unfold wnE; rw [if_neg h, if_pos (by omega)]
      have e2 : wnV k x s = s - 1 := by unfold wnV; rw [if_neg (by omega), if_pos (by omega)]; omega
      have e3 : ((s - 1 : Nat) : Int) = (s : Int) - 1 := by omega
      rw [e2, e, errv_zero rfl, e3]
      exact when_first k x s w (by omega) (by omega) (by omega) (by omega) h1
    · by_cases h2 : x = 0
      · have e : wnE k x s = 5 := by unfold wnE; rw [if_neg h, if_neg (by omega), if_pos (by omega)]
        have e2 : wnV k x s = 0 := by unfold wnV; rw [e]; rfl
        rw [e2, e, errv_pos (by omega)]
        subst h2
        exact when_none k s w (by omega) (by omega) (by omega) (by omega)
      · obtain ⟨N, hN⟩ : ∃ N, s = N + k + 1 := ⟨s - k - 1, by omega⟩
        have hgo := when_go k x N w (by omega) (by omega) (by omega) (by omega) (by omega)
        have eT : whenT (k : Int).toNat (x : Int).toNat ((s : Int) - k - 1).toNat = whenT k x N := by
          rw [Int.toNat_natCast, Int.toNat_natCast, show ((s : Int) - k - 1).toNat = N by omega]
        rw [← hN] at hgo
        by_cases h3 : whenT k x N ≤ 1000
        · have e : wnE k x s = 0 := by unfold wnE; rw [if_neg h, if_neg (by omega), if_neg (by omega), eT, if_pos h3]
          have e2 : wnV k x s = whenT k x N := by unfold wnV; rw [if_neg (by omega), if_neg (by omega), eT]
          rw [if_pos h3] at hgo
          rw [e2, e, errv_zero rfl]; exact hgo
        · have e : wnE k x s = 5 := by unfold wnE; rw [if_neg h, if_neg (by omega), if_neg (by omega), eT, if_neg h3]
          have e2 : wnV k x s = 0 := by unfold wnV; rw [e]; rfl
          rw [if_neg h3] at hgo
          rw [e2, e, errv_pos (by omega)]; exact hgo

/-- It comes first then, and never sooner. -/
theorem wn_spec (k x s : Nat) (h0 : 1 ≤ k) (h1 : k ≤ 16) (h3 : x ≤ 16) (hs : 1 ≤ s) (hs2 : s ≤ 10000) :
    (wnE k x s = 0 ∨ (wnE k x s = 5 ∧ wnV k x s = 0)) ∧ (wnE k x s = 0 → wnV k x s ≤ 1000 ∧ whl k x (wnV k x s) = s) ∧ ∀ m, m ≤ 1000 → whl k x m = s → wnE k x s = 0 ∧ wnV k x s ≤ m := by
  have hE0 : rwE k x 0 = 0 := (rwE_nat k x 0 h0 h1 h3 (by omega)).1
  have hn : ¬ (rwE k x 0 ≠ 0 ∨ (s : Int) < 1 ∨ 10000 < (s : Int)) := by omega
  by_cases hk : s ≤ k
  · have e : wnE k x s = 0 := by unfold wnE; rw [if_neg hn, if_pos (by omega)]
    have e2 : wnV k x s = s - 1 := by unfold wnV; rw [if_neg (by omega), if_pos (by omega)]; omega
    rw [e, e2]
    refine ⟨.inl rfl, fun _ => ⟨by omega, ?_⟩, fun m hm hw => ⟨rfl, ?_⟩⟩
    · unfold whl
      rw [Nat.mod_eq_of_lt (by omega), if_pos (by omega)]; omega
    · have := Nat.mod_le m (k + x)
      unfold whl at hw
      split at hw
      · omega
      · have h5 : 0 ≤ m / (k + x) * x := Nat.zero_le _
        omega
  · by_cases hx : x = 0
    · have e : wnE k x s = 5 := by unfold wnE; rw [if_neg hn, if_neg (by omega), if_pos (by omega)]
      have e2 : wnV k x s = 0 := by unfold wnV; rw [e]; rfl
      rw [e, e2]
      subst hx
      refine ⟨.inr ⟨rfl, rfl⟩, fun h => by omega, fun m hm hw => ?_⟩
      exfalso
      unfold whl at hw
      have := Nat.mod_lt m (show 0 < k + 0 by omega)
      rw [if_pos (by omega)] at hw
      omega
    · obtain ⟨N, hN⟩ : ∃ N, s = N + k + 1 := ⟨s - k - 1, by omega⟩
      have eT : whenT (k : Int).toNat (x : Int).toNat ((s : Int) - k - 1).toNat = whenT k x N := by
        rw [Int.toNat_natCast, Int.toNat_natCast, show ((s : Int) - k - 1).toNat = N by omega]
      have hw0 : whl k x (whenT k x N) = s := by
        unfold whenT
        rw [whl_high k x (N / x) (N % x) (Nat.mod_lt _ (by omega))]
        have := Nat.div_add_mod N x
        rw [Nat.mul_comm] at this
        omega
      have huniq : ∀ m, whl k x m = s → m = whenT k x N := fun m hw => by
        have hd := Nat.div_add_mod m (k + x)
        have hlt := Nat.mod_lt m (show 0 < k + x by omega)
        unfold whl at hw
        split at hw
        · omega
        · rename_i hp
          obtain ⟨i, hi⟩ : ∃ i, m % (k + x) = k + i := ⟨m % (k + x) - k, by omega⟩
          obtain ⟨r, hr⟩ : ∃ r, r = m / (k + x) := ⟨_, rfl⟩
          rw [hi, ← hr] at hw hd
          have hN2 : N = r * x + i := by omega
          have q1 : N / x = r := by rw [hN2, Nat.mul_comm, Nat.mul_add_div (by omega), Nat.div_eq_of_lt (by omega), Nat.add_zero]
          have q2 : N % x = i := by rw [hN2, Nat.mul_comm, Nat.mul_add_mod]; exact Nat.mod_eq_of_lt (by omega)
          unfold whenT
          rw [q1, q2, ← hd, Nat.mul_comm (k + x) r]; omega
      by_cases h4 : whenT k x N ≤ 1000
      · have e : wnE k x s = 0 := by unfold wnE; rw [if_neg hn, if_neg (by omega), if_neg (by omega), eT, if_pos h4]
        have e2 : wnV k x s = whenT k x N := by unfold wnV; rw [if_neg (by omega), if_neg (by omega), eT]
        rw [e, e2]
        exact ⟨.inl rfl, fun _ => ⟨h4, hw0⟩, fun m _ hw => ⟨rfl, by rw [huniq m hw]; exact Nat.le_refl _⟩⟩
      · have e : wnE k x s = 5 := by unfold wnE; rw [if_neg hn, if_neg (by omega), if_neg (by omega), eT, if_neg h4]
        have e2 : wnV k x s = 0 := by unfold wnV; rw [e]; rfl
        rw [e, e2]
        refine ⟨.inr ⟨rfl, rfl⟩, fun h => by omega, fun m hm hw => ?_⟩
        exfalso
        have := huniq m hw
        omega
end Go.Proofs.YtbccpcpocbefgaaDoor
