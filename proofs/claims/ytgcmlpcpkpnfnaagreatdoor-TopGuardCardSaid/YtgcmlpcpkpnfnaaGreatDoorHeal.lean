/- guard.heal: how many lack, and which the last; where two lack. -/
import Derived.Test.YtgcmlpcpkpnfnaaGreatDoorGuard1
namespace Go.Proofs.YtgcmlpcpkpnfnaaGreatDoor
open Go.ChangeShapes Go.WideShapes Go.ChangeAt Go.RowKit

/-- how many of the first j -/
def cntT (lk : List Bool) : Nat → Nat
  | 0 => 0
  | j + 1 => if lk.getD j false = true then cntT lk j + 1 else cntT lk j
/-- the last of the first j -/
def lstT (lk : List Bool) : Nat → Nat
  | 0 => 0
  | j + 1 => if lk.getD j false = true then j else lstT lk j
theorem cntT_le (lk : List Bool) : ∀ j, cntT lk j ≤ j
  | 0 => Nat.le_refl _
  | j + 1 => by
    have := cntT_le lk j
    unfold cntT
    split <;> omega
theorem lstT_le (lk : List Bool) : ∀ j, lstT lk j ≤ j
  | 0 => Nat.le_refl _
  | j + 1 => by
    have := lstT_le lk j
    unfold lstT
    split <;> omega
theorem cntT_mono (lk : List Bool) (j : Nat) : ∀ k, j ≤ k → cntT lk j ≤ cntT lk k
  | 0, h => by obtain rfl : j = 0 := by omega
               exact Nat.le_refl _
  | k + 1, h => by
    by_cases e : j = k + 1
    · rw [e]; exact Nat.le_refl _
    · have := cntT_mono lk j k (by omega)
      show cntT lk j ≤ (if lk.getD k false = true then cntT lk k + 1 else cntT lk k)
      split <;> omega

set_option maxHeartbeats 400000 in
set_option maxRecDepth 100000 in
theorem heal_two (v : Value) (a : Option Addr) (n cap : Nat) (lk : List Bool) (w : World) (h : BoolsAt w a n cap lk) (hn : n ≤ 100) (h2 : 2 ≤ cntT lk n) :
    Calls Tryz.prog 43 #[v, .slice a n cap] w fun e w' => e = .returned (.tuple #[.slice none 0 0, eno 8]) ∧ w = w' := by
  have hle := h.row.le
  have hcm := h.row.cap
  unfold maxLen at hcm
  have H1 := Lib.hid h; have H2 := Lib.hid h2
  clear h h2
  go_enter Tryz.func43, Tryz.ntmps43
  go_wp2
  go_loop [6, 7, 8, 9, 12] (fun many at_ _ _ i => ∃ j c l : Nat, j ≤ n ∧ c ≤ j ∧ l ≤ j ∧ i = .int .i64 j ∧ many = .int .i64 c ∧ at_ = .int .i64 l ∧ Hid (c = cntT lk j ∧ l = lstT lk j)) (fun _ _ _ _ i => n - (intOf i).toNat)
  case atStart => exact ⟨0, 0, 0, Nat.zero_le _, Nat.le_refl _, Nat.le_refl _, rfl, rfl, rfl, rfl, rfl⟩
  case round =>
    obtain ⟨j, c, l, hj, hcj, hlj, rfl, rfl, rfl, hrel⟩ := hrel
    by_cases hlt : j < n
    · obtain ⟨b, o, rfl, hc⟩ := H1.out.row.at_ (by omega)
      have c1 := hc j hlt
      obtain ⟨t, ht⟩ : ∃ t, t = lk.getD j false := ⟨_, rfl⟩
      rw [← ht] at c1
      have hs : cntT lk (j + 1) = if t = true then c + 1 else c := by rw [ht, hrel.out.1]; rfl
      have hs2 : lstT lk (j + 1) = if t = true then j else l := by rw [ht, hrel.out.2]; rfl
      have HS := Lib.hid hs; have HS2 := Lib.hid hs2
      clear hc ht hs hs2
      cases t with
      | true =>
        go_wp2
        go_round
        case rel => exact ⟨j + 1, c + 1, j, by omega, by omega, by omega, by go_num, by go_num, rfl, by rw [HS.out, HS2.out]; exact ⟨rfl, rfl⟩⟩
        case measure => simp [intOf]; omega
      | false =>
        go_wp2
        go_round
        case rel => exact ⟨j + 1, c, l, by omega, by omega, by omega, by go_num, rfl, rfl, by rw [HS.out, HS2.out]; exact ⟨rfl, rfl⟩⟩
        case measure => simp [intOf]; omega
    · obtain rfl : j = n := by omega
      have hc2 : 2 ≤ c := by rw [hrel.out.1]; exact H2.out
      have d0 : ((c : Int) == 0) = false := by simp; omega
      have d1 : ((c : Int) == 1) = false := by rw [beq_eq_false_iff_ne]; omega
      go_wp2
      go_ret2
      exact ⟨rfl, rfl⟩
end Go.Proofs.YtgcmlpcpkpnfnaaGreatDoor
