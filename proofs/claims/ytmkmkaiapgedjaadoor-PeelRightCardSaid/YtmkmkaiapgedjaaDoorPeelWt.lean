/- The contracts of peel.Waits, peel.Block. -/
import Derived.Test.YtmkmkaiapgedjaaDoorPeelT
namespace Go.Proofs.YtmkmkaiapgedjaaDoor
open Go.ChangeShapes Go.WideShapes Go.ChangeAt Go.RowKit

theorem peel_waits (G : Nat → Prop) (p k m : Nat) (K : Kn) (T : List Int) (L : List Wt) (w : World) (h : PeelO G p k m K T L w) :
    Calls Tryd.prog 29 #[.pointer (some ⟨p, 0, none⟩)] w fun e w' => e = .returned (.int .i64 L.length) ∧ w = w' := by
  obtain ⟨kb, tb, a, cap, h⟩ := h
  have c4 := h.c4
  obtain ⟨n, hn⟩ : ∃ n, n = L.length := ⟨_, rfl⟩
  rw [← hn] at c4 ⊢
  clear h hn
  go_enter Tryd.func29, Tryd.ntmps29
  go_wp2
  go_ret
  exact ⟨rfl, rfl⟩
/-- what is wrong with a block's number; which block it is -/
def blkE (k : Nat) (K : Kn) (i : Int) : Nat := if i < 0 ∨ (k : Int) ≤ i then 1 else if (K i).isSome = true then 0 else 5
def blkB (k : Nat) (K : Kn) (i : Int) : Bts := if i < 0 ∨ (k : Int) ≤ i then [] else (K i).getD []
set_option maxHeartbeats 1000000 in
theorem peel_block (G : Nat → Prop) (p k m : Nat) (K : Kn) (T : List Int) (L : List Wt) (i : Int) (w : World) (h : PeelO G p k m K T L w) (hk : k ≤ 16) :
    Calls Tryd.prog 26 #[.pointer (some ⟨p, 0, none⟩), .int .i64 i] w fun e w' => e = .returned (.tuple #[.string (S (blkB k K i)), errv (blkE k K i)]) ∧ w = w' := by
  obtain ⟨kb, tb, a, cap, h⟩ := h
  have c0 := h.c0
  have c2 := h.c2
  have hkn := h.kn
  by_cases h0 : i < 0
  · have e1 : blkE k K i = 1 := if_pos (.inl h0)
    have e2 : blkB k K i = [] := if_pos (.inl h0)
    have d0 : decide (i < 0) = true := decide_eq_true h0
    rw [e1, e2]
    clear h hkn h0 e1 e2
    go_enter Tryd.func26, Tryd.ntmps26
    go_wp2
    go_ret2
    exact ⟨rfl, rfl⟩
  have d0 : decide (i < 0) = false := decide_eq_false h0
  by_cases h1 : (k : Int) ≤ i
  · have e1 : blkE k K i = 1 := if_pos (.inr h1)
    have e2 : blkB k K i = [] := if_pos (.inr h1)
    have d1 : decide ((k : Int) ≤ i) = true := decide_eq_true h1
    rw [e1, e2]
    clear h hkn h0 h1 e1 e2
    go_enter Tryd.func26, Tryd.ntmps26
    go_wp2
    go_ret2
    exact ⟨rfl, rfl⟩
  have d1 : decide ((k : Int) ≤ i) = false := decide_eq_false h1
  have hlook := hkn.look_ok hk i (by omega) (by omega)
  cases hq : K i with
  | none =>
    have e1 : blkE k K i = 5 := by unfold blkE; rw [if_neg (by omega), hq]; rfl
    have e2 : blkB k K i = [] := by unfold blkB; rw [if_neg (by omega), hq]; rfl
    rw [e1, e2]
    rw [hq] at hlook
    have hlook : (Instr.lookup 92 (.map (some kb)) (.int .i64 i) true).run Tryd.prog w = .ok (.tuple #[.string { data := #[] }, .bool false]) w := hlook
    clear h hkn h0 h1 e1 e2 hq
    go_enter Tryd.func26, Tryd.ntmps26
    go_wp2
    go_ret2
    exact ⟨rfl, rfl⟩
  | some b =>
    have e1 : blkE k K i = 0 := by unfold blkE; rw [if_neg (by omega), hq]; rfl
    have e2 : blkB k K i = b := by unfold blkB; rw [if_neg (by omega), hq]; rfl
    rw [e1, e2]
    rw [hq] at hlook
    have hlook : (Instr.lookup 92 (.map (some kb)) (.int .i64 i) true).run Tryd.prog w = .ok (.tuple #[.string (S b), .bool true]) w := hlook
    clear h hkn h0 h1 e1 e2 hq
    go_enter Tryd.func26, Tryd.ntmps26
    go_wp2
    go_ret2
    exact ⟨rfl, rfl⟩
end Go.Proofs.YtmkmkaiapgedjaaDoor
