/- guard.heal: every answer in one contract. -/
import Derived.Test.YtgcmlpcpkpnfnaaGreatDoorHeal0
import Derived.Test.YtgcmlpcpkpnfnaaGreatDoorGuardPl3
namespace Go.Proofs.YtgcmlpcpkpnfnaaGreatDoor
open Go.ChangeShapes Go.WideShapes Go.ChangeAt Go.RowKit

theorem heal_any (b k cap : Nat) (gs : List ByteArray) (m : Nat) (a2 : Option Addr) (cap2 : Nat) (lk : List Bool) (w : World) (hb : Blk w b k (fun j => .string (gs.getD j ByteArray.empty))) (hl : gs.length = k) (hkc : k ≤ cap) (hcap : cap ≤ maxLen) (hk : 1 ≤ k) (hm : m ≤ 8) (hs : ∀ s ∈ gs, s.size = m) (h : BoolsAt w a2 k cap2 lk) (hn : k ≤ 100) :
    Calls Tryz.prog 43 #[.slice (some ⟨b, 0, none⟩) k cap, .slice a2 k cap2] w fun e w' => e = .returned (.tuple #[if hlE m gs lk = 0 then .slice (some ⟨b, 0, none⟩) (k - 1) cap else .slice none 0 0, errv (hlE m gs lk)]) ∧
      Blk w' b k (fun j => .string ((hlS m gs lk).getD j ByteArray.empty)) ∧ Below b w w' := by
  have hst := strs_blk hb hl hkc hcap (fun s hss => by rw [hs s hss]; unfold maxLen; omega)
  have hbw : b ≤ w.heap.size := Nat.le_of_lt hb.lt
  by_cases h0 : cntT lk k = 0
  · have hS : hlS m gs lk = gs := by unfold hlS; rw [hl, if_neg (by omega)]
    have hE : hlE m gs lk = if ovl m (bts gs) = noughts m then 0 else 7 := by unfold hlE; rw [hl, if_pos h0]
    rw [hS, hE]
    refine (heal_none (some ⟨b, 0, none⟩) k cap gs m a2 k cap2 lk w hst hk hm hs h hn h0).mono ?_
    rintro e w' ⟨rfl, hlat⟩
    refine ⟨?_, hb.keep hlat, hlat.mono hbw⟩
    by_cases hx : ovl m (bts gs) = noughts m
    · rw [if_pos hx, if_pos hx, if_pos rfl, errv_zero rfl]
    · rw [if_neg hx, if_neg hx, if_neg (by omega), errv_pos (by omega)]; rfl
  · by_cases h1 : cntT lk k = 1
    · have hE : hlE m gs lk = 0 := by unfold hlE; rw [hl, if_neg h0, if_pos h1]
      refine (heal_one b k cap gs m a2 cap2 lk w hb hl hkc hcap hk hm hs h hn h1).mono ?_
      rintro e w' ⟨rfl, hb', hB⟩
      refine ⟨by rw [hE, if_pos rfl, errv_zero rfl], ?_, hB⟩
      unfold hlS
      rw [hl, if_pos h1]
      exact hb'
    · have hS : hlS m gs lk = gs := by unfold hlS; rw [hl, if_neg h1]
      have hE : hlE m gs lk = 8 := by unfold hlE; rw [hl, if_neg h0, if_neg h1]
      rw [hS, hE]
      refine (heal_two _ a2 k cap2 lk w h hn (by omega)).mono ?_
      rintro e w' ⟨rfl, rfl⟩
      exact ⟨by rw [if_neg (by omega), errv_pos (by omega)]; rfl, hb, Below.refl _ _⟩
end Go.Proofs.YtgcmlpcpkpnfnaaGreatDoor
