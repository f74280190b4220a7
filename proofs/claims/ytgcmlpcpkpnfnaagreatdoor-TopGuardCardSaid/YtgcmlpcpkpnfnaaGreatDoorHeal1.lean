/- guard.heal: where one lacks. -/
import Derived.Test.YtgcmlpcpkpnfnaaGreatDoorHeal
import Derived.Test.YtgcmlpcpkpnfnaaGreatDoorOwnC
import Derived.Deep.Cut
namespace Go.Proofs.YtgcmlpcpkpnfnaaGreatDoor
open Go.ChangeShapes Go.WideShapes Go.ChangeAt Go.RowKit

theorem cntT_one (lk : List Bool) : ∀ j, cntT lk j = 1 → lstT lk j < j ∧ lk.getD (lstT lk j) false = true
  | 0, h => by cases h
  | j + 1, h => by
    unfold cntT at h
    unfold lstT
    by_cases e : lk.getD j false = true
    · rw [if_pos e]; exact ⟨by omega, e⟩
    · rw [if_neg e] at h ⊢
      have h2 := cntT_one lk j h
      exact ⟨by omega, h2.2⟩

/-- strings in a block of the call's own -/
theorem strs_blk {w : World} {b k cap : Nat} {gs : List ByteArray} (hb : Blk w b k (fun j => .string (gs.getD j ByteArray.empty))) (hl : gs.length = k) (hkc : k ≤ cap) (hcap : cap ≤ maxLen) (hs : ∀ s ∈ gs, s.size ≤ maxLen) : StrsAt w (some ⟨b, 0, none⟩) k cap gs :=
  ⟨hl, ⟨hkc, hcap, fun _ => ⟨b, 0, rfl, fun j hj => by rw [Nat.zero_add]; exact hb.cell j hj⟩⟩, hs⟩
theorem blk_put {w : World} {b k i : Nat} {gs : List ByteArray} (hb : Blk w b k (fun j => .string (gs.getD j ByteArray.empty))) (hl : gs.length = k) (hi : i < k) (s : ByteArray) : Blk (w.setCell ⟨b, i, none⟩ (.string s)) b k (fun j => .string ((gs.set i s).getD j ByteArray.empty)) := by
  refine (hb.set hi (.string s)).congr fun j hj => ?_
  rw [List.getD_eq_getElem?_getD, List.getD_eq_getElem?_getD, List.getElem?_set]
  by_cases e : j = i
  · rw [if_pos e, if_pos e.symm, if_pos (by omega)]; rfl
  · rw [if_neg e, if_neg (fun h => e h.symm)]

set_option maxHeartbeats 400000 in
set_option maxRecDepth 100000 in
theorem heal_one (b k cap : Nat) (gs : List ByteArray) (m : Nat) (a2 : Option Addr) (cap2 : Nat) (lk : List Bool) (w : World) (hb : Blk w b k (fun j => .string (gs.getD j ByteArray.empty))) (hl : gs.length = k) (hkc : k ≤ cap) (hcap : cap ≤ maxLen) (hk : 1 ≤ k) (hm : m ≤ 8) (hs : ∀ s ∈ gs, s.size = m) (h : BoolsAt w a2 k cap2 lk) (hn : k ≤ 100) (h2 : cntT lk k = 1) :
    Calls Tryz.prog 43 #[.slice (some ⟨b, 0, none⟩) k cap, .slice a2 k cap2] w fun e w' => e = .returned (.tuple #[.slice (some ⟨b, 0, none⟩) (k - 1) cap, .nilIface]) ∧
      Blk w' b k (fun j => .string (((gs.set (lstT lk k) (S (noughts m))).set (lstT lk k) (S (ovl m (bts (gs.set (lstT lk k) (S (noughts m))))))).getD j ByteArray.empty)) ∧ Below b w w' := by
  have hle := h.row.le
  have hcm := h.row.cap
  have hcap0 := hcap
  unfold maxLen at hcm hcap
  obtain ⟨at_, hat⟩ : ∃ x, x = lstT lk k := ⟨_, rfl⟩
  have h1 := cntT_one lk k h2
  rw [← hat] at h1 ⊢
  have hak := h1.1
  have hz0 : (gs.getD 0 ByteArray.empty).size = m := by
    rw [List.getD_eq_getElem?_getD, List.getElem?_eq_getElem (by omega)]; exact hs _ (List.getElem_mem (by omega))
  have c0 := hb.cell 0 (by omega)
  obtain ⟨s0, hs0⟩ : ∃ s, s = gs.getD 0 ByteArray.empty := ⟨_, rfl⟩
  rw [← hs0] at c0 hz0
  have hs2 : ∀ s ∈ gs.set at_ (S (noughts m)), s.size = m := fun s hss => by
    rcases List.mem_or_eq_of_mem_set hss with h3 | h3
    · exact hs s h3
    · rw [h3]; show (noughts m).toArray.size = m; unfold noughts; simp
  have H1 := Lib.hid h; have H2 := Lib.hid h2; have HB := Lib.hid hb; have HC0 := Lib.hid c0; have HZ := Lib.hid hz0; have HS2 := Lib.hid hs2; have HAT := Lib.hid hat; have HL := Lib.hid hl
  clear h h2 hb hs0 c0 hz0 hs hs2 hat h1 hl
  go_enter Tryz.func43, Tryz.ntmps43
  go_wp2
  go_loop [6, 7, 8, 9, 12] (fun many at_ _ _ i => ∃ j c l : Nat, j ≤ k ∧ c ≤ j ∧ l ≤ j ∧ i = .int .i64 j ∧ many = .int .i64 c ∧ at_ = .int .i64 l ∧ Hid (c = cntT lk j ∧ l = lstT lk j)) (fun _ _ _ _ i => k - (intOf i).toNat)
  case atStart => exact ⟨0, 0, 0, Nat.zero_le _, Nat.le_refl _, Nat.le_refl _, rfl, rfl, rfl, rfl, rfl⟩
  case round =>
    obtain ⟨j, c, l, hj, hcj, hlj, rfl, rfl, rfl, hrel⟩ := hrel
    by_cases hlt : j < k
    · obtain ⟨b2, o, rfl, hc⟩ := H1.out.row.at_ (by omega)
      have c1 := hc j hlt
      obtain ⟨t, ht⟩ : ∃ t, t = lk.getD j false := ⟨_, rfl⟩
      rw [← ht] at c1
      have hs : cntT lk (j + 1) = if t = true then c + 1 else c := by rw [ht, hrel.out.1]; rfl
      have hs2 : lstT lk (j + 1) = if t = true then j else l := by rw [ht, hrel.out.2]; rfl
      have HS := Lib.hid hs; have HS2 := Lib.hid hs2
      clear hc ht hs hs2
      cases t with
      | true =>
        go_wp2
        go_round
        case rel => exact ⟨j + 1, c + 1, j, by omega, by omega, by omega, by go_num, by go_num, rfl, by rw [HS.out, HS2.out]; exact ⟨rfl, rfl⟩⟩
        case measure => simp [intOf]; omega
      | false =>
        go_wp2
        go_round
        case rel => exact ⟨j + 1, c, l, by omega, by omega, by omega, by go_num, rfl, rfl, by rw [HS.out, HS2.out]; exact ⟨rfl, rfl⟩⟩
        case measure => simp [intOf]; omega
    · obtain rfl : j = k := by omega
      obtain rfl : c = 1 := by rw [hrel.out.1]; exact H2.out
      obtain rfl : l = at_ := by rw [hrel.out.2]; exact HAT.out.symm
      have k1 : (0 : Int) < (j : Int) := by omega
      have k2 : 0 < j := by omega
      have k3 : (l : Int) < (j : Int) := by omega
      have k4 : (0 : Int) ≤ (l : Int) := by omega
      have c0 := HC0.out
      clear hrel
      go_wp2_with (go_at_call 56; refine (noughts_any s0.size _ (by rw [HZ.out]; omega)).mono ?_; rintro e w1 ⟨rfl, hb1⟩; have cl := hb1.cell_at (HB.out.cell l hak); have fl := hb1.free_at HB.out.lt (HB.out.free l hak))
      rw [HZ.out]
      have hb2 := blk_put (HB.out.keep hb1) HL.out hak (S (noughts m))
      have hlen : (gs.set l (S (noughts m))).length = j := by rw [List.length_set]; exact HL.out
      have hst := strs_blk hb2 hlen hkc hcap0 (fun s hs => by rw [HS2.out s hs]; unfold maxLen; omega)
      have hbw : b < w.heap.size := HB.out.lt
      have hB2 : Below b w (w1.setCell ⟨b, l, none⟩ (.string (S (noughts m)))) := (hb1.mono (Nat.le_of_lt hbw)).setCell (p := ⟨b, l, none⟩) (Nat.le_refl _) _
      refine (over_row _ j cap _ m _ hst hk hm HS2.out).mono ?_
      obtain ⟨r, hr⟩ : ∃ r, r = S (ovl m (bts (gs.set l (S (noughts m))))) := ⟨_, rfl⟩
      rw [← hr]
      rintro e w3 ⟨rfl, hb3⟩
      have hb4 := hb2.keep hb3
      have cl3 := hb4.cell l hak
      have fl3 := hb4.free l hak
      have hfin := blk_put hb4 hlen hak r
      have hB3 : Below b w (w3.setCell ⟨b, l, none⟩ (.string r)) := (hB2.trans (hb3.mono (Nat.le_of_lt hb2.lt))).setCell (p := ⟨b, l, none⟩) (Nat.le_refl _) _
      have HF := Lib.hid hfin; have HR := Lib.hid hr; have HB3 := Lib.hid hB3
      clear hb2 hst hB2 hb3 hb4 hfin hB3 hr cl fl hb1
      go_wp2
      go_ret2
      exact ⟨rfl, by rw [← HR.out]; exact HF.out, HB3.out⟩
end Go.Proofs.YtgcmlpcpkpnfnaaGreatDoor
