/- guard.heal: where none lacks. -/
import Derived.Test.YtgcmlpcpkpnfnaaGreatDoorHeal
import Derived.Test.YtgcmlpcpkpnfnaaGreatDoorGate
import Derived.Deep.Cut
namespace Go.Proofs.YtgcmlpcpkpnfnaaGreatDoor
open Go.ChangeShapes Go.WideShapes Go.ChangeAt Go.RowKit

set_option maxHeartbeats 400000 in
set_option maxRecDepth 100000 in
theorem heal_none (a : Option Addr) (k cap : Nat) (gs : List ByteArray) (m : Nat) (a2 : Option Addr) (n cap2 : Nat) (lk : List Bool) (w : World) (hl : StrsAt w a k cap gs) (hk : 1 ≤ k) (hm : m ≤ 8) (hs : ∀ s ∈ gs, s.size = m) (h : BoolsAt w a2 n cap2 lk) (hn : n ≤ 100) (h2 : cntT lk n = 0) :
    Calls Tryz.prog 43 #[.slice a k cap, .slice a2 n cap2] w fun e w' => e = .returned (if ovl m (bts gs) = noughts m then .tuple #[.slice a (k - 1) cap, .nilIface] else .tuple #[.slice none 0 0, eno 7]) ∧ Lat w w' := by
  have hle := h.row.le
  have hcm := h.row.cap
  have hle2 := hl.row.le
  have hcm2 := hl.row.cap
  unfold maxLen at hcm hcm2
  have hor := fun W hW => over_row a k cap gs m W (hl.keep hW) hk hm hs
  obtain ⟨bb, oo, rfl, hcc⟩ := hl.row.at_ (by omega)
  have c0 : w.cell? ⟨bb, oo, none⟩ = some (.string (gs.getD 0 ByteArray.empty)) := hcc 0 (by omega)
  have hz0 : (gs.getD 0 ByteArray.empty).size = m := by
    have hll := hl.len
    rw [List.getD_eq_getElem?_getD, List.getElem?_eq_getElem (by omega)]; exact hs _ (List.getElem_mem (by omega))
  obtain ⟨s0, hs0⟩ : ∃ s, s = gs.getD 0 ByteArray.empty := ⟨_, rfl⟩
  rw [← hs0] at c0 hz0
  obtain ⟨X, hX⟩ : ∃ X, X = ovl m (bts gs) := ⟨_, rfl⟩
  rw [← hX] at hor ⊢
  have H1 := Lib.hid h; have H2 := Lib.hid h2; have HOR := Lib.hid hor; have HC0 := Lib.hid c0; have HZ := Lib.hid hz0
  clear h h2 hor hcc hl hs hX hs0 c0 hz0
  go_enter Tryz.func43, Tryz.ntmps43
  go_wp2
  go_loop [6, 7, 8, 9, 12] (fun many at_ _ _ i => ∃ j : Nat, j ≤ n ∧ i = .int .i64 j ∧ many = .int .i64 0 ∧ at_ = .int .i64 0 ∧ Hid (0 = cntT lk j)) (fun _ _ _ _ i => n - (intOf i).toNat)
  case atStart => exact ⟨0, Nat.zero_le _, rfl, rfl, rfl, rfl⟩
  case round =>
    obtain ⟨j, hj, rfl, rfl, rfl, hrel⟩ := hrel
    by_cases hlt : j < n
    · obtain ⟨b, o, rfl, hc⟩ := H1.out.row.at_ (by omega)
      have c1 := hc j hlt
      obtain ⟨t, ht⟩ : ∃ t, t = lk.getD j false := ⟨_, rfl⟩
      rw [← ht] at c1
      have hs : cntT lk (j + 1) = if t = true then cntT lk j + 1 else cntT lk j := by rw [ht]; rfl
      have hmn := cntT_mono lk (j + 1) n (by omega)
      have htf : t = false := by
        cases t with
        | false => rfl
        | true => rw [hs, if_pos rfl, H2.out] at hmn; omega
      subst htf
      have hs3 : 0 = cntT lk (j + 1) := by rw [hs, if_neg (by simp)]; exact hrel.out
      have HS := Lib.hid hs3
      clear hc ht hs hs3 hmn
      go_wp2
      go_round
      case rel => exact ⟨j + 1, by omega, by go_num, rfl, rfl, HS.out⟩
      case measure => simp [intOf]; omega
    · obtain rfl : j = n := by omega
      have k1 : (0 : Int) < (k : Int) := by omega
      have k2 : 0 < k := by omega
      have c0 := HC0.out
      go_upto_region 11 with fail
      have hF : w.drew.cell? ⟨bb, oo, none⟩ = some (.string s0) := c0
      refine wp_region_gate (fun w' => w'.cell? ⟨bb, oo, none⟩ = some (.string s0)) (fun _ => True) 6 (by kernel_rfl) ?_
      have hdr : Lat w w.drew := Lat.drew w
      have HDR := Lib.hid hdr
      clear hdr c0
      generalize w.drew = w1 at *
      refine gate_takeF (i := 0) (v := ?_) rfl (by kernel_rfl) (by kernel_rfl) (by kernel_rfl) (fun _ _ _ h => h) (by decide) ⟨hF, fun _ => trivial⟩ (Or.inl ⟨by rfl, ?_⟩) ?_
      rotate_left
      · intro wq hSw; go_simp; rfl
      simp only [Act.put]
      refine gate_takeF (i := 2) (v := ?_) rfl (by kernel_rfl) (by kernel_rfl) (by kernel_rfl) (fun _ _ _ h => h) (by decide) ⟨hF, fun _ => trivial⟩ (Or.inl ⟨by rfl, ?_⟩) ?_
      rotate_left
      · intro wq hSw; go_simp; rfl
      simp only [Act.put]
      refine gate_takeF (i := 3) (v := ?_) rfl (by kernel_rfl) (by kernel_rfl) (by kernel_rfl) (fun _ _ _ h => h) (by decide) ⟨hF, fun _ => trivial⟩ (Or.inl ⟨by rfl, ?_⟩) ?_
      rotate_left
      · intro wq hSw; go_simp; rfl
      simp only [Act.put]
      refine gate_takeF (i := 4) (v := ?_) rfl (by kernel_rfl) (by kernel_rfl) (by kernel_rfl) (fun _ _ _ h => h) (by decide) ⟨hF, fun _ => trivial⟩ (Or.inl ⟨by rfl, ?_⟩) ?_
      rotate_left
      · intro wq hSw; go_simp; rfl
      simp only [Act.put]
      refine gate_takeF (i := 5) (v := ?_) rfl (by kernel_rfl) (by kernel_rfl) (by kernel_rfl) (fun _ _ _ h => h) (by decide) ⟨hF, fun _ => trivial⟩ (Or.inl ⟨by rfl, ?_⟩) ?_
      rotate_left
      · intro wq hSw; go_simp; rfl
      simp only [Act.put]
      refine gate_one (i := 1) (by kernel_rfl) rfl (fun K hK => ?_)
      go_simp
      refine (HOR.out _ HDR.out).mono ?_
      rintro e w2 ⟨rfl, hb2⟩
      have hF2 := hb2.cell_at hF
      refine hK _ _ ⟨hF2, fun _ => trivial⟩ ?_
      clear hK K
      refine gate_one (i := 6) (by kernel_rfl) rfl (fun K hK => ?_)
      go_simp
      refine (noughts_any s0.size w2 (by rw [HZ.out]; omega)).mono ?_
      rintro e w3 ⟨rfl, hb3⟩
      have hF3 := hb3.cell_at hF2
      refine hK _ _ ⟨hF3, fun _ => trivial⟩ ?_
      clear hK K
      rw [HZ.out]
      by_cases hX : X = noughts m
      · subst hX
        refine gate_takeF (i := 7) (v := ?_) rfl (by kernel_rfl) (by kernel_rfl) (by kernel_rfl) (fun _ _ _ h => h) (by decide) ⟨hF3, fun _ => trivial⟩ (Or.inl ⟨by rfl, ?_⟩) ?_
        rotate_left
        · intro wq hSw; go_simp; rfl
        simp only [Act.put]
        refine gate_done (by kernel_rfl) ?_ _
        simp only [List.getElem_toArray, List.getElem_cons_succ, List.getElem_cons_zero]
        go_simp
        go_wp2
        go_ret2
        exact ⟨by first | (rw [if_pos rfl]; rfl) | rfl | simp, HDR.out.trans (hb2.trans hb3)⟩
      · have e1 : (X == noughts m) = false := beq_eq_false_iff_ne.2 hX
        refine gate_takeF (i := 7) (v := ?_) rfl (by kernel_rfl) (by kernel_rfl) (by kernel_rfl) (fun _ _ _ h => h) (by decide) ⟨hF3, fun _ => trivial⟩ (Or.inl ⟨by rfl, ?_⟩) ?_
        rotate_left
        · intro wq hSw; go_simp; rfl
        simp only [Act.put]
        refine gate_done (by kernel_rfl) ?_ _
        simp only [List.getElem_toArray, List.getElem_cons_succ, List.getElem_cons_zero]
        go_simp
        go_wp2
        go_ret2
        exact ⟨by first | (rw [if_neg hX]; rfl) | rfl | simp, HDR.out.trans (hb2.trans hb3)⟩
end Go.Proofs.YtgcmlpcpkpnfnaaGreatDoor
