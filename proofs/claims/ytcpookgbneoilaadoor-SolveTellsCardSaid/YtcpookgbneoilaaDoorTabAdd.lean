/- The contracts of (*solve.Table).Add and need.add. -/
import Derived.Test.YtcpookgbneoilaaDoorLeft
import Derived.Deep.CutRange
namespace Go.Proofs.YtcpookgbneoilaaDoor
open Go.ChangeShapes Go.WideShapes Go.ChangeAt Go.RowKit

/-- may it be? (a row of which nothing is left is noughts) -/
def mayT (k : Nat) (T : Nat → Option Vec) (v : Vec) : Bool := !decide ((leftTo T v k).1 = 0 ∧ (leftTo T v k).2 ≠ noughts v.2.length)

set_option maxHeartbeats 2000000 in
set_option maxRecDepth 100000 in
theorem tadd_any (p b k m : Nat) (T : Nat → Option Vec) (v : Vec) (w : World) (h : TabAt w p b k T) (hk : k ≤ 16) (hT : TI m k T) (hv : v.1 < 2 ^ k) (hm : v.2.length = m) (hm8 : m ≤ 8) :
    Calls Tryd.prog 44 #[.pointer (some ⟨p, 0, none⟩), rowV v] w fun e w' => e = .returned (.tuple #[.bool (rsT k T v), .bool (mayT k T v)]) ∧ TabAt w' p b k (addT k T v) ∧ Fr (fun j => j = b) w w' := by
  have hcl := left_any p b k m T v
  have hlt := leftTo_lt hT hv k
  have hln := leftTo_len hT hm k
  have hk64 : (2 : Nat) ^ k ≤ 65536 := Nat.pow_le_pow_right (by omega) hk
  obtain ⟨u1, u2, hu⟩ : ∃ a b, leftTo T v k = (a, b) := ⟨_, _, rfl⟩
  have hrs : rsT k T v = decide (u1 ≠ 0) := by unfold rsT; rw [hu]
  have hmy : mayT k T v = !decide (u1 = 0 ∧ u2 ≠ noughts m) := by unfold mayT; rw [hu, hm]
  have hat : addT k T v = if u1 = 0 then T else insT T (lowI u1) (u1, u2) := by unfold addT; rw [hu]
  have hnl : u1 ≠ 0 → Low u1 (lowI u1) ∧ lowI u1 < k ∧ T (lowI u1) = none := fun h0 => by
    obtain ⟨h1, h2⟩ := lowI_low (n := u1) h0 (by rw [hu] at hlt; exact hlt) (show k ≤ 64 by omega)
    exact ⟨h1, h2, left_low_none hT (v := v) h2 (by rw [hu]; exact h1)⟩
  rw [hu] at hlt hln
  have hu16 : u1 < 65536 := Nat.lt_of_lt_of_le hlt hk64
  have hc2 := fun W (hW : TabAt W p b k T) => hcl W hW hk hT hv hm hm8
  rw [hu] at hc2
  rw [hrs, hmy, hat]
  have H := Lib.hid h; have HC := Lib.hid hc2; have HNL := Lib.hid hnl; have HLN : Hid (u2.length = m) := hln
  clear h hcl hc2 hnl hln hlt hu hrs hmy hat hT
  obtain ⟨v1, v2⟩ := v
  show Calls _ _ #[_, .agg #[.int .u64 v1, .string (S v2)]] _ _
  have hbx : Lat w (w.alloc (.cells #[.int .u64 v1, .string (S v2)] 93)) := Lat.alloc _ _
  have hr0 := row_new w v1 v2
  have hc3 : Calls Tryd.prog 62 #[.pointer (some ⟨p, 0, none⟩), .agg #[.int .u64 v1, .string (S v2)]] (w.alloc (.cells #[.int .u64 v1, .string (S v2)] 93)) fun e w' => e = .returned (.agg #[.int .u64 u1, .string (S u2)]) ∧ Lat (w.alloc (.cells #[.int .u64 v1, .string (S v2)] 93)) w' := HC.out _ (H.out.keep hbx)
  have HC3 := Lib.hid hc3; have HR0 := Lib.hid hr0; have HBX := Lib.hid hbx
  clear hc3 hr0 hbx
  go_enter Tryd.func44, Tryd.ntmps44
  go_wp2_with fail
  refine HC3.out.mono ?_
  rintro y w2 ⟨rfl, hb2⟩
  have hlw2 : Lat w w2 := Lat.trans HBX.out hb2
  have hrw2 := HR0.out.keep hb2
  have htab2 := H.out.keep hlw2
  have c0 := hrw2.c0
  have c1 := hrw2.c1
  have f0 := hrw2.f0
  have f1 := hrw2.f1
  obtain ⟨R, hR⟩ : ∃ R, R = w.heap.size := ⟨_, rfl⟩
  have hpR : p ≠ R := by have := H.out.lt.1; omega
  have hbR : b ≠ R := by have := H.out.lt.2; omega
  rw [← hR] at c0 c1 f0 f1 hrw2 ⊢
  have hput := row_put hrw2 u1 u2
  have htab3 := (htab2.fr (Fr.set (S := fun j => j = R) w2 ⟨R, 0, none⟩ (.int .u64 u1) rfl) hpR hbR).fr (Fr.set (S := fun j => j = R) _ ⟨R, 1, none⟩ (.string (S u2)) rfl) hpR hbR
  have hlw3 : Lat w ((w2.setCell ⟨R, 0, none⟩ (.int .u64 u1)).setCell ⟨R, 1, none⟩ (.string (S u2))) := (hlw2.setCell (p := ⟨R, 0, none⟩) (Nat.le_of_eq hR.symm) _).setCell (p := ⟨R, 1, none⟩) (Nat.le_of_eq hR.symm) _
  have HPUT := Lib.hid hput; have HTAB3 := Lib.hid htab3; have HLW3 := Lib.hid hlw3
  clear hput htab3 hlw3 htab2 hrw2 hlw2 hb2 hR
  by_cases h0 : u1 = 0
  · subst h0
    go_upto_region 2 with fail
    obtain ⟨W2, hW2⟩ : ∃ W, W = (w2.setCell ⟨R, 0, none⟩ (.int .u64 ((0 : Nat) : Int))).setCell ⟨R, 1, none⟩ (.string (S u2)) := ⟨_, rfl⟩
    have hput := HPUT.out
    have htab3 := HTAB3.out
    have hlw3 := HLW3.out
    rw [← hW2] at hput htab3 hlw3
    have hw2' : W2 = (w2.setCell ⟨R, 0, none⟩ (.int .u64 0)).setCell ⟨R, 1, none⟩ (.string (S u2)) := hW2
    rw [← hw2']
    have k0 : W2.cell? ⟨R, 0, none⟩ = some (.int .u64 0) := hput.c0
    have k1 := hput.c1
    have HT3 := Lib.hid htab3; have HL3 := Lib.hid hlw3
    clear hW2 hw2' hput htab3 hlw3 HPUT HTAB3 HLW3 c0 c1 f0 f1
    go_upto_region 3 with fail
    have hF : W2.drew.cell? ⟨R, 1, none⟩ = some (.string (S u2)) := k1
    refine wp_region_gate (fun w' => w'.cell? ⟨R, 1, none⟩ = some (.string (S u2))) (fun _ => True) 1000 (by kernel_rfl) ?_
    refine gate_takeF (i := 0) (v := ?_) rfl (by kernel_rfl) (by kernel_rfl) (by kernel_rfl) (fun _ _ _ h => h) (by decide) ⟨hF, fun _ => trivial⟩ (Or.inl ⟨by rfl, ?_⟩) ?_
    rotate_left
    · intro wq hSw; have s0 := hSw; go_simp; rfl
    simp only [Act.put]
    refine gate_takeF (i := 1) (v := ?_) rfl (by kernel_rfl) (by kernel_rfl) (by kernel_rfl) (fun _ _ _ h => h) (by decide) ⟨hF, fun _ => trivial⟩ (Or.inl ⟨by rfl, ?_⟩) ?_
    rotate_left
    · intro wq hSw; have s0 := hSw; go_simp; rfl
    simp only [Act.put]
    refine gate_takeF (i := 2) (v := ?_) rfl (by kernel_rfl) (by kernel_rfl) (by kernel_rfl) (fun _ _ _ h => h) (by decide) ⟨hF, fun _ => trivial⟩ (Or.inl ⟨by rfl, ?_⟩) ?_
    rotate_left
    · intro wq hSw; have s0 := hSw; go_simp; rfl
    simp only [Act.put]
    refine gate_takeF (i := 3) (v := ?_) rfl (by kernel_rfl) (by kernel_rfl) (by kernel_rfl) (fun _ _ _ h => h) (by decide) ⟨hF, fun _ => trivial⟩ (Or.inl ⟨by rfl, ?_⟩) ?_
    rotate_left
    · intro wq hSw; have s0 := hSw; go_simp; rfl
    simp only [Act.put]
    refine gate_takeF (i := 4) (v := ?_) rfl (by kernel_rfl) (by kernel_rfl) (by kernel_rfl) (fun _ _ _ h => h) (by decide) ⟨hF, fun _ => trivial⟩ (Or.inl ⟨by rfl, ?_⟩) ?_
    rotate_left
    · intro wq hSw; have s0 := hSw; go_simp; rfl
    simp only [Act.put]
    refine gate_one (i := 5) (by kernel_rfl) rfl (fun K hK => ?_)
    go_simp
    refine (noughts_any (S u2).size _ (by show u2.length ≤ _; rw [HLN.out]; omega)).mono ?_
    rintro y w4 ⟨rfl, hb4⟩
    have hF' : w4.cell? ⟨R, 1, none⟩ = some (.string (S u2)) := hb4.cell_at hF
    refine hK _ _ ⟨hF', fun _ => trivial⟩ ?_
    clear hK K hF
    have hF := hF'
    clear hF'
    refine gate_takeF (i := 6) (v := ?_) rfl (by kernel_rfl) (by kernel_rfl) (by kernel_rfl) (fun _ _ _ h => h) (by decide) ⟨hF, fun _ => trivial⟩ (Or.inl ⟨by rfl, ?_⟩) ?_
    rotate_left
    · intro wq hSw; have s0 := hSw; go_simp; rfl
    simp only [Act.put]
    refine gate_takeF (i := 7) (v := ?_) rfl (by kernel_rfl) (by kernel_rfl) (by kernel_rfl) (fun _ _ _ h => h) (by decide) ⟨hF, fun _ => trivial⟩ (Or.inl ⟨by rfl, ?_⟩) ?_
    rotate_left
    · intro wq hSw; have s0 := hSw; go_simp; rfl
    simp only [Act.put]
    refine gate_takeF (i := 8) (v := ?_) rfl (by kernel_rfl) (by kernel_rfl) (by kernel_rfl) (fun _ _ _ h => h) (by decide) ⟨hF, fun _ => trivial⟩ (Or.inl ⟨by rfl, ?_⟩) ?_
    rotate_left
    · intro wq hSw; have s0 := hSw; go_simp; rfl
    simp only [Act.put]
    refine gate_done (by kernel_rfl) ?_ _
    clear hF k0 k1
    have HL4 := Lib.hid (Lat.trans (Lat.drew W2) hb4)
    clear hb4
    go_wp2
    go_ret2
    refine ⟨?_, ?_, ?_⟩
    · have e1 : u2.length = m := HLN.out
      show Ending.returned (.tuple #[.bool false, .bool (u2 == noughts u2.length)]) = _
      rw [e1]
      by_cases hx : u2 = noughts m
      · rw [hx, beq_self_eq_true, decide_eq_true rfl]
      · rw [beq_eq_false_iff_ne.2 hx, decide_eq_false hx]
    · exact HT3.out.keep HL4.out
    · exact Fr.lat (Lat.trans HL3.out HL4.out)
  · have hn0 : ((u1 : Int) == 0) = false := beq_eq_false_iff_ne.2 (by omega)
    go_upto_region 2 with fail
    obtain ⟨W2, hW2⟩ : ∃ W, W = (w2.setCell ⟨R, 0, none⟩ (.int .u64 u1)).setCell ⟨R, 1, none⟩ (.string (S u2)) := ⟨_, rfl⟩
    have hput := HPUT.out
    have htab3 := HTAB3.out
    have hlw3 := HLW3.out
    rw [← hW2] at hput htab3 hlw3 ⊢
    have k0 := hput.c0
    have k1 := hput.c1
    have kp := htab3.cell
    obtain ⟨hlo, hlk, hTn⟩ := HNL.out h0
    obtain ⟨w5, hrun, htab5, hfr5⟩ := (htab3.keep (Lat.drew W2)).store hk (lowI u1) hlk hTn (u1, u2)
    have hrun2 : (Instr.mapUpdate 108 (.map (some b)) (.int .u64 (bitP (lowI u1) : Int)) (.agg #[.int .u64 u1, .string (S u2)])).run Tryd.prog W2.drew = .ok () w5 := hrun
    have HT5 := Lib.hid htab5; have HF5 := Lib.hid hfr5; have HL3 := Lib.hid hlw3; have HRUN := Lib.hid hrun2; have H0 := Lib.hid h0
    clear hW2 hput htab3 hlw3 HPUT HTAB3 HLW3 c0 c1 f0 f1 htab5 hfr5 hrun hrun2 hlo hTn h0
    go_upto_region 4 with fail
    have hF : W2.drew.cell? ⟨p, 0, none⟩ = some (.map (some b)) ∧ W2.drew.cell? ⟨R, 0, none⟩ = some (.int .u64 u1) ∧ W2.drew.cell? ⟨R, 1, none⟩ = some (.string (S u2)) := ⟨kp, k0, k1⟩
    refine wp_region_gate (fun w' => w'.cell? ⟨p, 0, none⟩ = some (.map (some b)) ∧ w'.cell? ⟨R, 0, none⟩ = some (.int .u64 u1) ∧ w'.cell? ⟨R, 1, none⟩ = some (.string (S u2))) (fun _ => True) 1000 (by kernel_rfl) ?_
    refine gate_takeF (i := 0) (v := ?_) rfl (by kernel_rfl) (by kernel_rfl) (by kernel_rfl) (fun _ _ _ h => h) (by decide) ⟨hF, fun _ => trivial⟩ (Or.inl ⟨by rfl, ?_⟩) ?_
    rotate_left
    · intro wq hSw; obtain ⟨s0, s1, s2⟩ := hSw; go_simp; rfl
    simp only [Act.put]
    refine gate_takeF (i := 1) (v := ?_) rfl (by kernel_rfl) (by kernel_rfl) (by kernel_rfl) (fun _ _ _ h => h) (by decide) ⟨hF, fun _ => trivial⟩ (Or.inl ⟨by rfl, ?_⟩) ?_
    rotate_left
    · intro wq hSw; obtain ⟨s0, s1, s2⟩ := hSw; go_simp; rfl
    simp only [Act.put]
    refine gate_takeF (i := 2) (v := ?_) rfl (by kernel_rfl) (by kernel_rfl) (by kernel_rfl) (fun _ _ _ h => h) (by decide) ⟨hF, fun _ => trivial⟩ (Or.inl ⟨by rfl, ?_⟩) ?_
    rotate_left
    · intro wq hSw; obtain ⟨s0, s1, s2⟩ := hSw; go_simp; rfl
    simp only [Act.put]
    refine gate_takeF (i := 3) (v := ?_) rfl (by kernel_rfl) (by kernel_rfl) (by kernel_rfl) (fun _ _ _ h => h) (by decide) ⟨hF, fun _ => trivial⟩ (Or.inl ⟨by rfl, ?_⟩) ?_
    rotate_left
    · intro wq hSw; obtain ⟨s0, s1, s2⟩ := hSw; go_simp; rfl
    simp only [Act.put]
    refine gate_takeF (i := 4) (v := ?_) rfl (by kernel_rfl) (by kernel_rfl) (by kernel_rfl) (fun _ _ _ h => h) (by decide) ⟨hF, fun _ => trivial⟩ (Or.inl ⟨by rfl, ?_⟩) ?_
    rotate_left
    · intro wq hSw; obtain ⟨s0, s1, s2⟩ := hSw; go_simp; rfl
    simp only [Act.put]
    refine gate_takeF (i := 5) (v := ?_) rfl (by kernel_rfl) (by kernel_rfl) (by kernel_rfl) (fun _ _ _ h => h) (by decide) ⟨hF, fun _ => trivial⟩ (Or.inl ⟨by rfl, ?_⟩) ?_
    rotate_left
    · intro wq hSw; obtain ⟨s0, s1, s2⟩ := hSw; go_simp; rfl
    simp only [Act.put]
    refine gate_takeF (i := 7) (v := ?_) rfl (by kernel_rfl) (by kernel_rfl) (by kernel_rfl) (fun _ _ _ h => h) (by decide) ⟨hF, fun _ => trivial⟩ (Or.inl ⟨by rfl, ?_⟩) ?_
    rotate_left
    · intro wq hSw; obtain ⟨s0, s1, s2⟩ := hSw; go_simp; rfl
    simp only [Act.put]
    refine gate_one (i := 6) (by kernel_rfl) rfl (fun K hK => ?_)
    go_simp
    refine (low_any u1 _ H0.out hu16).mono ?_
    rintro y w4 ⟨rfl, rfl⟩
    refine hK _ _ ⟨hF, fun _ => trivial⟩ ?_
    clear hK K
    refine gate_one (i := 8) (by kernel_rfl) rfl (fun K hK => ?_)
    have hrun := HRUN.out
    go_simp
    have hF' : w5.cell? ⟨p, 0, none⟩ = some (.map (some b)) ∧ w5.cell? ⟨R, 0, none⟩ = some (.int .u64 u1) ∧ w5.cell? ⟨R, 1, none⟩ = some (.string (S u2)) := ⟨HT5.out.cell, HF5.out.cell_at hF.2.1 (fun e => hbR e.symm), HF5.out.cell_at hF.2.2 (fun e => hbR e.symm)⟩
    refine hK _ _ ⟨hF', fun _ => trivial⟩ ?_
    clear hK K hF hF' hrun
    refine gate_done (by kernel_rfl) ?_ _
    clear k0 k1 kp
    go_wp2
    go_ret2
    refine ⟨?_, ?_, ?_⟩
    · rfl
    · exact HT5.out
    · exact (Fr.lat (Lat.trans HL3.out (Lat.drew W2))).trans HF5.out (fun _ _ e => e)
end Go.Proofs.YtcpookgbneoilaaDoor
