/- The contracts of dropref1's Air: Send, Out. -/
import Derived.Test.YtooepflfofgnnaaDoorAir3
namespace Go.Proofs.YtooepflfofgnnaaDoor
open Go.ChangeShapes Go.WideShapes Go.ChangeAt Go.RowKit

set_option maxRecDepth 100000
set_option maxHeartbeats 4000000 in
theorem refAirSend_ok (S : Nat → Prop) (p : Nat) (ds : List Dr) (d : Dr) (w : World) (h : AirO S p ds w) (h1 : 1 ≤ d.s) (h2 : d.s ≤ 10000) (h3 : 1 ≤ d.t.size) (h4 : d.t.size ≤ 8) (h5 : ds.length < 60) :
    Calls Tryd.prog 25 #[.pointer (some ⟨p, 0, none⟩), .agg #[.int .i64 d.s, .string d.t]] w fun e w' => e = .returned (.int .i64 0) ∧ AirStep S p (ds ++ [d]) w w' := by
  obtain ⟨s, t⟩ := d
  simp only at h1 h2 h3 h4
  obtain ⟨a, cap, hc, ho, hk⟩ := h.row
  obtain ⟨n, hn⟩ : ∃ n, n = ds.length := ⟨_, rfl⟩
  rw [← hn] at hc ho hk h5
  have hplt := h.lt _ h.at_
  obtain ⟨W, hW⟩ : ∃ W, W = w.alloc (.cells #[.int .i64 s, .string t] 24) := ⟨_, rfl⟩
  have hWl : Lat w W := by rw [hW]; exact Lat.alloc _ _
  have hF : W.drew.cell? ⟨w.heap.size, 0, none⟩ = some (.int .i64 s) ∧ W.drew.cell? ⟨w.heap.size, 1, none⟩ = some (.string t) := by rw [hW]; exact ⟨by simp, by simp⟩
  have hG : W.drew.cell? ⟨p, 0, none⟩ = some (.slice a n cap) := hWl.cell_at hc
  have hfp : W.drew.frozen? ⟨p, 0, none⟩ = false := hWl.free_at hplt h.free
  have ho1 : OwnR W.drew 0 24 2 (.slice a n cap) (ds.map Dr.row) := OwnR.keep (w' := W.drew) ho (Lat.trans hWl (Lat.drew W))
  have hsz : W.drew.heap.size = w.heap.size + 1 := by rw [hW]; simp
  have hol := ho.lt
  have hlen : (ds.map Dr.row).length = n := by rw [List.length_map, hn]
  have cW : W.cell? ⟨w.heap.size, 0, none⟩ = some (.int .i64 s) := hF.1
  have HF := Lib.hid hF; have HG := Lib.hid hG; have HFP := Lib.hid hfp; have HO := Lib.hid ho1; have HSZ := Lib.hid hsz; have HOL := Lib.hid hol; have HLEN := Lib.hid hlen; have HK := Lib.hid hk; have HWL := Lib.hid hWl; have HN := Lib.hid hn; have HH := Lib.hid h
  have d1 : decide (s < 1) = false := decide_eq_false (by omega)
  have d2 : decide (10000 < s) = false := decide_eq_false (by omega)
  have d3 : decide ((t.size : Int) < 1) = false := decide_eq_false (by omega)
  have d4 : decide (8 < (t.size : Int)) = false := decide_eq_false (by omega)
  have hnu : ¬ (60 : Int) ≤ (n : Int) := by omega
  have hfp0 := h.free
  clear hF hG hfp ho1 hsz hol hlen hk hWl hn h ho cW hfp0
  go_enter Tryd.func25, Tryd.ntmps25
  go_upto_region 7 with fail
  rw [← hW]
  clear hW hc
  refine wp_region_gate (fun w' => w'.cell? ⟨w.heap.size, 0, none⟩ = some (.int .i64 s) ∧ w'.cell? ⟨w.heap.size, 1, none⟩ = some (.string t)) (fun w' => w'.cell? ⟨p, 0, none⟩ = some (.slice a n cap)) 7 (by kernel_rfl) ?_
  have hF := HF.out
  have hG := HG.out
  have hfr0 : Fr S w W.drew := (Fr.lat HWL.out).drew
  generalize W.drew = W6 at *
  refine gate_takeF (i := 0) (v := ?_) rfl (by kernel_rfl) (by kernel_rfl) (by kernel_rfl) (fun _ _ _ h => h) (by decide) ⟨hF, fun _ => hG⟩ (Or.inl ⟨by rfl, ?_⟩) ?_
  rotate_left
  · intro wq hSw; obtain ⟨s0, s1⟩ := hSw; go_simp; rfl
  simp only [Act.put]
  refine gate_takeF (i := 1) (v := ?_) rfl (by kernel_rfl) (by kernel_rfl) (by kernel_rfl) (fun _ _ _ h => h) (by decide) ⟨hF, fun _ => hG⟩ (Or.inl ⟨by rfl, ?_⟩) ?_
  rotate_left
  · intro wq hSw; obtain ⟨s0, s1⟩ := hSw; go_simp; rfl
  simp only [Act.put]
  refine gate_takeF (i := 2) (v := ?_) rfl (by kernel_rfl) (by kernel_rfl) (by kernel_rfl) (fun _ _ _ h => h) (by decide) ⟨hF, fun _ => hG⟩ (Or.inl ⟨by rfl, ?_⟩) ?_
  rotate_left
  · intro wq hSw; obtain ⟨s0, s1⟩ := hSw; go_simp; rfl
  simp only [Act.put]
  refine gate_takeF (i := 3) (v := ?_) rfl (by kernel_rfl) (by kernel_rfl) (by kernel_rfl) (fun _ _ _ h => h) (by decide) ⟨hF, fun _ => hG⟩ (Or.inl ⟨by rfl, ?_⟩) ?_
  rotate_left
  · intro wq hSw; obtain ⟨s0, s1⟩ := hSw; go_simp; rfl
  simp only [Act.put]
  refine gate_takeG (i := 4) (v := ?_) rfl (by kernel_rfl) (by kernel_rfl) (by kernel_rfl) (fun _ _ _ h => h) (by decide) (by kernel_rfl) (by kernel_rfl) ⟨hF, fun _ => hG⟩ (Or.inl ⟨by rfl, ?_⟩) ?_
  rotate_left
  · intro wq hSw; obtain ⟨⟨s0, s1⟩, s2⟩ := hSw; go_simp; rfl
  simp only [Act.put]
  refine gate_takeF (i := 5) (v := ?_) rfl (by kernel_rfl) (by kernel_rfl) (by kernel_rfl) (fun _ _ _ h => h) (by decide) ⟨hF, fun _ => hG⟩ (Or.inl ⟨by rfl, ?_⟩) ?_
  rotate_left
  · intro wq hSw; obtain ⟨s0, s1⟩ := hSw; go_simp; rfl
  simp only [Act.put]
  refine gate_one (i := 6) (by kernel_rfl) rfl (fun K hK => ?_)
  go_simp
  refine hK _ _ ⟨⟨(Lat.alloc _ _).cell_at hF.1, (Lat.alloc _ _).cell_at hF.2⟩, fun _ => (Lat.alloc _ _).cell_at hG⟩ ?_
  clear hK K
  refine gate_one (i := 7) (by kernel_rfl) rfl (fun K hK => ?_)
  refine appR_step W6 0 rfl (.tmp 33) (.tmp 35) 48 rfl 24 _ 2 24 Tryd.underlying48 info_Drop rfl (by decide) (by decide) _ _ _ rfl HO.out rfl rfl (fun u hu => by simp at hu; rcases hu with rfl | rfl <;> rfl) (by rw [HLEN.out]; omega) (Nat.zero_le _) ?_
  rw [HLEN.out]
  intro g' cap' w7 hown7 hb7 hs7
  have hne : ∀ k, k < W6.heap.size → (Value.slice a n cap).ownBlock ≠ some k → ∀ q x, W6.cell? ⟨k, q, none⟩ = some x → w7.cell? ⟨k, q, none⟩ = some x := fun k hk hn q x hx => by
    rw [World.cell?_of_block (w := W6) (a := ⟨k, q, none⟩) (hs7.block k hk (fun e => hn e.symm))]; exact hx
  have hp6 : p < W6.heap.size := by rw [HSZ.out]; omega
  have hpn : (Value.slice a n cap).ownBlock ≠ some p := fun e => (HK.out p e).2 rfl
  have hbn : (Value.slice a n cap).ownBlock ≠ some w.heap.size := fun e => by have := (HOL.out _ e).2; omega
  have hF7 : w7.cell? ⟨w.heap.size, 0, none⟩ = some (.int .i64 s) ∧ w7.cell? ⟨w.heap.size, 1, none⟩ = some (.string t) := ⟨hne _ (by rw [HSZ.out]; omega) hbn _ _ hF.1, hne _ (by rw [HSZ.out]; omega) hbn _ _ hF.2⟩
  have hG7 : w7.cell? ⟨p, 0, none⟩ = some (.slice a n cap) := hne p hp6 hpn _ _ hG
  have hf7 : w7.frozen? ⟨p, 0, none⟩ = false := by
    rw [World.frozen?_of_block (w := W6) (a := ⟨p, 0, none⟩) (hs7.block p hp6 (fun e => hpn e.symm))]; exact HFP.out
  have hstep : AirStep S p (ds ++ [⟨s, t⟩]) w (w7.setCell ⟨p, 0, none⟩ (.slice (some ⟨g', 0, none⟩) (n + 1) cap')) := by
    have f1 : Fr S w w7 := hfr0.trans (Fr.app hs7 ⟨hb7.os, hb7.tape, hb7.output⟩) (fun i _ e => (HK.out i e).1)
    have hg : (S g' ∧ g' ≠ p) ∨ w.heap.size < g' + 1 := by
      rcases hs7.loc with h | ⟨g, h, hge⟩
      · exact .inl (HK.out g' h.symm)
      · have e : g' = g := Option.some.inj h
        rw [HSZ.out] at hge
        exact .inr (by omega)
    have hgp : g' ≠ p := by
      rcases hg with h | h
      · exact h.2
      · omega
    have hgl := (OwnR.lt hown7 g' rfl).2
    refine ⟨f1.then_set ⟨p, 0, none⟩ _ (.inl HH.out.at_), fun k => k = p ∨ k = g', ⟨fun k hk => ?_, .inl rfl, by rw [World.frozen?_setCell]; exact hf7, some ⟨g', 0, none⟩, cap', ?_, ?_, fun k hk => ?_⟩, fun k hk => ?_⟩
    · have hz : (w7.setCell ⟨p, 0, none⟩ (.slice (some ⟨g', 0, none⟩) (n + 1) cap')).heap.size = w7.heap.size := by simp [World.setCell]
      rw [hz]
      rcases hk with rfl | rfl
      · exact World.block_lt_of_cell? _ _ hG7
      · exact hgl
    · rw [List.length_append, List.length_singleton, ← HN.out]
      exact World.cell?_setCell_same _ _ _ hG7
    · rw [List.length_append, List.length_singleton, ← HN.out, List.map_append]
      exact OwnR.fr hown7 (Fr.set (S := fun k => k = p) w7 ⟨p, 0, none⟩ _ rfl) (fun k hk e => hgp (by rw [← e]; exact Option.some.inj hk))
    · have e : g' = k := Option.some.inj hk
      subst e
      exact ⟨.inr rfl, hgp⟩
    · rcases hk with rfl | rfl
      · exact .inl HH.out.at_
      · rcases hg with h | h
        · exact .inl h.1
        · exact .inr (by omega)
  have HST := Lib.hid hstep
  have hpw : w.heap.size ≠ p := by omega
  refine hK _ _ (FG.past (by kernel_rfl) hF7) ?_
  clear hK K hne hF hG hown7 hb7 hs7 hstep hpn hbn
  refine gate_takeF (i := 8) (v := ?_) rfl (by kernel_rfl) (by kernel_rfl) (by kernel_rfl) (fun _ _ _ h => h) (by decide) (FG.past (by kernel_rfl) hF7) (Or.inl ⟨by rfl, ?_⟩) ?_
  rotate_left
  · intro wq hSw; go_simp; rfl
  simp only [Act.put]
  refine gate_takeF (i := 9) (v := ?_) rfl (by kernel_rfl) (by kernel_rfl) (by kernel_rfl) (fun _ _ _ h => h) (by decide) (FG.past (by kernel_rfl) hF7) (Or.inl ⟨by rfl, ?_⟩) ?_
  rotate_left
  · intro wq hSw; go_simp; rfl
  simp only [Act.put]
  have hF8 : ∀ x : Value, (w7.setCell ⟨p, 0, none⟩ x).cell? ⟨w.heap.size, 0, none⟩ = some (.int .i64 s) ∧ (w7.setCell ⟨p, 0, none⟩ x).cell? ⟨w.heap.size, 1, none⟩ = some (.string t) := fun x =>
    ⟨by rw [World.cell?_setCell_other _ _ _ _ (by intro e; injection e with e1 _ _; exact hpw e1.symm)]; exact hF7.1, by rw [World.cell?_setCell_other _ _ _ _ (by intro e; injection e with e1 _ _; exact hpw e1.symm)]; exact hF7.2⟩
  have HF8 := Lib.hid hF8
  refine gate_one (i := 10) (by kernel_rfl) rfl (fun K hK => ?_)
  clear hF8 hF7
  go_simp
  refine hK _ _ (FG.past (by kernel_rfl) (HF8.out _)) ?_
  clear hK K
  refine gate_done (by kernel_rfl) ?_ _
  go_wp2
  go_ret
  exact ⟨rfl, HST.out⟩


theorem refAirSend (S : Nat → Prop) (p : Nat) (ds : List Dr) (d : Dr) (w : World) (h : AirO S p ds w) :
    Calls Tryd.prog 25 #[.pointer (some ⟨p, 0, none⟩), .agg #[.int .i64 d.s, .string d.t]] w fun e w' => e = .returned (.int .i64 (snE ds d)) ∧ AirStep S p (snD ds d) w w' := by
  by_cases h0 : snE ds d = 0
  · have h0' := h0
    unfold snE at h0'
    repeat' split at h0'
    all_goals first | omega | skip
    rename_i q1 q2 q3
    rw [snD, if_pos h0, h0]
    exact refAirSend_ok S p ds d w h (by omega) (by omega) (by omega) (by omega) (by omega)
  · rw [snD, if_neg h0]
    obtain ⟨a, cap, hc, _, _⟩ := h.row
    have hk := AirStep.keep h (Lat.alloc w (.cells #[.int .i64 d.s, .string d.t] 24))
    have hb := Lat.alloc w (.cells #[.int .i64 d.s, .string d.t] 24)
    have hcp := hb.cell_at hc
    obtain ⟨s, t⟩ := d
    simp only at *
    have HK := Lib.hid hk
    clear hk hb
    by_cases q0 : s < 1
    · have e1 : snE ds ⟨s, t⟩ = 1 := if_pos (.inl q0)
      rw [e1]
      have d1 : decide (s < 1) = true := decide_eq_true q0
      clear q0 e1 h h0 hc hcp
      go_enter Tryd.func25, Tryd.ntmps25
      go_wp2
      go_ret
      exact ⟨rfl, HK.out⟩
    have d1 : decide (s < 1) = false := decide_eq_false q0
    by_cases q1 : 10000 < s
    · have e1 : snE ds ⟨s, t⟩ = 1 := if_pos (.inr q1)
      rw [e1]
      have d2 : decide (10000 < s) = true := decide_eq_true q1
      clear q0 q1 e1 h h0 hc hcp
      go_enter Tryd.func25, Tryd.ntmps25
      go_wp2
      go_ret
      exact ⟨rfl, HK.out⟩
    have d2 : decide (10000 < s) = false := decide_eq_false q1
    by_cases q2 : t.size < 1
    · have e1 : snE ds ⟨s, t⟩ = 3 := by unfold snE; rw [if_neg (by simp only; omega), if_pos (.inl q2)]
      rw [e1]
      have d3 : decide ((t.size : Int) < 1) = true := decide_eq_true (by omega)
      clear q0 q1 q2 e1 h h0 hc hcp
      go_enter Tryd.func25, Tryd.ntmps25
      go_wp2
      go_ret
      exact ⟨rfl, HK.out⟩
    have d3 : decide ((t.size : Int) < 1) = false := decide_eq_false (by omega)
    by_cases q3 : 8 < t.size
    · have e1 : snE ds ⟨s, t⟩ = 3 := by unfold snE; rw [if_neg (by simp only; omega), if_pos (.inr q3)]
      rw [e1]
      have d4 : decide (8 < (t.size : Int)) = true := decide_eq_true (by omega)
      clear q0 q1 q2 q3 e1 h h0 hc hcp
      go_enter Tryd.func25, Tryd.ntmps25
      go_wp2
      go_ret
      exact ⟨rfl, HK.out⟩
    have d4 : decide (8 < (t.size : Int)) = false := decide_eq_false (by omega)
    have q4 : 60 ≤ ds.length := by
      rcases Nat.lt_or_ge ds.length 60 with h1 | h1
      · exact absurd (by unfold snE; rw [if_neg (by simp only; omega), if_neg (by simp only; omega), if_neg (by omega)]) h0
      · exact h1
    have e1 : snE ds ⟨s, t⟩ = 4 := by unfold snE; rw [if_neg (by simp only; omega), if_neg (by simp only; omega), if_pos q4]
    rw [e1]
    obtain ⟨n, hn⟩ : ∃ n, n = ds.length := ⟨_, rfl⟩
    rw [← hn] at hcp q4
    clear q0 q1 q2 q3 e1 h h0 hc hn
    go_enter Tryd.func25, Tryd.ntmps25
    go_wp2
    go_ret
    exact ⟨rfl, HK.out⟩
end Go.Proofs.YtooepflfofgnnaaDoor
