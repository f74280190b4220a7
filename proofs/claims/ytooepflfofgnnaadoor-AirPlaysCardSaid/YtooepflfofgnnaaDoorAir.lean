/- The contracts of package air. -/
import Derived.Test.YtooepflfofgnnaaDoorDel
import Derived.Test.YtooepflfofgnnaaDoorOwnRS
import Derived.Test.YtooepflfofgnnaaDoorBlocks
import Derived.Test.YtooepflfofgnnaaDoorWheel
import Derived.Deep.DeepCutAuto
namespace Go.Proofs.YtooepflfofgnnaaDoor
open Go.ChangeShapes Go.WideShapes Go.ChangeAt Go.RowKit

set_option maxRecDepth 100000
/-- A slice of drops of the call's own that lies in cell k of block p; S: the blocks of it all. -/
structure AirO (S : Nat → Prop) (p : Nat) (ds : List Dr) (w : World) : Prop where
  lt : ∀ k, S k → k < w.heap.size
  at_ : S p
  free : w.frozen? ⟨p, 0, none⟩ = false
  row : ∃ a cap, w.cell? ⟨p, 0, none⟩ = some (.slice a ds.length cap) ∧ OwnR w 0 24 2 (.slice a ds.length cap) (ds.map Dr.row) ∧ (∀ k, (Value.slice a ds.length cap).ownBlock = some k → S k ∧ k ≠ p)
theorem AirO.fr {S T : Nat → Prop} {p : Nat} {ds : List Dr} {w w' : World} (h : AirO S p ds w) (hf : Fr T w w') (hd : ∀ k, S k → ¬ T k) : AirO S p ds w' := by
  obtain ⟨a, cap, hc, ho, hk⟩ := h.row
  exact ⟨fun k hk => Nat.lt_of_lt_of_le (h.lt k hk) hf.size, h.at_, hf.free_at (h.lt _ h.at_) h.free (hd _ h.at_), a, cap, hf.cell_at hc (hd _ h.at_), ho.fr hf (fun k e => hd _ (hk k e).1), hk⟩
theorem AirO.keep {S : Nat → Prop} {p : Nat} {ds : List Dr} {w w' : World} (h : AirO S p ds w) (hb : Lat w w') : AirO S p ds w' := h.fr (Fr.lat hb : Fr (fun _ => False) w w') (fun _ _ e => e)
/-- What a call on it leaves. -/
structure AirStep (S : Nat → Prop) (p : Nat) (ds' : List Dr) (w w' : World) : Prop where
  fr : Fr S w w'
  obj : ∃ S', AirO S' p ds' w' ∧ ∀ k, S' k → S k ∨ w.heap.size ≤ k
theorem AirStep.keep {S : Nat → Prop} {p : Nat} {ds : List Dr} {w w' : World} (h : AirO S p ds w) (hb : Lat w w') : AirStep S p ds w w' := ⟨Fr.lat hb, S, h.keep hb, fun _ e => .inl e⟩
theorem AirStep.next {S : Nat → Prop} {p : Nat} {ds : List Dr} {w w1 w2 : World} (h : AirStep S p ds w w1) (hb : Lat w1 w2) : AirStep S p ds w w2 := by
  obtain ⟨S', ho, hs⟩ := h.obj
  exact ⟨h.fr.next hb, S', ho.keep hb, hs⟩
theorem AirStep.ahead {S : Nat → Prop} {p : Nat} {ds : List Dr} {w w1 w2 : World} (hb : Lat w w1) (h : AirStep S p ds w1 w2) : AirStep S p ds w w2 := by
  obtain ⟨S', ho, hs⟩ := h.obj
  refine ⟨(Fr.lat hb : Fr S w w1).trans h.fr (fun _ _ e => e), S', ho, fun k hk => (hs k hk).imp id (fun h => Nat.le_trans hb.size h)⟩
theorem AirStep.trans {S : Nat → Prop} {p : Nat} {ds ds2 : List Dr} {w w1 w2 : World} (h : AirStep S p ds w w1) (k : ∀ S', AirO S' p ds w1 → AirStep S' p ds2 w1 w2) : AirStep S p ds2 w w2 := by
  obtain ⟨S', ho, hs⟩ := h.obj
  have h2 := k S' ho
  obtain ⟨S2, ho2, hs2⟩ := h2.obj
  refine ⟨h.fr.trans h2.fr (fun i hi e => ?_), S2, ho2, fun i hi => ?_⟩
  · rcases hs i e with h | h
    · exact h
    · omega
  · rcases hs2 i hi with h3 | h3
    · exact hs i h3
    · exact .inr (Nat.le_trans h.fr.size h3)
theorem AirStep.lat {S : Nat → Prop} {p : Nat} {ds : List Dr} {w0 w w' : World} (h : AirStep S p ds w w') (hb : Lat w0 w) (hS : ∀ k, S k → w0.heap.size ≤ k) : Lat w0 w' := h.fr.lat_of hb hS

theorem air_new (w : World) : Calls Tryd.prog 19 #[] w fun e w' => e = .returned (.pointer (some ⟨w.heap.size, 0, none⟩)) ∧ AirO (fun k => k = w.heap.size) w.heap.size [] w' ∧ Lat w w' := by
  go_enter Tryd.func19, Tryd.ntmps19
  go_wp2
  go_ret
  exact ⟨rfl, ⟨fun k hk => by rw [hk]; simp, rfl, by simp, none, 0, by simp, OwnR.nil _ _ _ _, fun k hk => by cases hk⟩, Lat.alloc _ _⟩

/-- what is wrong with a drop that is sent; what is in the air then -/
def snE (ds : List Dr) (d : Dr) : Nat := if d.s < 1 ∨ 10000 < d.s then 1 else if d.t.size < 1 ∨ 8 < d.t.size then 3 else if 60 ≤ ds.length then 4 else 0
def snD (ds : List Dr) (d : Dr) : List Dr := if snE ds d = 0 then ds ++ [d] else ds

set_option maxHeartbeats 4000000 in
theorem air_send_ok (S : Nat → Prop) (p : Nat) (ds : List Dr) (d : Dr) (w : World) (h : AirO S p ds w) (h1 : 1 ≤ d.s) (h2 : d.s ≤ 10000) (h3 : 1 ≤ d.t.size) (h4 : d.t.size ≤ 8) (h5 : ds.length < 60) :
    Calls Tryd.prog 20 #[.pointer (some ⟨p, 0, none⟩), .agg #[.int .i64 d.s, .string d.t]] w fun e w' => e = .returned .nilIface ∧ AirStep S p (ds ++ [d]) w w' := by
  obtain ⟨s, t⟩ := d
  simp only at h1 h2 h3 h4
  obtain ⟨a, cap, hc, ho, hk⟩ := h.row
  obtain ⟨n, hn⟩ : ∃ n, n = ds.length := ⟨_, rfl⟩
  rw [← hn] at hc ho hk h5
  have hplt := h.lt _ h.at_
  obtain ⟨W, hW⟩ : ∃ W, W = w.alloc (.cells #[.int .i64 s, .string t] 24) := ⟨_, rfl⟩
  have hWl : Lat w W := by rw [hW]; exact Lat.alloc _ _
  have hF : W.drew.cell? ⟨w.heap.size, 0, none⟩ = some (.int .i64 s) ∧ W.drew.cell? ⟨w.heap.size, 1, none⟩ = some (.string t) := by rw [hW]; exact ⟨by simp, by simp⟩
  have hG : W.drew.cell? ⟨p, 0, none⟩ = some (.slice a n cap) := hWl.cell_at hc
  have hfp : W.drew.frozen? ⟨p, 0, none⟩ = false := hWl.free_at hplt h.free
  have ho1 : OwnR W.drew 0 24 2 (.slice a n cap) (ds.map Dr.row) := OwnR.keep (w' := W.drew) ho (Lat.trans hWl (Lat.drew W))
  have hsz : W.drew.heap.size = w.heap.size + 1 := by rw [hW]; simp
  have hol := ho.lt
  have hlen : (ds.map Dr.row).length = n := by rw [List.length_map, hn]
  have cW : W.cell? ⟨w.heap.size, 0, none⟩ = some (.int .i64 s) := hF.1
  have HF := Lib.hid hF; have HG := Lib.hid hG; have HFP := Lib.hid hfp; have HO := Lib.hid ho1; have HSZ := Lib.hid hsz; have HOL := Lib.hid hol; have HLEN := Lib.hid hlen; have HK := Lib.hid hk; have HWL := Lib.hid hWl; have HN := Lib.hid hn; have HH := Lib.hid h
  have hnu : ¬ (60 : Int) ≤ (n : Int) := by omega
  have hfp0 := h.free
  clear hF hG hfp ho1 hsz hol hlen hk hWl hn h ho cW hfp0
  go_enter Tryd.func20, Tryd.ntmps20
  go_upto_region 7 with (first | (go_at_call 47; refine (seed_yes s _ h1 h2).mono ?_; rintro e w1 ⟨rfl, rfl⟩) | (go_at_call 54; refine (size_yes t.size _ (by omega) (by omega)).mono ?_; rintro e w1 ⟨rfl, rfl⟩))
  rw [← hW]
  clear hW hc
  refine wp_region_gate (fun w' => w'.cell? ⟨w.heap.size, 0, none⟩ = some (.int .i64 s) ∧ w'.cell? ⟨w.heap.size, 1, none⟩ = some (.string t)) (fun w' => w'.cell? ⟨p, 0, none⟩ = some (.slice a n cap)) 7 (by kernel_rfl) ?_
  have hF := HF.out
  have hG := HG.out
  have hfr0 : Fr S w W.drew := (Fr.lat HWL.out).drew
  generalize W.drew = W6 at *
  refine gate_takeF (i := 0) (v := ?_) rfl (by kernel_rfl) (by kernel_rfl) (by kernel_rfl) (fun _ _ _ h => h) (by decide) ⟨hF, fun _ => hG⟩ (Or.inl ⟨by rfl, ?_⟩) ?_
  rotate_left
  · intro wq hSw; obtain ⟨s0, s1⟩ := hSw; go_simp; rfl
  simp only [Act.put]
  refine gate_takeF (i := 1) (v := ?_) rfl (by kernel_rfl) (by kernel_rfl) (by kernel_rfl) (fun _ _ _ h => h) (by decide) ⟨hF, fun _ => hG⟩ (Or.inl ⟨by rfl, ?_⟩) ?_
  rotate_left
  · intro wq hSw; obtain ⟨s0, s1⟩ := hSw; go_simp; rfl
  simp only [Act.put]
  refine gate_takeF (i := 2) (v := ?_) rfl (by kernel_rfl) (by kernel_rfl) (by kernel_rfl) (fun _ _ _ h => h) (by decide) ⟨hF, fun _ => hG⟩ (Or.inl ⟨by rfl, ?_⟩) ?_
  rotate_left
  · intro wq hSw; obtain ⟨s0, s1⟩ := hSw; go_simp; rfl
  simp only [Act.put]
  refine gate_takeF (i := 3) (v := ?_) rfl (by kernel_rfl) (by kernel_rfl) (by kernel_rfl) (fun _ _ _ h => h) (by decide) ⟨hF, fun _ => hG⟩ (Or.inl ⟨by rfl, ?_⟩) ?_
  rotate_left
  · intro wq hSw; obtain ⟨s0, s1⟩ := hSw; go_simp; rfl
  simp only [Act.put]
  refine gate_takeG (i := 4) (v := ?_) rfl (by kernel_rfl) (by kernel_rfl) (by kernel_rfl) (fun _ _ _ h => h) (by decide) (by kernel_rfl) (by kernel_rfl) ⟨hF, fun _ => hG⟩ (Or.inl ⟨by rfl, ?_⟩) ?_
  rotate_left
  · intro wq hSw; obtain ⟨⟨s0, s1⟩, s2⟩ := hSw; go_simp; rfl
  simp only [Act.put]
  refine gate_takeF (i := 5) (v := ?_) rfl (by kernel_rfl) (by kernel_rfl) (by kernel_rfl) (fun _ _ _ h => h) (by decide) ⟨hF, fun _ => hG⟩ (Or.inl ⟨by rfl, ?_⟩) ?_
  rotate_left
  · intro wq hSw; obtain ⟨s0, s1⟩ := hSw; go_simp; rfl
  simp only [Act.put]
  refine gate_one (i := 6) (by kernel_rfl) rfl (fun K hK => ?_)
  go_simp
  refine hK _ _ ⟨⟨(Lat.alloc _ _).cell_at hF.1, (Lat.alloc _ _).cell_at hF.2⟩, fun _ => (Lat.alloc _ _).cell_at hG⟩ ?_
  clear hK K
  refine gate_one (i := 7) (by kernel_rfl) rfl (fun K hK => ?_)
  refine appR_step W6 0 rfl (.tmp 30) (.tmp 32) 48 rfl 24 _ 2 24 Tryd.underlying48 info_Drop rfl (by decide) (by decide) _ _ _ rfl HO.out rfl rfl (fun u hu => by simp at hu; rcases hu with rfl | rfl <;> rfl) (by rw [HLEN.out]; omega) (Nat.zero_le _) ?_
  rw [HLEN.out]
  intro g' cap' w7 hown7 hb7 hs7
  have hne : ∀ k, k < W6.heap.size → (Value.slice a n cap).ownBlock ≠ some k → ∀ q x, W6.cell? ⟨k, q, none⟩ = some x → w7.cell? ⟨k, q, none⟩ = some x := fun k hk hn q x hx => by
    rw [World.cell?_of_block (w := W6) (a := ⟨k, q, none⟩) (hs7.block k hk (fun e => hn e.symm))]; exact hx
  have hp6 : p < W6.heap.size := by rw [HSZ.out]; omega
  have hpn : (Value.slice a n cap).ownBlock ≠ some p := fun e => (HK.out p e).2 rfl
  have hbn : (Value.slice a n cap).ownBlock ≠ some w.heap.size := fun e => by have := (HOL.out _ e).2; omega
  have hF7 : w7.cell? ⟨w.heap.size, 0, none⟩ = some (.int .i64 s) ∧ w7.cell? ⟨w.heap.size, 1, none⟩ = some (.string t) := ⟨hne _ (by rw [HSZ.out]; omega) hbn _ _ hF.1, hne _ (by rw [HSZ.out]; omega) hbn _ _ hF.2⟩
  have hG7 : w7.cell? ⟨p, 0, none⟩ = some (.slice a n cap) := hne p hp6 hpn _ _ hG
  have hf7 : w7.frozen? ⟨p, 0, none⟩ = false := by
    rw [World.frozen?_of_block (w := W6) (a := ⟨p, 0, none⟩) (hs7.block p hp6 (fun e => hpn e.symm))]; exact HFP.out
  have hstep : AirStep S p (ds ++ [⟨s, t⟩]) w (w7.setCell ⟨p, 0, none⟩ (.slice (some ⟨g', 0, none⟩) (n + 1) cap')) := by
    have f1 : Fr S w w7 := hfr0.trans (Fr.app hs7 ⟨hb7.os, hb7.tape, hb7.output⟩) (fun i _ e => (HK.out i e).1)
    have hg : (S g' ∧ g' ≠ p) ∨ w.heap.size < g' + 1 := by
      rcases hs7.loc with h | ⟨g, h, hge⟩
      · exact .inl (HK.out g' h.symm)
      · have e : g' = g := Option.some.inj h
        rw [HSZ.out] at hge
        exact .inr (by omega)
    have hgp : g' ≠ p := by
      rcases hg with h | h
      · exact h.2
      · omega
    have hgl := (OwnR.lt hown7 g' rfl).2
    refine ⟨f1.then_set ⟨p, 0, none⟩ _ (.inl HH.out.at_), fun k => k = p ∨ k = g', ⟨fun k hk => ?_, .inl rfl, by rw [World.frozen?_setCell]; exact hf7, some ⟨g', 0, none⟩, cap', ?_, ?_, fun k hk => ?_⟩, fun k hk => ?_⟩
    · have hz : (w7.setCell ⟨p, 0, none⟩ (.slice (some ⟨g', 0, none⟩) (n + 1) cap')).heap.size = w7.heap.size := by simp [World.setCell]
      rw [hz]
      rcases hk with rfl | rfl
      · exact World.block_lt_of_cell? _ _ hG7
      · exact hgl
    · rw [List.length_append, List.length_singleton, ← HN.out]
      exact World.cell?_setCell_same _ _ _ hG7
    · rw [List.length_append, List.length_singleton, ← HN.out, List.map_append]
      exact OwnR.fr hown7 (Fr.set (S := fun k => k = p) w7 ⟨p, 0, none⟩ _ rfl) (fun k hk e => hgp (by rw [← e]; exact Option.some.inj hk))
    · have e : g' = k := Option.some.inj hk
      subst e
      exact ⟨.inr rfl, hgp⟩
    · rcases hk with rfl | rfl
      · exact .inl HH.out.at_
      · rcases hg with h | h
        · exact .inl h.1
        · exact .inr (by omega)
  have HST := Lib.hid hstep
  have hpw : w.heap.size ≠ p := by omega
  refine hK _ _ (FG.past (by kernel_rfl) hF7) ?_
  clear hK K hne hF hG hown7 hb7 hs7 hstep hpn hbn
  refine gate_takeF (i := 8) (v := ?_) rfl (by kernel_rfl) (by kernel_rfl) (by kernel_rfl) (fun _ _ _ h => h) (by decide) (FG.past (by kernel_rfl) hF7) (Or.inl ⟨by rfl, ?_⟩) ?_
  rotate_left
  · intro wq hSw; go_simp; rfl
  simp only [Act.put]
  refine gate_takeF (i := 9) (v := ?_) rfl (by kernel_rfl) (by kernel_rfl) (by kernel_rfl) (fun _ _ _ h => h) (by decide) (FG.past (by kernel_rfl) hF7) (Or.inl ⟨by rfl, ?_⟩) ?_
  rotate_left
  · intro wq hSw; go_simp; rfl
  simp only [Act.put]
  have hF8 : ∀ x : Value, (w7.setCell ⟨p, 0, none⟩ x).cell? ⟨w.heap.size, 0, none⟩ = some (.int .i64 s) ∧ (w7.setCell ⟨p, 0, none⟩ x).cell? ⟨w.heap.size, 1, none⟩ = some (.string t) := fun x =>
    ⟨by rw [World.cell?_setCell_other _ _ _ _ (by intro e; injection e with e1 _ _; exact hpw e1.symm)]; exact hF7.1, by rw [World.cell?_setCell_other _ _ _ _ (by intro e; injection e with e1 _ _; exact hpw e1.symm)]; exact hF7.2⟩
  have HF8 := Lib.hid hF8
  refine gate_one (i := 10) (by kernel_rfl) rfl (fun K hK => ?_)
  clear hF8 hF7
  go_simp
  refine hK _ _ (FG.past (by kernel_rfl) (HF8.out _)) ?_
  clear hK K
  refine gate_done (by kernel_rfl) ?_ _
  go_wp2
  go_ret
  exact ⟨rfl, HST.out⟩

theorem air_send (S : Nat → Prop) (p : Nat) (ds : List Dr) (d : Dr) (w : World) (h : AirO S p ds w) :
    Calls Tryd.prog 20 #[.pointer (some ⟨p, 0, none⟩), .agg #[.int .i64 d.s, .string d.t]] w fun e w' => e = .returned (errv (snE ds d)) ∧ AirStep S p (snD ds d) w w' := by
  by_cases h0 : snE ds d = 0
  · have h0' := h0
    unfold snE at h0'
    repeat' split at h0'
    all_goals first | omega | skip
    rename_i q1 q2 q3
    rw [snD, if_pos h0, h0]
    exact air_send_ok S p ds d w h (by omega) (by omega) (by omega) (by omega) (by omega)
  · rw [snD, if_neg h0, errv_pos h0]
    obtain ⟨a, cap, hc, _, _⟩ := h.row
    have hk := AirStep.keep h (Lat.alloc w (.cells #[.int .i64 d.s, .string d.t] 24))
    have hb := Lat.alloc w (.cells #[.int .i64 d.s, .string d.t] 24)
    have hcp := hb.cell_at hc
    obtain ⟨s, t⟩ := d
    simp only at *
    have HK := Lib.hid hk
    clear hk hb
    by_cases q1 : s < 1 ∨ 10000 < s
    · have e1 : snE ds ⟨s, t⟩ = 1 := if_pos q1
      rw [e1]
      have Q1 := Lib.hid q1
      clear q1 e1 h h0 hc hcp
      go_enter Tryd.func20, Tryd.ntmps20
      go_wp2_with (go_at_call 47; refine (seed_no s _ Q1.out).mono ?_; rintro e w1 ⟨rfl, rfl⟩)
      go_ret
      exact ⟨rfl, HK.out⟩
    have s1 : 1 ≤ s := by omega
    have s2 : s ≤ 10000 := by omega
    by_cases q2 : t.size < 1 ∨ 8 < t.size
    · have e1 : snE ds ⟨s, t⟩ = 3 := by unfold snE; rw [if_neg q1, if_pos q2]
      rw [e1]
      have q3 : (t.size : Int) < 1 ∨ 8 < (t.size : Int) := by omega
      have Q1 := Lib.hid q3
      clear q1 q2 q3 e1 h h0 hc hcp
      go_enter Tryd.func20, Tryd.ntmps20
      go_wp2_with (first | (go_at_call 47; refine (seed_yes s _ s1 s2).mono ?_; rintro e w1 ⟨rfl, rfl⟩) | (go_at_call 54; refine (size_no t.size _ Q1.out).mono ?_; rintro e w1 ⟨rfl, rfl⟩))
      go_ret
      exact ⟨rfl, HK.out⟩
    have t1 : (1 : Int) ≤ t.size := by omega
    have t2 : (t.size : Int) ≤ 8 := by omega
    have q3 : 60 ≤ ds.length := by
      rcases Nat.lt_or_ge ds.length 60 with h1 | h1
      · exact absurd (by unfold snE; rw [if_neg q1, if_neg q2, if_neg (by omega)]) h0
      · exact h1
    have e1 : snE ds ⟨s, t⟩ = 4 := by unfold snE; rw [if_neg q1, if_neg q2, if_pos q3]
    rw [e1]
    obtain ⟨n, hn⟩ : ∃ n, n = ds.length := ⟨_, rfl⟩
    rw [← hn] at hcp q3
    clear q1 q2 e1 h h0 hc hn
    go_enter Tryd.func20, Tryd.ntmps20
    go_wp2_with (first | (go_at_call 47; refine (seed_yes s _ s1 s2).mono ?_; rintro e w1 ⟨rfl, rfl⟩) | (go_at_call 54; refine (size_yes t.size _ t1 t2).mono ?_; rintro e w1 ⟨rfl, rfl⟩))
    go_ret
    exact ⟨rfl, HK.out⟩
end Go.Proofs.YtooepflfofgnnaaDoor
