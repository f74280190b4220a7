/- The contracts of peel.New, Take, Knows, Waits, Block. -/
import Derived.Test.YtnndklhcckahbaaGreatDoorPeelLW
import Derived.Test.YtnndklhcckahbaaGreatDoorDropAny
namespace Go.Proofs.YtnndklhcckahbaaGreatDoor
open Go.ChangeShapes Go.WideShapes Go.ChangeAt Go.RowKit

section
variable {G : Nat → Prop} {p kb tb k m : Nat} {K : Kn} {T T' : List Int} {L : List Wt} {a : Option Addr} {cap : Nat} {w w1 w2 w3 w5 : World}
/-- a seed is taken -/
theorem PeelIn.take (h : PeelIn G p kb tb k m K T L a cap w1) (htk : TkAt w2 tb T') (hf : Fr (fun i => i = tb) w1 w2) (hm : L.length ≤ T'.length) : PeelIn G p kb tb k m K T' L a cap w2 := by
  obtain ⟨rows, ho, hw⟩ := h.row
  have np : ¬ p = tb := h.nt
  exact ⟨fun i hi => Nat.lt_of_lt_of_le (h.lt i hi) hf.size, h.gp, h.gk, h.gt, h.nk, h.nt, h.nkt, hf.cell_at h.c0 np, hf.cell_at h.c1 np, hf.cell_at h.c2 np, hf.cell_at h.c3 np, hf.cell_at h.c4 np, hf.free_at (h.lt _ h.gp) h.free np,
    h.kn.fr hf h.nkt, htk, ⟨rows, ho.fr hf (fun i hi e => (h.own i hi).2.2.2 e), hw.fr hf (fun i _ e _ => .inr (.inr (.inl e)))⟩, h.own, h.ok, hm⟩
/-- one more waits -/
theorem PeelIn.push {B g cap' : Nat} {zs : List Int} {t : Bts} {oa : Option Addr} {oc : Nat} {rows : List (List Value)} (h : PeelIn G p kb tb k m K T L a cap w3) (hGB : ∀ i, G i → i < B) (hB : B ≤ w3.heap.size) (hT : L.length + 1 ≤ T.length) (hrw : WtsAt w3 (Nb p kb tb (.slice a L.length cap)) G rows L)
    (ho : OwnR w5 0 85 2 (.slice (some ⟨g, 0, none⟩) (L.length + 1) cap') (rows ++ [[.slice oa zs.length oc, .string (S t)]])) (hs : AppStep w3 w5 (.slice a L.length cap) (.slice (some ⟨g, 0, none⟩) (L.length + 1) cap')) (hb : Below 0 w3 w5)
    (hz : IntsAt w3 oa zs.length oc zs) (hfr : ∀ b o, oa = some ⟨b, o, none⟩ → B ≤ b) (hok : WOk k m K (L ++ [(zs, t)])) :
    PeelIn (fun i => i < (w5.setCell ⟨p, 4, none⟩ (.slice (some ⟨g, 0, none⟩) (L.length + 1) cap')).heap.size ∧ (G i ∨ B ≤ i)) p kb tb k m K T (L ++ [(zs, t)]) (some ⟨g, 0, none⟩) cap' (w5.setCell ⟨p, 4, none⟩ (.slice (some ⟨g, 0, none⟩) (L.length + 1) cap')) := by
  have hf : Fr (fun i => (Value.slice a L.length cap).ownBlock = some i) w3 w5 := ⟨hb.os, hb.tape, hb.output, hs.size, fun i hi hne => hs.block i hi (fun e => hne e.symm)⟩
  obtain ⟨w6, hw6⟩ : ∃ w6, w6 = w5.setCell ⟨p, 4, none⟩ (.slice (some ⟨g, 0, none⟩) (L.length + 1) cap') := ⟨_, rfl⟩
  have hf6 : Fr (fun i => i = p) w5 w6 := by rw [hw6]; exact Fr.set _ _ _ rfl
  have hsz : w6.heap.size = w5.heap.size := by rw [hw6]; simp [World.setCell]
  have hp5 := hs.size
  have hpl := h.lt _ h.gp
  have hkl := h.lt _ h.gk
  have htl := h.lt _ h.gt
  have np : ¬ (Value.slice a L.length cap).ownBlock = some p := fun e => (h.own p e).2.1 rfl
  have nk : ¬ (Value.slice a L.length cap).ownBlock = some kb := fun e => (h.own kb e).2.2.1 rfl
  have nt : ¬ (Value.slice a L.length cap).ownBlock = some tb := fun e => (h.own tb e).2.2.2 rfl
  have hg : ((Value.slice a L.length cap).ownBlock = some g) ∨ w3.heap.size ≤ g := by
    rcases hs.loc with e | ⟨g2, e, hg⟩
    · exact .inl e.symm
    · have : g = g2 := Option.some.inj e
      exact .inr (by omega)
  have c : ∀ j x, j ≠ 4 → w3.cell? ⟨p, j, none⟩ = some x → w6.cell? ⟨p, j, none⟩ = some x := fun j x hj hx => by
    rw [hw6, World.cell?_setCell_other _ _ _ _ (by intro e; injection e with _ e _; exact hj e.symm)]; exact hf.cell_at hx np
  have c4 : w6.cell? ⟨p, 4, none⟩ = some (.slice (some ⟨g, 0, none⟩) (L.length + 1) cap') := by rw [hw6]; exact World.cell?_setCell_same _ _ _ (hf.cell_at h.c4 np)
  have fp : w6.frozen? ⟨p, 4, none⟩ = false := by rw [hw6, World.frozen?_setCell]; exact hf.free_at hpl h.free np
  have hup : ∀ i, G i → i < w6.heap.size ∧ (G i ∨ B ≤ i) := fun i hi => ⟨by have := h.lt i hi; omega, .inl hi⟩
  have hgl := (OwnR.lt ho g rfl).2
  have hgne : g ≠ p ∧ g ≠ kb ∧ g ≠ tb := by
    rcases hg with e | e
    · exact (h.own g e).2
    · exact ⟨by omega, by omega, by omega⟩
  have h1 : WtsAt w3 (fun i => Nb p kb tb (.slice a L.length cap) i ∨ i = g) (fun i => G i ∨ B ≤ i) rows L := hrw.off (fun i hi hgi e => by
    rcases e with e | e
    · exact e
    · subst e
      rcases hg with e | e
      · exact .inr (.inr (.inr e))
      · omega) (fun i _ e _ => .inl e)
  have h2 := h1.push (r := [.slice oa zs.length oc, .string (S t)]) (x := (zs, t)) ⟨oa, oc, rfl, hz, fun hn b o e hN => by
    have hbB := hfr b o e
    have hbl := hz.blk hn e
    have d1 := hGB _ h.gp
    have d2 := hGB _ h.gk
    have d3 := hGB _ h.gt
    rcases hN with (e1 | e1 | e1 | e1) | e1
    · omega
    · omega
    · omega
    · have := hGB b (h.own b e1).1; omega
    · subst e1
      rcases hg with e2 | e2
      · have := hGB b (h.own b e2).1; omega
      · omega, fun hn b o e => .inr (hfr b o e)⟩
  have h3 := (h2.fr hf (fun i _ e _ => .inl (.inr (.inr (.inr e))))).fr hf6 (fun i _ e _ => .inl (.inl e))
  rw [← hw6]
  have hll : (L ++ [(zs, t)]).length = L.length + 1 := by rw [List.length_append]; rfl
  refine ⟨fun i hi => hi.1, hup _ h.gp, hup _ h.gk, hup _ h.gt, h.nk, h.nt, h.nkt, c _ _ (by decide) h.c0, c _ _ (by decide) h.c1, c _ _ (by decide) h.c2, c _ _ (by decide) h.c3, by rw [hll]; exact c4, fp,
    (h.kn.fr hf nk).fr hf6 (fun e => h.nk e.symm), (h.tk.fr hf nt).fr hf6 (fun e => h.nt e.symm), ⟨_, by rw [hll]; exact ho.fr hf6 (fun i hi e => hgne.1 (by rw [← e]; exact Option.some.inj hi)), ?_⟩, fun i hi => ?_, hok, by rw [hll]; exact hT⟩
  · rw [hll]
    refine h3.off (fun i _ _ e => ?_) (fun i hi e _ => ⟨hi, e⟩)
    rcases e with e | e | e | e
    · exact .inl (.inl e)
    · exact .inl (.inr (.inl e))
    · exact .inl (.inr (.inr (.inl e)))
    · exact .inr (Option.some.inj e).symm
  · rw [hll] at hi
    obtain rfl : g = i := Option.some.inj hi
    refine ⟨⟨by omega, ?_⟩, hgne⟩
    rcases hg with e | e
    · exact .inl (h.own g e).1
    · exact .inr (by omega)
end

theorem peel_made (k m : Nat) (w W1 : World) (hsz : W1.heap.size = w.heap.size + 2) (h1 : KnAt W1 w.heap.size k (fun _ => none)) (h2 : TkAt W1 (w.heap.size + 1) []) :
    PeelO (fun i => w.heap.size ≤ i ∧ i < w.heap.size + 3) (w.heap.size + 2) k m (fun _ => none) [] [] (W1.alloc (.cells #[.int .i64 k, .int .i64 m, .map (some w.heap.size), .map (some (w.heap.size + 1)), .slice none 0 0] 82)) := by
  have hb := Lat.alloc W1 (.cells #[.int .i64 k, .int .i64 m, .map (some w.heap.size), .map (some (w.heap.size + 1)), .slice none 0 0] 82)
  refine ⟨w.heap.size, w.heap.size + 1, none, 0, ⟨fun i hi => by simp [hsz]; omega, by omega, by omega, by omega, by omega, by omega, by omega, ?_, ?_, ?_, ?_, ?_, ?_, h1.keep hb, h2.keep hb, ⟨[], OwnR.nil _ _ _ _, WtsAt.nil _ _ _⟩, fun i hi => (by cases hi), ⟨fun _ _ h => (by cases h), by simp, by simp, by simp⟩, Nat.le_refl _⟩⟩
  all_goals (rw [← hsz]; simp)
theorem peel_new_ok (k m : Nat) (w : World) (h1 : 1 ≤ k) (h2 : k ≤ 16) (h3 : 1 ≤ m) (h4 : m ≤ 8) :
    Calls Tryz.prog 14 #[.int .i64 k, .int .i64 m] w fun e w' => ∃ p G, e = .returned (.tuple #[.pointer (some ⟨p, 0, none⟩), .nilIface]) ∧ PeelO G p k m (fun _ => none) [] [] w' ∧ (∀ i, G i → w.heap.size ≤ i) ∧ Lat w w' := by
  have hmm := @run_makeMap Tryz.prog
  have hl : Lat w ((w.alloc (.map #[] 0)).alloc (.map #[] 0)) := (Lat.alloc _ _).trans (Lat.alloc _ _)
  have hp := peel_made k m w ((w.alloc (.map #[] 0)).alloc (.map #[] 0)) (by simp) ((KnAt.made w k).keep (Lat.alloc _ _)) (by
    have := TkAt.made (w.alloc (.map #[] 0))
    rwa [show (w.alloc (.map #[] 0)).heap.size = w.heap.size + 1 from by simp] at this)
  have HP := Lib.hid hp; have HL := Lib.hid hl
  clear hp hl
  go_enter Tryz.func14, Tryz.ntmps14
  go_wp2_with (first
    | (go_at_call 36; refine (dblocks_yes k _ (by omega) (by omega)).mono ?_; rintro e w' ⟨rfl, rfl⟩)
    | (go_at_call 23; refine (size_yes m _ (by omega) (by omega)).mono ?_; rintro e w' ⟨rfl, rfl⟩))
  go_ret2
  exact ⟨_, _, rfl, HP.out, fun i hi => hi.1, HL.out.trans (Lat.alloc _ _)⟩
theorem peel_new_bad (k m : Int) (w : World) (h : k < 1 ∨ 16 < k ∨ m < 1 ∨ 8 < m) :
    Calls Tryz.prog 14 #[.int .i64 k, .int .i64 m] w fun e w' => e = .returned (.tuple #[.pointer none, eno 1]) ∧ Lat w w' := by
  by_cases hk : k < 1 ∨ 16 < k
  · have HK := Lib.hid hk
    clear h hk
    go_enter Tryz.func14, Tryz.ntmps14
    go_wp2_with (go_at_call 36; refine (dblocks_no k _ HK.out).mono ?_; rintro e w' ⟨rfl, rfl⟩)
    go_ret2
    exact ⟨rfl, Lat.refl _⟩
  · have k1 : 1 ≤ k := by omega
    have k2 : k ≤ 16 := by omega
    have hm : m < 1 ∨ 8 < m := by omega
    have HM := Lib.hid hm
    clear h hk hm
    go_enter Tryz.func14, Tryz.ntmps14
    go_wp2_with (first
      | (go_at_call 36; refine (dblocks_yes k _ k1 k2).mono ?_; rintro e w' ⟨rfl, rfl⟩)
      | (go_at_call 23; refine (size_no m _ HM.out).mono ?_; rintro e w' ⟨rfl, rfl⟩))
    go_ret2
    exact ⟨rfl, Lat.refl _⟩

/-- which blocks of the first j are known -/
def knwL (K : Kn) (j : Nat) : List Int := ((List.range j).map Int.ofNat).filter (fun z => (K z).isSome)
theorem knwL_succ (K : Kn) (j : Nat) : knwL K (j + 1) = if (K (j : Int)).isSome = true then knwL K j ++ [(j : Int)] else knwL K j := by
  unfold knwL
  rw [List.range_succ, List.map_append, List.filter_append]
  show _ ++ [(j : Int)].filter _ = _
  cases h : (K (j : Int)).isSome <;> simp [h]
theorem knwL_mem (K : Kn) (j : Nat) : ∀ z ∈ knwL K j, 0 ≤ z ∧ z < (j : Int) ∧ (K z).isSome = true := fun z hz => by
  obtain ⟨h1, h2⟩ := List.mem_filter.1 hz
  obtain ⟨i, hi, rfl⟩ := List.mem_map.1 h1
  have := List.mem_range.1 hi
  have e : Int.ofNat i = (i : Int) := rfl
  exact ⟨by omega, by omega, h2⟩
theorem knwL_len (K : Kn) (j : Nat) : (knwL K j).length ≤ j := by
  unfold knwL
  refine Nat.le_trans (List.length_filter_le _ _) ?_
  rw [List.length_map, List.length_range]; exact Nat.le_refl _
set_option maxHeartbeats 1000000 in
theorem peel_knows (G : Nat → Prop) (p k m : Nat) (K : Kn) (T : List Int) (L : List Wt) (w : World) (h : PeelO G p k m K T L w) (hk : k ≤ 16) :
    Calls Tryz.prog 20 #[.pointer (some ⟨p, 0, none⟩)] w fun e w' => ∃ oa oc, e = .returned (.slice oa (knwL K k).length oc) ∧ IntsAt w' oa (knwL K k).length oc (knwL K k) ∧ Lat w w' := by
  obtain ⟨kb, tb, a, cap, h⟩ := h
  have c0 := h.c0
  have H2 := Lib.hid h.c2; have HK := Lib.hid h.kn
  clear h
  go_enter Tryz.func20, Tryz.ntmps20
  go_wp2
  go_loopw [3, 11] (fun v i wr => ∃ j : Nat, j ≤ k ∧ i = .int .i64 j ∧ Hid (OwnInts wr w.heap.size v (knwL K j) ∧ Lat w wr)) (fun _ i _ => k - (intOf i).toNat)
  case atStart => exact ⟨0, Nat.zero_le _, rfl, Own.nil _ _ _, Lat.refl _⟩
  case round =>
    obtain ⟨j, hj, rfl, hrel⟩ := hrel
    by_cases hlt : j < k
    · obtain ⟨hown, hlat⟩ := hrel.out
      have c2 := hlat.cell_at H2.out
      have hks := knwL_succ K j
      have hlook := (HK.out.keep hlat).look_ok hk j (by omega) (by omega)
      have hln := knwL_len K j
      have hl2 : (knwL K j).length < 1000000 := by omega
      obtain ⟨x, hx⟩ : ∃ x, x = S ((K (j : Int)).getD []) := ⟨_, rfl⟩
      rw [← hx] at hlook
      have HOW := Lib.hid hown; have HLT := Lib.hid hlat; have HKS := Lib.hid hks; have HL2 := Lib.hid hl2
      have i2 : decide ((j : Int) < (k : Int)) = true := decide_eq_true (by omega)
      cases hq : (K (j : Int)).isSome with
      | true =>
        rw [hq] at hlook
        have HQ := Lib.hid hq
        have HSZ := Lib.hid hlat.size
        clear hrel hown hlat hks hq hln hl2 hx
        go_wp2_with (at_builtin; refine app_intL wr w.heap.size rfl (.tmp 24) (.tmp 26) rfl _ _ (j : Int) rfl HOW.out rfl HL2.out HSZ.out ?_; intro v' w2 hown' hf2 _)
        go_roundw
        case rel => exact ⟨j + 1, by omega, by go_num, by rw [HKS.out, HQ.out, if_pos rfl]; exact hown', hf2.lat_of HLT.out (fun i e => (Own.lt HOW.out i e).1)⟩
        case measure => simp [intOf]; omega
      | false =>
        rw [hq] at hlook
        have HQ := Lib.hid hq
        clear hrel hown hlat hks hq hln hl2 hx
        go_wp2
        go_roundw
        case rel => exact ⟨j + 1, by omega, by go_num, by rw [HKS.out, HQ.out, if_neg (by decide)]; exact HOW.out, HLT.out⟩
        case measure => simp [intOf]; omega
    · obtain rfl : j = k := by omega
      obtain ⟨hown, hlat⟩ := hrel.out
      obtain ⟨oa, oc, rfl, hat⟩ := OwnInts.slice hown (fun z hz => by have := knwL_mem K j z hz; omega)
      obtain ⟨kl, hkl⟩ : ∃ kl, kl = (knwL K j).length := ⟨_, rfl⟩
      rw [← hkl] at hat ⊢
      have HAT := Lib.hid hat; have HL := Lib.hid hlat; have HKL := Lib.hid hkl
      clear hrel hown hlat hat hkl
      go_wp2
      go_ret
      exact ⟨oa, oc, congrArg (fun q => Ending.returned (.slice oa q oc)) HKL.out, by rw [← HKL.out]; exact HAT.out, HL.out⟩
end Go.Proofs.YtnndklhcckahbaaGreatDoor
