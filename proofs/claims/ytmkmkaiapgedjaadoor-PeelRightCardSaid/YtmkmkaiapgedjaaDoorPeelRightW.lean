/- The walk of PeelRight: it returns true, whatever it is asked. -/
import Derived.Test.YtmkmkaiapgedjaaDoorPeelPl3
import Derived.Test.YtmkmkaiapgedjaaDoorPeelWt
import Derived.Test.YtmkmkaiapgedjaaDoorSame
import Derived.Test.YtmkmkaiapgedjaaDoorSameInts
import Derived.Deep.LoopGhost
import Derived.Deep.DeepCutAuto
import Derived.Deep.CutBlock
namespace Go.Proofs.YtmkmkaiapgedjaaDoor
open Go.ChangeShapes Go.WideShapes Go.ChangeAt Go.RowKit

theorem info_DropP : (Tryd.prog.info? 52).map (fun i => (i.zero, i.size, i.bytes)) = some (some (.agg #[.int .i64 0, .string { data := #[] }]), 2, 24) := by kernel_rfl
theorem left_one' {K : Kn} {z : Int} {d : Bts} (h : K z = none) : leftW K [([z], d)] = [([z], d)] := by
  have hu : unkn K z = true := by unfold unkn; rw [h]; rfl
  have ho : ovK K d z = d := by unfold ovK; rw [h]
  unfold leftW wout
  simp [hu, ho, some1]
theorem lrn_one (k : Nat) {K : Kn} {z : Int} {d : Bts} (h : K z = none) : lrnK k K [([z], d)] = updK K z d ∧ lrnL k K [([z], d)] = [] ∧ lrnO k K [([z], d)] = [z] := by
  have hk : leftW (updK K z d) [([z], d)] = [] := by
    have hu : unkn (updK K z d) z = false := by unfold unkn updK; rw [if_pos rfl]; rfl
    unfold leftW wout
    simp [hu, some1]
  have e : learnF (k + 1) K [([z], d)] [] = (updK K z d, [], [z]) := by
    rw [learnF, left_one' h, show [(([z] : List Int), d)].find? one1 = some ([z], d) from rfl]
    show learnF k (updK K z d) [([z], d)] [z] = _
    cases k with
    | zero => rw [learnF, hk]
    | succ g => rw [learnF, hk]; rfl
  unfold lrnK lrnL lrnO
  rw [e]
  exact ⟨rfl, rfl, by simp⟩
theorem fact_take (G : Nat → Prop) (p : Nat) (w : World) (h : PeelO G p 2 1 (fun _ => none) [] [] w) :
    Calls Tryd.prog 25 #[.pointer (some ⟨p, 0, none⟩), .agg #[.int .i64 2, .string { data := #[98] }]] w fun e w' => ∃ oa oc G', e = .returned (.tuple #[.slice oa 1 oc, .nilIface]) ∧ IntsAt w' oa 1 oc [1] ∧ PeelO G' p 2 1 (updK (fun _ => none) 1 [98]) [2] [] w' ∧ Fr G w w' := by
  have hE : tkE 2 1 [] 2 [98] = 0 := by decide
  have := take_ok G p 2 1 (fun _ => none) [] [] 2 [98] w h hE
  have hs : setZ 2 (2 : Int).toNat = [1] := by decide
  rw [hs, List.nil_append, (lrn_one 2 (K := fun _ => none) (z := 1) (d := [98]) rfl).1, (lrn_one 2 (K := fun _ => none) (z := 1) (d := [98]) rfl).2.1, (lrn_one 2 (K := fun _ => none) (z := 1) (d := [98]) rfl).2.2] at this
  refine this.mono fun e w' ⟨oa, oc, he, hi, hst⟩ => ?_
  obtain ⟨G', ho, _⟩ := hst.obj
  exact ⟨oa, oc, G', he, hi, ho, hst.fr⟩

theorem PeelO.ltP {G : Nat → Prop} {p k m : Nat} {K : Kn} {T : List Int} {L : List Wt} {w : World} (h : PeelO G p k m K T L w) : ∀ i, G i → i < w.heap.size := by
  obtain ⟨kb, tb, a, cap, h⟩ := h
  exact h.lt
/-- Two peelers beside one another, and the drops that the first one took. -/
structure PR (B p q n m : Nat) (G1 G2 : Nat → Prop) (K1 K2 : Kn) (T1 T2 : List Int) (L1 L2 : List Wt) (v : Value) (ds : List Dr) (w : World) : Prop where
  p1 : PeelO G1 p n m K1 T1 L1 w
  p2 : PeelO G2 q n m K2 T2 L2 w
  dj : ∀ i, G1 i → ¬ G2 i
  lo1 : ∀ i, G1 i → B ≤ i
  lo2 : ∀ i, G2 i → B ≤ i
  row : OwnR w B 52 2 v (ds.map Dr.row)
  own : ∀ i, v.ownBlock = some i → ¬ G1 i ∧ ¬ G2 i
theorem PR.keep {B p q n m : Nat} {G1 G2 : Nat → Prop} {K1 K2 : Kn} {T1 T2 : List Int} {L1 L2 : List Wt} {v : Value} {ds : List Dr} {w w' : World} (h : PR B p q n m G1 G2 K1 K2 T1 T2 L1 L2 v ds w) (hb : Lat w w') : PR B p q n m G1 G2 K1 K2 T1 T2 L1 L2 v ds w' :=
  ⟨h.p1.keep hb, h.p2.keep hb, h.dj, h.lo1, h.lo2, h.row.keep hb, h.own⟩
theorem PR.step1 {B p q n m : Nat} {G1 G2 : Nat → Prop} {K1 K2 K1' : Kn} {T1 T2 T1' : List Int} {L1 L2 L1' : List Wt} {v : Value} {ds : List Dr} {w w' : World} (h : PR B p q n m G1 G2 K1 K2 T1 T2 L1 L2 v ds w) (hB : B ≤ w.heap.size) (hs : PeelStep G1 p n m K1' T1' L1' w w') : ∃ G1', PR B p q n m G1' G2 K1' K2 T1' T2 L1' L2 v ds w' := by
  obtain ⟨G', ho, hG⟩ := hs.obj
  have hrl := h.row.lt
  refine ⟨G', ho, h.p2.fr hs.fr (fun i h1 h2 => h.dj i h2 h1), fun i h1 h2 => ?_, fun i h1 => ?_, h.lo2, h.row.fr hs.fr (fun i hi => (h.own i hi).1), fun i hi => ⟨fun h1 => ?_, (h.own i hi).2⟩⟩
  · rcases hG i h1 with h3 | h3
    · exact h.dj i h3 h2
    · have := h.p2.ltP i h2; omega
  · rcases hG i h1 with h3 | h3
    · exact h.lo1 i h3
    · omega
  · rcases hG i h1 with h3 | h3
    · exact (h.own i hi).1 h3
    · have := (hrl i hi).2; omega
theorem PR.step2 {B p q n m : Nat} {G1 G2 : Nat → Prop} {K1 K2 K2' : Kn} {T1 T2 T2' : List Int} {L1 L2 L2' : List Wt} {v : Value} {ds : List Dr} {w w' : World} (h : PR B p q n m G1 G2 K1 K2 T1 T2 L1 L2 v ds w) (hB : B ≤ w.heap.size) (hs : PeelStep G2 q n m K2' T2' L2' w w') : ∃ G2', PR B p q n m G1 G2' K1 K2' T1 T2' L1 L2' v ds w' := by
  obtain ⟨G', ho, hG⟩ := hs.obj
  have hrl := h.row.lt
  refine ⟨G', h.p1.fr hs.fr (fun i h1 h2 => h.dj i h1 h2), ho, fun i h1 h2 => ?_, h.lo1, fun i h1 => ?_, h.row.fr hs.fr (fun i hi => (h.own i hi).2), fun i hi => ⟨(h.own i hi).1, fun h1 => ?_⟩⟩
  · rcases hG i h2 with h3 | h3
    · exact h.dj i h1 h3
    · have := h.p1.ltP i h1; omega
  · rcases hG i h1 with h3 | h3
    · exact h.lo2 i h3
    · omega
  · rcases hG i h1 with h3 | h3
    · exact (h.own i hi).2 h3
    · have := (hrl i hi).2; omega
theorem PR.push {B p q n m : Nat} {G1 G2 : Nat → Prop} {K1 K2 : Kn} {T1 T2 : List Int} {L1 L2 : List Wt} {v v' : Value} {ds : List Dr} {d : Dr} {w w' : World} (h : PR B p q n m G1 G2 K1 K2 T1 T2 L1 L2 v ds w) (hs : AppStep w w' v v') (hb : Below B w w') (hr : OwnR w' B 52 2 v' (ds.map Dr.row ++ [d.row])) : PR B p q n m G1 G2 K1 K2 T1 T2 L1 L2 v' (ds ++ [d]) w' := by
  have hf : Fr (fun i => v.ownBlock = some i) w w' := ⟨hb.os, hb.tape, hb.output, hs.size, fun i hi hne => hs.block i hi (fun e => hne e.symm)⟩
  refine ⟨h.p1.fr hf (fun i h1 h2 => (h.own i h2).1 h1), h.p2.fr hf (fun i h1 h2 => (h.own i h2).2 h1), h.dj, h.lo1, h.lo2, by rw [List.map_append]; exact hr, fun i hi => ?_⟩
  rcases hs.loc with e | ⟨g, e, hg⟩
  · rw [e] at hi; exact h.own i hi
  · rw [e] at hi
    injection hi with hi
    exact ⟨fun h1 => by have := h.p1.ltP i h1; omega, fun h1 => by have := h.p2.ltP i h1; omega⟩

theorem not_take {α : Type} {l : List α} (h : l.Nodup) {t : Nat} (ht : t < l.length) : l[t] ∉ l.take t := fun hm => by
  have e := List.take_append_drop t l
  rw [← e] at h
  have h2 := (List.nodup_append.1 h).2.2
  exact h2 _ hm _ (by rw [List.drop_eq_getElem_cons ht]; exact List.mem_cons_self ..) rfl
theorem knwL_none (k : Nat) : knwL (fun _ => none) k = [] := by unfold knwL; rw [List.filter_eq_nil_iff]; intro z _; exact fun h => by cases h
set_option maxHeartbeats 8000000 in
set_option maxRecDepth 100000 in
theorem walk_peelRight (a : Option Addr) (n cap : Nat) (ss : List ByteArray) (az : Option Addr) (nz cz : Nat) (zs : List Int) (w : World) (hg : Hnd w) (h : StrsAt w a n cap ss) (hz : IntsAt w az nz cz zs) :
    Calls Tryd.prog 6 #[.slice a n cap, .slice az nz cz] w fun e w' => e = .returned (.bool true) ∧ Lat w w' := by
  have HG := Lib.hid hg; have H := Lib.hid h; have HZ := Lib.hid hz
  have hl := h.len
  have hzl := hz.len
  have hnew := peel_new_ok 2 1 w (by omega) (by omega) (by omega) (by omega)
  have HN : Hid (Calls Tryd.prog 21 #[.int .i64 2, .int .i64 1] w fun e w' => ∃ p G, e = .returned (.tuple #[.pointer (some ⟨p, 0, none⟩), .nilIface]) ∧ PeelO G p 2 1 (fun _ => none) [] [] w' ∧ (∀ i, G i → w.heap.size ≤ i) ∧ Lat w w') := hnew
  have hbE : blkE 2 (updK (fun _ => none) 1 [98]) 1 = 0 := by decide
  have hbB : blkB 2 (updK (fun _ => none) 1 [98]) 1 = [98] := by decide
  have HBE := Lib.hid hbE; have HBB := Lib.hid hbB; have HL := Lib.hid hl; have HZL := Lib.hid hzl
  clear hg h hz hl hzl hnew hbE hbB
  go_enter Tryd.func6, Tryd.ntmps6
  go_wp2_with fail
  refine HN.out.mono ?_
  rintro e w1 ⟨p0, G0, rfl, hp0, hG0, hb1⟩
  have hft := fact_take G0 p0 w1 hp0
  have HFT := Lib.hid hft; have HG0 := Lib.hid hG0; have HB1 := Lib.hid hb1
  clear hft hp0 hG0 hb1 HN
  go_wp2_with fail
  refine HFT.out.mono ?_
  rintro e w2 ⟨oa, oc, G0', rfl, hoi, hpo, hfr⟩
  have hb2 : Lat w w2 := hfr.lat_of HB1.out HG0.out
  have hblk := peel_block G0' p0 2 1 _ _ _ 1 w2 hpo (by omega)
  rw [HBE.out, HBB.out, errv_zero rfl] at hblk
  obtain ⟨ob, oo, rfl, hoc⟩ := hoi.row.at_ (by omega)
  have k0 : w2.cell? ⟨ob, oo, none⟩ = some (.int .i64 1) := hoc 0 (by omega)
  have kle := hoi.row.le
  have HBLK : Hid (Calls Tryd.prog 26 #[.pointer (some ⟨p0, 0, none⟩), .int .i64 1] w2 fun e w' => e = .returned (.tuple #[.string { data := #[98] }, .nilIface]) ∧ w2 = w') := hblk
  have HB2 := Lib.hid hb2
  clear hblk hoi hpo hfr hoc hb2 HFT
  go_wp2_with fail
  refine HBLK.out.mono ?_
  rintro e w3 ⟨rfl, rfl⟩
  clear HBLK
  go_wp2_with fail
  by_cases hc : chk ss = 0
  case neg =>
    have hck := fun W (hW : Lat w W) => check_bad a n cap ss W (H.out.keep hW) hc
    obtain ⟨E, hE⟩ : ∃ E, E = chk ss := ⟨_, rfl⟩
    rw [← hE] at hck
    have HCK := Lib.hid hck
    clear hc hck hE
    refine (HCK.out _ HB2.out).mono ?_
    rintro e w4 ⟨rfl, hb4⟩
    go_wp2_with fail
    go_ret
    exact ⟨rfl, HB2.out.trans hb4⟩
  refine (check_ok a n cap ss _ (H.out.keep HB2.out) hc).mono ?_
  rintro e w4 ⟨rfl, hb4⟩
  have hok := chk_ok hc
  have hn1 : 1 ≤ n := by have := hok.pos; have := HL.out; omega
  have hn16 : n ≤ 16 := by have := hok.most; have := HL.out; omega
  have hl4 := HB2.out.trans hb4
  obtain ⟨bb, o, rfl, hcc⟩ := H.out.row.at_ (by omega)
  have c0 : w.cell? ⟨bb, o, none⟩ = some (.string (ss.getD 0 ByteArray.empty)) := szAt_zero (hcc 0 (by omega))
  have c0 := hl4.cell_at c0
  have hm1 := hok.one
  have hm8 := hok.eight
  obtain ⟨s0, hs0⟩ : ∃ s0, s0 = ss.getD 0 ByteArray.empty := ⟨_, rfl⟩
  have hsz : s0.size = szAt ss 0 := by rw [hs0]; rfl
  rw [← hs0] at c0
  obtain ⟨m, hm⟩ : ∃ m, m = szAt ss 0 := ⟨_, rfl⟩
  rw [← hm] at hsz hm1 hm8
  have hcap := H.out.row.le
  have hcm := H.out.row.cap
  have hzc := HZ.out.row.cap
  have hzle := HZ.out.row.le
  unfold maxLen at hcm hzc
  have HC := Lib.hid hc; have HOK := Lib.hid hok; have HM := Lib.hid hm; have HL4 := Lib.hid hl4
  have zn : (0 : Int) < (n : Int) := by omega
  clear hc hok hcc hs0 hm hb4 hl4
  go_wp2_with fail
  refine (peel_new_ok n m _ hn1 hn16 hm1 hm8).mono ?_
  rintro e w5 ⟨p, Gp, rfl, hp, hGp, hb5⟩
  have c0 := hb5.cell_at c0
  go_wp2_with fail
  refine (peel_new_ok n m _ hn1 hn16 hm1 hm8).mono ?_
  rintro e w6 ⟨q, Gq, rfl, hq, hGq, hb6⟩
  have hpr : PR w4.heap.size p q n m Gp Gq (fun _ => none) (fun _ => none) [] [] [] [] (.slice none 0 0) [] w6 :=
    ⟨hp.keep hb6, hq, fun i h1 h2 => by have := hp.ltP i h1; have := hGq i h2; omega, hGp, fun i h => Nat.le_trans hb5.size (hGq i h), OwnR.nil _ _ _ _, fun i hi => (by cases hi)⟩
  have hl46 : Lat w4 w6 := hb5.trans hb6
  have HPR := Lib.hid hpr; have HL46 := Lib.hid hl46
  clear hp hGp hb5 hq hGq hb6 hpr hl46 c0 k0
  go_upto_block 0 with fail
  go_cut [14, 13] (fun v mv wx => ∃ (my : Nat) (ds : List Dr), mv = .int .i64 my ∧ Hid (∃ G1 K1 L1, PR w4.heap.size p q n m G1 Gq K1 (fun _ => none) (ds.map Dr.s) [] L1 [] v ds wx ∧ PS ss ds K1 L1 ∧ my = (knwL K1 n).length ∧ ds.length ≤ 60 ∧ (ds.map Dr.s).Nodup ∧ Lat w4 wx))
  case first =>
    go_wp2_with fail
    go_loopg [14, 13, 15] nz (fun f v mv iv wr => ∃ (j my : Nat) (ds : List Dr), j + f = nz ∧ j ≤ 60 ∧ mv = .int .i64 my ∧ iv = .int .i64 j ∧ Hid (∃ G1 K1 L1, PR w4.heap.size p q n m G1 Gq K1 (fun _ => none) (ds.map Dr.s) [] L1 [] v ds wr ∧ PS ss ds K1 L1 ∧ my = (knwL K1 n).length ∧ ds.length ≤ j ∧ (ds.map Dr.s).Nodup ∧ Lat w4 wr))
    case atStart => exact ⟨0, 0, [], by omega, by omega, rfl, rfl, Gp, _, _, HPR.out, PS.nil ss, by rw [knwL_none]; rfl, Nat.le_refl _, List.nodup_nil, HL46.out⟩
    case round =>
      obtain ⟨j, my, ds, hj, hj60, rfl, rfl, hrel⟩ := hrel
      by_cases hlt : j < nz ∧ j < 60
      · obtain ⟨G1, K1, L1, hp, hps, hmy, hdl, hnd, hlat⟩ := hrel.out
        obtain ⟨f, rfl⟩ : ∃ f, gk = f + 1 := ⟨gk - 1, by omega⟩
        have dj : decide (j < nz) = true := decide_eq_true hlt.1
        have dj2 : decide ((j : Int) < 60) = true := decide_eq_true (by omega)
        obtain ⟨zb, zo, rfl, hzc2⟩ := (HZ.out.keep (HL4.out.trans hlat)).row.at_ (by omega)
        have z1 := hzc2 j hlt.1
        obtain ⟨s, hs⟩ : ∃ s, s = zs.getD j 0 := ⟨_, rfl⟩
        rw [← hs] at z1
        have hmk := fun W (hW : Lat wr W) => make_tells _ n cap ss s W (H.out.keep ((HL4.out.trans hlat).trans hW))
        have i1 : (0 : Int) ≤ (j : Int) := by omega
        have i2 : (j : Int) < (nz : Int) := by omega
        by_cases hE : dmkE ss s = 0
        · obtain ⟨-, hs1, hs2, hms, -, hsz2⟩ := made_sum hE
          obtain ⟨t, ht⟩ := S_of (dmkD ss s)
          rw [hE, errv_zero rfl, hms, ht] at hmk
          have htm : t.length = m := by rw [ht, ← HM.out] at hsz2; exact hsz2
          have hde : drpE n m s (S t) = 0 := drpE_ok hn1 hn16 hm1 hm8 hs1 hs2 htm
          have HMK := Lib.hid hmk; have HP := Lib.hid hp; have HPS := Lib.hid hps; have HMY := Lib.hid hmy; have HDL := Lib.hid hdl; have HND := Lib.hid hnd; have HLA := Lib.hid hlat
          by_cases hmem : s ∈ ds.map Dr.s
          · have htE : tkE n m (ds.map Dr.s) s t = 7 := by unfold tkE; rw [if_neg (fun e => e hde), if_pos hmem]
            have htk := fun W (hW : Lat wr W) => take_bad G1 p n m K1 (ds.map Dr.s) L1 s t W (hp.p1.keep hW) (by rw [htE]; decide)
            rw [htE] at htk
            have HTK := Lib.hid htk
            clear hrel hp hps hmy hdl hnd hlat hzc2 hs hmk hE hs1 hs2 hms hsz2 ht htm hde hmem htE htk
            go_wp2_with fail
            refine (HMK.out _ (Lat.refl _)).mono ?_
            rintro e w7 ⟨rfl, hb7⟩
            have hl8 : Lat wr (w7.alloc (.cells #[.int .i64 s, .string (S t)] 52)) := hb7.trans (Lat.alloc _ _)
            go_wp2_with fail
            refine (HTK.out _ hl8).mono ?_
            rintro e w9 ⟨rfl, hb9⟩
            have hl9 := hl8.trans hb9
            go_wp2_with fail
            refine (sameErr_eno 7 _ (HG.out.keep ((HL4.out.trans HLA.out).trans hl9))).mono ?_
            rintro e w10 ⟨rfl, hb10⟩
            have hl10 := hl9.trans hb10
            go_wp2_with fail
            go_roundg f
            case measure => omega
            case rel => exact ⟨j + 1, my, ds, by omega, by omega, rfl, by go_num, G1, K1, L1, HP.out.keep hl10, HPS.out, HMY.out, Nat.le_succ_of_le HDL.out, HND.out, HLA.out.trans hl10⟩
          · have htE : tkE n m (ds.map Dr.s) s t = 0 := by unfold tkE; rw [if_neg (fun e => e hde), if_neg hmem, if_neg (by rw [List.length_map]; omega)]
            have htk := fun W (hW : Lat wr W) => take_ok G1 p n m K1 (ds.map Dr.s) L1 s t W (hp.p1.keep hW) htE
            have hpn := hps.take HC.out hE ht
            rw [HL.out] at hpn
            obtain ⟨on, hon⟩ : ∃ on, on = (lrnO n K1 (L1 ++ [(setZ n s.toNat, t)])).length := ⟨_, rfl⟩
            rw [← hon] at htk hpn
            have hrn : (ds.map Dr.row).length < 1000000000000 := by rw [List.length_map]; omega
            have hnd2 : ((ds ++ [(⟨s, S t⟩ : Dr)]).map Dr.s).Nodup := by
              rw [List.map_append]
              refine List.nodup_append.2 ⟨hnd, by simp, fun x hx y hy e => ?_⟩
              rw [List.mem_singleton.1 (show y ∈ [s] from hy)] at e
              exact hmem (e ▸ hx)
            have hmy16 : my ≤ 16 := by rw [hmy]; exact Nat.le_trans (knwL_len _ _) hn16
            have hon16 : on ≤ 16 := by have := hpn.2; have := knwL_len (lrnK n K1 (L1 ++ [(setZ n s.toNat, t)])) n; omega
            have HTK := Lib.hid htk; have HPN := Lib.hid hpn; have HRN := Lib.hid hrn; have HND2 := Lib.hid hnd2
            clear hrel hp hps hmy hdl hnd hlat hzc2 hs hmk hE hs1 hs2 hms hsz2 ht htm hde hmem htE htk hpn hon hrn hnd2
            go_wp2_with fail
            refine (HMK.out _ (Lat.refl _)).mono ?_
            rintro e w7 ⟨rfl, hb7⟩
            obtain ⟨W8, hW8⟩ : ∃ W8, W8 = w7.alloc (.cells #[.int .i64 s, .string (S t)] 52) := ⟨_, rfl⟩
            have hb8 := BX.new w7 (.int .i64 s) (.string (S t)) 52
            rw [← hW8] at hb8
            go_upto_region 21 with fail
            rw [← hW8]
            obtain ⟨X1, hX1⟩ : ∃ X1, X1 = w7.heap.size := ⟨_, rfl⟩
            rw [← hX1] at hb8
            rw [← hX1]
            have HX1 : Hid (wr.heap.size ≤ X1) := by rw [hX1]; exact hb7.size
            have hl8 : Lat wr W8 := hb7.trans hb8.lat
            have q0 := hb8.c0
            have q1 := hb8.c1
            have HB8 := Lib.hid hb8; have HL8 := Lib.hid hl8
            clear hW8 hX1 hb7 hb8 hl8
            go_wp2_with fail
            refine (HTK.out _ HL8.out).mono ?_
            rintro e w9 ⟨ra, rc, rfl, -, hst⟩
            have hpw := HP.out.keep HL8.out
            have hB8 : w4.heap.size ≤ W8.heap.size := (HLA.out.trans HL8.out).size
            obtain ⟨G1', hp9⟩ := hpw.step1 hB8 hst
            have nX1 : ¬ G1 X1 := fun e => by have := HP.out.p1.ltP X1 e; have := HX1.out; omega
            have q0' := hst.fr.cell_at q0 nX1
            have q1' := hst.fr.cell_at q1 nX1
            have hl9 : Lat w4 w9 := hst.fr.lat_of (HLA.out.trans HL8.out) HP.out.lo1
            have HP9 := Lib.hid hp9; have HL9 := Lib.hid hl9
            have HSZ9 := Lib.hid hl9.size
            clear hpw hB8 hst hp9 nX1 hl9 q0 q1
            go_wp2_with (at_builtin; refine appR w9 w4.heap.size rfl (.tmp 127) (.tmp 129) 34 rfl 52 _ 2 24 Tryd.underlying34 info_DropP rfl (by decide) (by decide) _ _ _ rfl HP9.out.row rfl rfl (fun u hu => by simp at hu; rcases hu with rfl | rfl <;> rfl) HRN.out HSZ9.out ?_; intro v6 w10 hown6 hb6 hs6)
            have hs7 : AppStep w9 w10 u14 v6 := hs6
            have hp10 := HP9.out.push (d := ⟨s, S t⟩) hs7 hb6 hown6
            have HP10 := Lib.hid hp10; have HL10 := Lib.hid (Below.trans HL9.out hb6)
            clear hs6 hs7 hp10 hb6 hown6
            go_roundg f
            case measure => omega
            case rel => exact ⟨j + 1, my + on, ds ++ [⟨s, S t⟩], by omega, by omega, by go_num, by go_num, G1', _, _, by rw [List.map_append]; exact HP10.out, HPN.out.1, by rw [HMY.out]; exact HPN.out.2, by rw [List.length_append]; exact Nat.succ_le_succ HDL.out, HND2.out, HL10.out⟩
        · have hmk2 := hmk
          obtain ⟨E, hEd⟩ : ∃ E, E = dmkE ss s := ⟨_, rfl⟩
          rw [errv_pos hE, ← hEd] at hmk2
          have HMK := Lib.hid hmk2; have HP := Lib.hid hp; have HPS := Lib.hid hps; have HMY := Lib.hid hmy; have HDL := Lib.hid hdl; have HND := Lib.hid hnd; have HLA := Lib.hid hlat
          clear hrel hp hps hmy hdl hnd hlat hzc2 hs hmk hmk2 hE hEd
          go_wp2_with fail
          refine (HMK.out _ (Lat.refl _)).mono ?_
          rintro e w7 ⟨rfl, hb7⟩
          go_wp2_with fail
          have hl10 : Lat wr (w7.alloc (.cells #[.int .i64 (dmkS ss s), .string (dmkD ss s)] 52)) := hb7.trans (Lat.alloc _ _)
          go_roundg f
          case measure => omega
          case rel => exact ⟨j + 1, my, ds, by omega, by omega, rfl, by go_num, G1, K1, L1, HP.out.keep hl10, HPS.out, HMY.out, Nat.le_succ_of_le HDL.out, HND.out, HLA.out.trans hl10⟩
      · obtain ⟨G1, K1, L1, hp, hps, hmy, hdl, hnd, hlat⟩ := hrel.out
        have HP := Lib.hid hp; have HPS := Lib.hid hps; have HMY := Lib.hid hmy; have HDL := Lib.hid hdl; have HND := Lib.hid hnd; have HLA := Lib.hid hlat
        clear hrel hp hps hmy hdl hnd hlat
        by_cases h1 : j < nz
        · have dj : decide (j < nz) = true := decide_eq_true h1
          have dj2 : decide ((j : Int) < 60) = false := decide_eq_false (by omega)
          go_wp2_with fail
          go_meet
          exact ⟨my, ds, rfl, G1, K1, L1, HP.out, HPS.out, HMY.out, Nat.le_trans HDL.out hj60, HND.out, HLA.out⟩
        · have dj : decide (j < nz) = false := decide_eq_false h1
          go_wp2_with fail
          go_meet
          exact ⟨my, ds, rfl, G1, K1, L1, HP.out, HPS.out, HMY.out, Nat.le_trans HDL.out hj60, HND.out, HLA.out⟩
  case rest =>
  obtain ⟨my, ds, rfl, hc⟩ := hcut
  obtain ⟨G1, K1, L1, hp, hps, hmy, hdl, hnd, hlat⟩ := hc.out
  obtain ⟨dn, hdn⟩ : ∃ dn, dn = ds.length := ⟨_, rfl⟩
  obtain ⟨ma, mc, rfl, hrat⟩ := OwnR.slice hp.row (show (ds.map Dr.row).length = dn by rw [List.length_map, hdn])
  have hdn60 : dn ≤ 60 := by omega
  have hmle := hrat.le
  have hmcm := hrat.cap
  unfold maxLen at hmcm
  have HP := Lib.hid hp; have HPS := Lib.hid hps; have HMY := Lib.hid hmy; have HDN := Lib.hid hdn; have HND := Lib.hid hnd; have HLA := Lib.hid hlat
  clear hc hp hps hmy hdl hnd hlat hrat hdn
  go_upto_block 2 with fail
  go_cut [19] (fun _ wx => Hid (∃ G2 K2 L2, PR w4.heap.size p q n m G1 G2 K1 K2 (ds.map Dr.s) (ds.reverse.map Dr.s) L1 L2 (.slice ma dn mc) ds wx ∧ PS ss ds.reverse K2 L2 ∧ Lat w4 wx))
  case first =>
    go_wp2_with fail
    go_loopg [19] dn (fun f iv wr => ∃ t : Nat, t + f = dn ∧ iv = .int .i64 ((dn : Int) - 1 - (t : Int)) ∧ Hid (∃ G2 K2 L2, PR w4.heap.size p q n m G1 G2 K1 K2 (ds.map Dr.s) ((ds.reverse.take t).map Dr.s) L1 L2 (.slice ma dn mc) ds wr ∧ PS ss (ds.reverse.take t) K2 L2 ∧ Lat w4 wr))
    case atStart => exact ⟨0, by omega, by simp, Gq, _, _, HP.out, PS.nil ss, HLA.out⟩
    case round =>
      obtain ⟨t, ht, rfl, hrel⟩ := hrel
      obtain ⟨G2, K2, L2, hp2, hps2, hlat⟩ := hrel.out
      by_cases hlt : t < dn
      · obtain ⟨f, rfl⟩ : ∃ f, gk = f + 1 := ⟨gk - 1, by omega⟩
        obtain ⟨c, hc⟩ : ∃ c : Nat, c = dn - 1 - t := ⟨_, rfl⟩
        have hcI : (dn : Int) - 1 - (t : Int) = (c : Int) := by omega
        have hcl : c < dn := by omega
        have hcd : c < ds.length := by rw [← HDN.out]; exact hcl
        have htr : t < ds.reverse.length := by rw [List.length_reverse, ← HDN.out]; exact hlt
        have hrv : ds.reverse[t] = ds[c] := by rw [List.getElem_reverse]; congr 1; have := HDN.out; omega
        have htk : ds.reverse.take (t + 1) = ds.reverse.take t ++ [ds[c]] := by rw [List.take_succ_eq_append_getElem htr, hrv]
        have hnm : (ds[c]).s ∉ (ds.reverse.take t).map Dr.s := by
          have hn2 : (ds.reverse.map Dr.s).Nodup := by rw [List.map_reverse]; exact List.pairwise_reverse.2 (HND.out.imp fun h e => h e.symm)
          have := not_take hn2 (t := t) (by rw [List.length_map]; exact htr)
          rw [List.getElem_map, hrv, ← List.map_take] at this
          exact this
        have hdm : ds[c] ∈ ds := List.getElem_mem hcd
        obtain ⟨ma', mc', he, hrat⟩ := OwnR.slice hp2.row (show (ds.map Dr.row).length = dn by rw [List.length_map, HDN.out])
        injection he with e1 _ e3
        subst e1
        subst e3
        obtain ⟨mb, mo, rfl, hcell⟩ := hrat.at_ (by omega)
        have hr2 : (ds.map Dr.row)[c]? = some (ds[c]).row := by rw [List.getElem?_map, List.getElem?_eq_getElem hcd]; rfl
        have m0 := (hcell c _ hr2).2 0 _ rfl
        have m1 := (hcell c _ hr2).2 1 _ rfl
        rw [Nat.add_zero] at m0
        rw [← Nat.add_assoc] at m1
        obtain ⟨hE, hdt⟩ := HPS.out.made ds[c] hdm
        obtain ⟨V, hV⟩ : ∃ V, V = ds[c] := ⟨_, rfl⟩
        rw [← hV] at htk hnm m0 m1 hE hdt
        obtain ⟨s, tt⟩ := V
        simp only at hnm m0 m1 hE hdt
        obtain ⟨tb, rfl⟩ := S_of tt
        obtain ⟨-, hs1, hs2, -, -, hsz2⟩ := made_sum hE
        have htm : tb.length = m := by rw [← hdt, ← HM.out] at hsz2; exact hsz2
        have hde : drpE n m s (S tb) = 0 := drpE_ok hn1 hn16 hm1 hm8 hs1 hs2 htm
        have htE : tkE n m ((ds.reverse.take t).map Dr.s) s tb = 0 := by unfold tkE; rw [if_neg (fun e => e hde), if_neg hnm, if_neg (by rw [List.length_map, List.length_take]; omega)]
        have htk2 := take_ok G2 q n m K2 ((ds.reverse.take t).map Dr.s) L2 s tb wr hp2.p2 htE
        have hpn := (hps2.take HC.out hE hdt.symm).1
        rw [HL.out, ← htk] at hpn
        have hT : (ds.reverse.take t).map Dr.s ++ [s] = (ds.reverse.take (t + 1)).map Dr.s := by rw [htk, List.map_append]; rfl
        rw [hT] at htk2
        have i1 : (0 : Int) ≤ (c : Int) := by omega
        have i2 : (c : Int) < (dn : Int) := by omega
        have hdI : (c : Int) - 1 = (dn : Int) - 1 - ((t + 1 : Nat) : Int) := by omega
        have HTK := Lib.hid htk2; have HPN := Lib.hid hpn; have HP2 := Lib.hid hp2; have HLA2 := Lib.hid hlat; have HDI := Lib.hid hdI
        clear hrel hp2 hps2 hlat hcd htr hrv htk hnm hdm hrat hcell hr2 hE hdt hV hs1 hs2 hsz2 htm hde htE htk2 hpn hT hdI hc
        go_wp2_with fail
        refine HTK.out.mono ?_
        rintro e w9 ⟨ra, rc, rfl, -, hst⟩
        obtain ⟨G2', hp9⟩ := HP2.out.step2 HLA2.out.size hst
        have hl9 : Lat w4 w9 := hst.fr.lat_of HLA2.out HP2.out.lo2
        have HP9 := Lib.hid hp9; have HL9 := Lib.hid hl9
        clear hst hp9 hl9
        go_wp2_with fail
        go_roundg f
        case measure => omega
        case rel => exact ⟨t + 1, by omega, congrArg (Value.int .i64) HDI.out, G2', _, _, HP9.out, HPN.out, HL9.out⟩
      · obtain rfl : t = dn := by omega
        have hneg : (t : Int) - 1 - (t : Int) = -1 := by omega
        have hfull : ds.reverse.take t = ds.reverse := List.take_of_length_le (by rw [List.length_reverse, HDN.out]; exact Nat.le_refl _)
        rw [hfull] at hp2 hps2
        have HP2 := Lib.hid hp2; have HPS2 := Lib.hid hps2; have HLA2 := Lib.hid hlat
        clear hrel hp2 hps2 hlat hfull
        go_wp2_with fail
        go_meet
        exact ⟨G2, K2, L2, HP2.out, HPS2.out, HLA2.out⟩
  case rest =>
  obtain ⟨G2, K2, L2, hp2, hps2, hlat⟩ := hcut.out
  have hkw1 := fun W (hW : Lat wc W) => peel_knows G1 p n m K1 _ L1 W (hp2.p1.keep hW) hn16
  have hkw2 := fun W (hW : Lat wc W) => peel_knows G2 q n m K2 _ L2 W (hp2.p2.keep hW) hn16
  have hsame := HPS.out.same HC.out hps2 (fun d => List.mem_reverse.symm)
  have hkeq := knwL_congr hsame n
  rw [← hkeq] at hkw2
  rw [← HMY.out] at hkw1 hkw2
  have hww1 := fun W (hW : Lat wc W) => peel_waits G1 p n m K1 _ L1 W (hp2.p1.keep hW)
  have hww2 := fun W (hW : Lat wc W) => peel_waits G2 q n m K2 _ L2 W (hp2.p2.keep hW)
  rw [← HPS.out.waits HC.out hps2] at hww2
  have hbl1 := fun z W (hW : Lat wc W) => peel_block G1 p n m K1 _ L1 z W (hp2.p1.keep hW) hn16
  have hbl2 := fun z W (hW : Lat wc W) => peel_block G2 q n m K2 _ L2 z W (hp2.p2.keep hW) hn16
  have hval : ∀ z : Int, 0 ≤ z → z < (n : Int) → (K1 z).isSome = true → blkE n K1 z = 0 ∧ blkE n K2 z = 0 ∧ S (blkB n K1 z) = ss.getD z.toNat ByteArray.empty ∧ S (blkB n K2 z) = ss.getD z.toNat ByteArray.empty := fun z h0 h1 hk => by
    have hk2 := hk
    rw [hsame z] at hk2
    obtain ⟨b1, hb1⟩ := Option.isSome_iff_exists.1 hk
    obtain ⟨b2, hb2⟩ := Option.isSome_iff_exists.1 hk2
    have v1 := (HPS.out.pi.val z b1 hb1).2.2
    have v2 := (hps2.pi.val z b2 hb2).2.2
    refine ⟨by unfold blkE; rw [if_neg (by omega), if_pos hk], by unfold blkE; rw [if_neg (by omega), if_pos hk2], ?_, ?_⟩
    · unfold blkB; rw [if_neg (by omega), hb1]; show S b1 = _; rw [v1]; rfl
    · unfold blkB; rw [if_neg (by omega), hb2]; show S b2 = _; rw [v2]; rfl
  obtain ⟨wl, hwl⟩ : ∃ wl, wl = L1.length := ⟨_, rfl⟩
  rw [← hwl] at hww1 hww2
  have hmy16 : my ≤ 16 := by rw [HMY.out]; exact Nat.le_trans (knwL_len _ _) hn16
  have HK1 := Lib.hid hkw1; have HK2 := Lib.hid hkw2; have HW1 := Lib.hid hww1; have HW2 := Lib.hid hww2; have HBL1 := Lib.hid hbl1; have HBL2 := Lib.hid hbl2; have HV := Lib.hid hval; have HLA2 := Lib.hid (HL4.out.trans hlat)
  clear hcut hp2 hps2 hlat hkw1 hkw2 hsame hkeq hww1 hww2 hbl1 hbl2 hval hwl
  go_wp2_with fail
  refine (HK1.out _ (Lat.refl _)).mono ?_
  rintro e w5 ⟨ka, kc, rfl, hka, hb5⟩
  go_wp2_with fail
  refine (HK2.out _ hb5).mono ?_
  rintro e w7 ⟨qa, qc, rfl, hqa, hb7⟩
  go_wp2_with fail
  refine (sameInts_yes ka my kc _ qa qc w7 (hka.keep hb7) hqa).mono ?_
  rintro e w8 ⟨rfl, hb8⟩
  have hl8 := (hb5.trans hb7).trans hb8
  go_wp2_with fail
  refine (HW1.out _ hl8).mono ?_
  rintro e w9 ⟨rfl, rfl⟩
  go_wp2_with fail
  refine (HW2.out _ hl8).mono ?_
  rintro e w9 ⟨rfl, rfl⟩
  have hka8 := hka.keep (hb7.trans hb8)
  have hkle := hka8.row.le
  have hkcm := hka8.row.cap
  unfold maxLen at hkcm
  have HKA := Lib.hid hka8; have HL8 := Lib.hid hl8
  clear hka hqa hb5 hb7 hb8 hka8 hl8
  go_wp2_with fail
  go_loopg [23] my (fun f iv wr => ∃ j : Nat, j + f = my ∧ iv = .int .i64 j ∧ Hid (Lat w8 wr))
  case atStart => exact ⟨0, by omega, rfl, Lat.refl _⟩
  case round =>
    obtain ⟨j, hj, rfl, hrel⟩ := hrel
    by_cases hlt : j < my
    · obtain ⟨f, rfl⟩ : ∃ f, gk = f + 1 := ⟨gk - 1, by omega⟩
      have hlat := hrel.out
      obtain ⟨kb, ko, rfl, hkc⟩ := (HKA.out.keep hlat).row.at_ (by omega)
      have z1 := hkc j hlt
      have hjl : j < (knwL K1 n).length := by rw [← HMY.out]; exact hlt
      obtain ⟨h0, h1, h2⟩ := knwL_mem K1 n _ (getD_mem _ j hjl)
      obtain ⟨zn, hzn⟩ : ∃ zn : Nat, (knwL K1 n).getD j 0 = zn := ⟨((knwL K1 n).getD j 0).toNat, by omega⟩
      rw [hzn] at z1 h0 h1 h2
      obtain ⟨v1, v2, v3, v4⟩ := HV.out zn h0 h1 h2
      have hzl : zn < n := by omega
      have c1w : w.cell? ⟨bb, o + zn, none⟩ = some (.string (ss.getD zn ByteArray.empty)) := by
        obtain ⟨b2, o2, e, hc⟩ := H.out.row.at_ (by omega)
        injection e with e
        injection e with e1 e2 _
        subst e1
        subst e2
        exact hc zn hzl
      have c1 := (HLA2.out.trans (HL8.out.trans hlat)).cell_at c1w
      have hk1 := HBL1.out zn wr (HL8.out.trans hlat)
      have hk2 := HBL2.out zn wr (HL8.out.trans hlat)
      rw [Int.toNat_natCast] at v3 v4
      rw [v1, v3, errv_zero rfl] at hk1
      rw [v2, v4, errv_zero rfl] at hk2
      obtain ⟨D, hD⟩ : ∃ D, D = ss.getD zn ByteArray.empty := ⟨_, rfl⟩
      rw [← hD] at c1 hk1 hk2
      have i1 : (0 : Int) ≤ (j : Int) := by omega
      have i2 : (j : Int) < (my : Int) := by omega
      have i3 : (0 : Int) ≤ (zn : Int) := by omega
      have i4 : (zn : Int) < (n : Int) := by omega
      have d1 : decide ((zn : Int) < 0) = false := decide_eq_false (by omega)
      have d2 : decide (n ≤ zn) = false := decide_eq_false (by omega)
      have HK3 := Lib.hid hk1; have HK4 := Lib.hid hk2
      have HRL := Lib.hid hrel.out
      clear hrel hlat hkc hjl h0 h1 h2 hzn c1w v1 v2 v3 v4 hk1 hk2 hD
      go_wp2_with fail
      refine HK3.out.mono ?_
      rintro e w9 ⟨rfl, rfl⟩
      go_wp2_with fail
      refine HK4.out.mono ?_
      rintro e w9 ⟨rfl, rfl⟩
      go_wp2_with fail
      go_roundg f
      case measure => omega
      case rel => exact ⟨j + 1, by omega, by go_num, HRL.out⟩
    · obtain rfl : j = my := by omega
      have hlat := hrel.out
      have HLF := Lib.hid ((HLA2.out.trans HL8.out).trans hlat)
      clear hlat hrel
      go_wp2_with fail
      go_ret
      exact ⟨rfl, HLF.out⟩
end Go.Proofs.YtmkmkaiapgedjaaDoor
