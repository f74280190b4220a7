/- The walk of PeelAll: it returns true, whatever the blocks and from where on. -/
import Derived.Test.YtmkmkaiapgedjaaDoorPeelTk
import Derived.Test.YtmkmkaiapgedjaaDoorUnitPl
import Derived.Test.YtmkmkaiapgedjaaDoorSame
namespace Go.Proofs.YtmkmkaiapgedjaaDoor
open Go.ChangeShapes Go.WideShapes Go.ChangeAt Go.RowKit

theorem left_self {K : Kn} {z : Int} {d : Bts} (h : K z = none) : leftW K [([z], d)] = [([z], d)] := by
  have hu : unkn K z = true := by unfold unkn; rw [h]; rfl
  have ho : ovK K d z = d := by unfold ovK; rw [h]
  unfold leftW wout
  simp [hu, ho, some1]
theorem left_known {K : Kn} {z : Int} {d : Bts} (h : K z ≠ none) : leftW K [([z], d)] = [] := by
  have hu : unkn K z = false := by
    unfold unkn
    cases hk : K z with
    | none => exact absurd hk h
    | some b => rfl
  unfold leftW wout
  simp [hu, some1]
/-- one drop of one block that is not known: it is known then, and nothing waits -/
theorem learn_single (f : Nat) {K : Kn} {z : Int} {d : Bts} (h : K z = none) : learnF (f + 1) K [([z], d)] [] = (updK K z d, [], [z]) := by
  have h1 : [(([z] : List Int), d)].find? one1 = some ([z], d) := rfl
  have h2 : leftW (updK K z d) [([z], d)] = [] := left_known (by unfold updK; rw [if_pos rfl]; exact fun e => by cases e)
  rw [learnF, left_self h, h1]
  show learnF f (updK K z d) [([z], d)] [z] = _
  cases f with
  | zero => rw [learnF, h2]
  | succ g => rw [learnF, h2]; rfl
theorem lrn_single (k : Nat) {K : Kn} {z : Int} {d : Bts} (h : K z = none) : lrnK k K [([z], d)] = updK K z d ∧ lrnL k K [([z], d)] = [] ∧ lrnO k K [([z], d)] = [z] := by
  unfold lrnK lrnL lrnO
  rw [learn_single k h]
  exact ⟨rfl, rfl, by simp⟩
/-- which block comes i-th -/
def kth (n f i : Nat) : Nat := if f + i < n then f + i else f + i - n
theorem kth_lt {n f i : Nat} (hf : f < n) (hi : i < n) : kth n f i < n := by have h1 := hf; unfold kth; split <;> omega
theorem kth_inj {n f i j : Nat} (hi : i < n) (hj : j < n) (h : kth n f i = kth n f j) : i = j := by unfold kth at h; split at h <;> split at h <;> omega
theorem kth_all {n f z : Nat} (hf : f < n) (hz : z < n) : ∃ i, i < n ∧ z = kth n f i := by
  by_cases h : f ≤ z
  · exact ⟨z - f, by omega, by unfold kth; rw [if_pos (by omega)]; omega⟩
  · exact ⟨z + n - f, by omega, by unfold kth; rw [if_neg (by omega)]; omega⟩
theorem kth_mod {n f i : Nat} (hf : f < n) (hi : i < n) : ((f : Int) + (i : Int)) % (n : Int) = (kth n f i : Int) := by
  have h : (f + i) % n = kth n f i := by
    unfold kth
    split
    · exact Nat.mod_eq_of_lt (by omega)
    · rw [Nat.mod_eq_sub_mod (by omega)]; exact Nat.mod_eq_of_lt (by omega)
  rw [← h]; simp
/-- which seeds were taken -/
def tks (n f j : Nat) : List Int := (List.range j).map fun i => (kth n f i : Int) + 1
theorem tks_succ (n f j : Nat) : tks n f (j + 1) = tks n f j ++ [(kth n f j : Int) + 1] := by unfold tks; rw [List.range_succ, List.map_append]; rfl
theorem tks_len (n f j : Nat) : (tks n f j).length = j := by unfold tks; rw [List.length_map, List.length_range]
theorem tks_not {n f j : Nat} (hj : j < n) : ((kth n f j : Int) + 1) ∉ tks n f j := fun h => by
  obtain ⟨i, hi, e⟩ := List.mem_map.1 h
  have := List.mem_range.1 hi
  have := kth_inj (f := f) (show i < n by omega) hj (by omega)
  omega
/-- which are known -/
def KAt (n f j : Nat) (K : Kn) : Prop := ∀ z : Nat, z < n → ((K (z : Int)).isSome = true ↔ ∃ i, i < j ∧ z = kth n f i)
theorem KAt.none_ {n f j : Nat} {K : Kn} (h : KAt n f j K) (hf : f < n) (hj : j < n) : K (kth n f j : Int) = none := by
  have h1 := h (kth n f j) (kth_lt hf hj)
  cases hk : K (kth n f j : Int) with
  | none => rfl
  | some b =>
    obtain ⟨i, hi, e⟩ := h1.1 (by rw [hk]; rfl)
    have := kth_inj (f := f) hj (show i < n by omega) e
    omega
theorem KAt.step {n f j : Nat} {K : Kn} (h : KAt n f j K) (d : Bts) : KAt n f (j + 1) (updK K (kth n f j : Int) d) := fun z hz => by
  unfold updK
  by_cases e : (z : Int) = (kth n f j : Int)
  · rw [if_pos e]
    exact ⟨fun _ => ⟨j, by omega, by omega⟩, fun _ => rfl⟩
  · rw [if_neg e, h z hz]
    constructor
    · rintro ⟨i, hi, e2⟩; exact ⟨i, by omega, e2⟩
    · rintro ⟨i, hi, e2⟩
      rcases Nat.lt_or_ge i j with h3 | h3
      · exact ⟨i, h3, e2⟩
      · obtain rfl : i = j := by omega
        omega
theorem KAt.all {n f : Nat} {K : Kn} (h : KAt n f n K) (hf : f < n) : (knwL K n).length = n := by
  have : knwL K n = (List.range n).map Int.ofNat := by
    unfold knwL
    rw [List.filter_eq_self]
    intro z hz
    obtain ⟨i, hi, rfl⟩ := List.mem_map.1 hz
    have hi := List.mem_range.1 hi
    obtain ⟨q, hq, e⟩ := kth_all hf hi
    exact (h i hi).2 ⟨q, hq, e⟩
  rw [this, List.length_map, List.length_range]

set_option maxHeartbeats 4000000 in
set_option maxRecDepth 100000 in
theorem walk_peelAll (a : Option Addr) (n cap : Nat) (ss : List ByteArray) (fr : Int) (w : World) (hg : Hnd w) (h : StrsAt w a n cap ss) (_ : (Lit.int .i64 fr).wf = true) :
    Calls Tryd.prog 8 #[.slice a n cap, .int .i64 fr] w fun e w' => e = .returned (.bool true) ∧ Lat w w' := by
  have hl := h.len
  have HG := Lib.hid hg; have H := Lib.hid h; have HL := Lib.hid hl
  by_cases hc : chk ss = 0
  case neg =>
    have HC := Lib.hid hc
    have h01 : (0 : Int) < 1 ∨ 16 < (0 : Int) ∨ (1 : Int) < 1 ∨ 8 < (1 : Int) := .inl (by omega)
    have H01 := Lib.hid h01
    clear hg h hl hc h01
    go_enter Tryd.func8, Tryd.ntmps8
    go_wp2_with (first
      | (go_at_call 30; refine (check_bad a n cap ss _ H.out HC.out).mono ?_; rintro e w1 ⟨rfl, hb1⟩)
      | (go_at_call 21; refine (peel_new_bad 0 1 _ H01.out).mono ?_; rintro e w2 ⟨rfl, hb2⟩)
      | (go_at_call 12; refine (sameErr_eno 1 _ (HG.out.keep (hb1.trans hb2))).mono ?_; rintro e w3 ⟨rfl, hb3⟩))
    go_ret
    exact ⟨rfl, (hb1.trans hb2).trans hb3⟩
  have hok := chk_ok hc
  have bbad : ∀ (q : fr < 0 ∨ (n : Int) ≤ fr), Calls Tryd.prog 8 #[.slice a n cap, .int .i64 fr] w fun e w' => e = .returned (.bool true) ∧ Lat w w' := by
    intro q
    have HC := Lib.hid hc
    have h01 : (0 : Int) < 1 ∨ 16 < (0 : Int) ∨ (1 : Int) < 1 ∨ 8 < (1 : Int) := .inl (by omega)
    have H01 := Lib.hid h01
    have hq : (fr < 0 ∧ decide (fr < 0) = true) ∨ (decide (fr < 0) = false ∧ decide ((n : Int) ≤ fr) = true) := by
      by_cases q1 : fr < 0
      · exact .inl ⟨q1, decide_eq_true q1⟩
      · exact .inr ⟨decide_eq_false q1, decide_eq_true (by omega)⟩
    clear hg h hl hc h01 hok q
    rcases hq with ⟨-, d1⟩ | ⟨d1, d2⟩
    · go_enter Tryd.func8, Tryd.ntmps8
      go_wp2_with (first
        | (go_at_call 30; refine (check_ok a n cap ss _ H.out HC.out).mono ?_; rintro e w1 ⟨rfl, hb1⟩)
        | (go_at_call 21; refine (peel_new_bad 0 1 _ H01.out).mono ?_; rintro e w2 ⟨rfl, hb2⟩)
        | (go_at_call 12; refine (sameErr_eno 1 _ (HG.out.keep (hb1.trans hb2))).mono ?_; rintro e w3 ⟨rfl, hb3⟩))
      go_ret
      exact ⟨rfl, (hb1.trans hb2).trans hb3⟩
    · go_enter Tryd.func8, Tryd.ntmps8
      go_wp2_with (first
        | (go_at_call 30; refine (check_ok a n cap ss _ H.out HC.out).mono ?_; rintro e w1 ⟨rfl, hb1⟩)
        | (go_at_call 21; refine (peel_new_bad 0 1 _ H01.out).mono ?_; rintro e w2 ⟨rfl, hb2⟩)
        | (go_at_call 12; refine (sameErr_eno 1 _ (HG.out.keep (hb1.trans hb2))).mono ?_; rintro e w3 ⟨rfl, hb3⟩))
      go_ret
      exact ⟨rfl, (hb1.trans hb2).trans hb3⟩
  by_cases q : fr < 0 ∨ (n : Int) ≤ fr
  · exact bbad q
  clear bbad
  obtain ⟨f, rfl⟩ : ∃ f : Nat, fr = f := ⟨fr.toNat, by omega⟩
  have hfn : f < n := by omega
  have d1 : decide ((f : Int) < 0) = false := decide_eq_false (by omega)
  have d2 : decide (n ≤ f) = false := decide_eq_false (by omega)
  have hn1 : 1 ≤ n := by omega
  have hn16 : n ≤ 16 := by have := hok.most; omega
  obtain ⟨bb, o, rfl, hcc⟩ := h.row.at_ (by omega)
  have c0 : w.cell? ⟨bb, o, none⟩ = some (.string (ss.getD 0 ByteArray.empty)) := szAt_zero (hcc 0 (by omega))
  have hm1 := hok.one
  have hm8 := hok.eight
  obtain ⟨s0, hs0⟩ : ∃ s0, s0 = ss.getD 0 ByteArray.empty := ⟨_, rfl⟩
  have hsz : s0.size = szAt ss 0 := by rw [hs0]; rfl
  rw [← hs0] at c0
  obtain ⟨m, hm⟩ : ∃ m, m = szAt ss 0 := ⟨_, rfl⟩
  rw [← hm] at hsz hm1 hm8
  have hcap := h.row.le
  have hcm := h.row.cap
  unfold maxLen at hcm
  have HC := Lib.hid hc; have HOK := Lib.hid hok; have HM := Lib.hid hm; have HSZ := Lib.hid hsz; have HC0 := Lib.hid c0
  have zn : (0 : Int) < (n : Int) := by omega
  clear hg h hl hc hok q hcc hs0 hm hsz c0
  go_enter Tryd.func8, Tryd.ntmps8
  go_upto_region 4 with (go_at_call 30; refine (check_ok _ n cap ss _ H.out HC.out).mono ?_; rintro e w1 ⟨rfl, hb1⟩)
  have c1 := hb1.cell_at HC0.out
  have hsz := HSZ.out
  go_wp2_with (go_at_call 21; refine (peel_new_ok n m _ hn1 hn16 hm1 hm8).mono ?_; rintro e w2 ⟨p, G0, rfl, hp0, hG0, hb2⟩)
  have hl2 : Lat w w2 := hb1.trans hb2
  have hG1 : ∀ i, G0 i → w.heap.size ≤ i := fun i hi => Nat.le_trans hb1.size (hG0 i hi)
  have HP0 := Lib.hid hp0; have HL2 := Lib.hid hl2; have HG1 := Lib.hid hG1
  clear hp0 hG0 hb1 hb2 hl2 hG1 c1 hsz
  go_loopw [9] (fun i wr => ∃ j : Nat, j ≤ n ∧ i = .int .i64 j ∧ Hid (∃ G K, PeelO G p n m K (tks n f j) [] wr ∧ KAt n f j K ∧ (∀ i, G i → w.heap.size ≤ i) ∧ Lat w wr)) (fun i _ => n - (intOf i).toNat)
  case atStart => exact ⟨0, Nat.zero_le _, rfl, G0, fun _ => none, HP0.out, fun z _ => ⟨fun h => (by cases h), fun ⟨i, hi, _⟩ => absurd hi (Nat.not_lt_zero _)⟩, HG1.out, HL2.out⟩
  case round =>
    obtain ⟨j, hj, rfl, hrel⟩ := hrel
    by_cases hlt : j < n
    · obtain ⟨G, K, hp, hka, hgw, hlat⟩ := hrel.out
      have hmod := kth_mod hfn hlt
      have hql := kth_lt hfn hlt
      have hkn := hka.none_ hfn hlt
      have hts := tks_succ n f j
      have htn := tks_not (f := f) hlt
      have hst := fun d => hka.step (d := d)
      have htl := tks_len n f j
      obtain ⟨q, hq⟩ : ∃ q, q = kth n f j := ⟨_, rfl⟩
      rw [← hq] at hmod hql hkn hts htn hst
      have hmu := made_unit HC.out (show q < ss.length by rw [HL.out]; exact hql)
      have hbl : (bl ss q).length = m := by rw [bl_lens HOK.out q (by rw [HL.out]; exact hql), ← HM.out]
      have hmk : ∀ W, Lat w W → Calls Tryd.prog 31 #[.slice (some ⟨bb, o, none⟩) n cap, .int .i64 ((q : Int) + 1)] W fun e w' => e = .returned (.tuple #[.agg #[.int .i64 ((q : Int) + 1), .string (S (bl ss q))], .nilIface]) ∧ Lat W w' := fun W hW => by
        have := make_tells _ n cap ss ((q : Int) + 1) W (H.out.keep hW)
        rw [hmu.1, hmu.2.1, hmu.2.2, errv_zero rfl] at this
        exact this
      have hd0 : drpE n m ((q : Int) + 1) (S (bl ss q)) = 0 := drpE_ok (by omega) (by omega) (by omega) (by omega) (by omega) (by omega) hbl
      have hE : tkE n m (tks n f j) ((q : Int) + 1) (bl ss q) = 0 := by
        unfold tkE
        rw [if_neg (fun e => e hd0), if_neg htn, if_neg (by rw [htl]; omega)]
      have hset : setZ n ((q : Int) + 1).toNat = [(q : Int)] := by
        rw [show ((q : Int) + 1).toNat = q + 1 by omega]; exact setZ_unit hql
      have hls := lrn_single n (d := bl ss q) hkn
      have htk : ∀ W, Lat wr W → Calls Tryd.prog 25 #[.pointer (some ⟨p, 0, none⟩), .agg #[.int .i64 ((q : Int) + 1), .string (S (bl ss q))]] W fun e w' => ∃ oa oc, e = .returned (.tuple #[.slice oa 1 oc, .nilIface]) ∧ IntsAt w' oa 1 oc [(q : Int)] ∧ PeelStep G p n m (updK K q (bl ss q)) (tks n f (j + 1)) [] W w' := fun W hW => by
        have := take_ok G p n m K (tks n f j) [] ((q : Int) + 1) (bl ss q) W (hp.keep hW) hE
        rw [hset, List.nil_append, hls.1, hls.2.1, hls.2.2, ← hts] at this
        exact this
      obtain ⟨D, hD⟩ : ∃ D, D = S (bl ss q) := ⟨_, rfl⟩
      rw [← hD] at hmk htk
      have HKS := Lib.hid (hst (bl ss q)); have HMK := Lib.hid hmk; have HTK := Lib.hid htk; have HLT := Lib.hid hlat; have HGW := Lib.hid hgw
      have hqz : ((n : Int) == 0) = false := beq_eq_false_iff_ne.2 (by omega)
      clear hrel hp hka hgw hlat hkn hts htn hst htl hq hmu hbl hmk hd0 hE hset hls htk hD
      have hwq : ((q : Int) != (q : Int)) = false := by simp
      go_wp2_with (first
        | (go_at_call 31; refine (HMK.out _ HLT.out).mono ?_; rintro e w5 ⟨rfl, hb5⟩; have hl5 := hb5.trans (Lat.alloc w5 (.cells #[.int .i64 ((q : Int) + 1), .string D] 52)))
        | (go_at_call 25; refine (HTK.out _ hl5).mono ?_; rintro e w6 ⟨oa, oc, rfl, hoi, hst⟩; obtain ⟨ob, oo, rfl, hoc⟩ := hoi.row.at_ (by omega); have k0 := hoc 0 (by omega); rw [Nat.add_zero] at k0; have k0 : w6.cell? ⟨ob, oo, none⟩ = some (.int .i64 (q : Int)) := k0; have kle := hoi.row.le; have HST := Lib.hid hst; have HL5 := Lib.hid hl5; clear hst hoi hoc hl5))
      obtain ⟨G2, ho2, hG2⟩ := HST.out.obj
      have hl5 := HLT.out.trans HL5.out
      have hl6 : Lat w w6 := HST.out.fr.lat_of hl5 HGW.out
      have hg2 : ∀ i, G2 i → w.heap.size ≤ i := fun i hi => (hG2 i hi).elim (HGW.out i) (fun h => Nat.le_trans hl5.size h)
      have HO2 := Lib.hid ho2; have HL6 := Lib.hid hl6; have HG2 := Lib.hid hg2
      clear ho2 hG2 hl5 hl6 hg2
      go_roundw
      case rel => exact ⟨j + 1, by omega, by go_num, G2, _, HO2.out, HKS.out, HG2.out, HL6.out⟩
      case measure => simp [intOf]; omega
    · obtain rfl : j = n := by omega
      obtain ⟨G, K, hp, hka, hgw, hlat⟩ := hrel.out
      have hkl := hka.all hfn
      have hkw := fun W (hW : Lat wr W) => peel_knows G p j m K (tks j f j) [] W (hp.keep hW) hn16
      have hww := fun W (hW : Lat wr W) => peel_waits G p j m K (tks j f j) [] W (hp.keep hW)
      rw [hkl] at hkw
      have HKW := Lib.hid hkw; have HWW := Lib.hid hww; have HLT := Lib.hid hlat
      clear hrel hp hka hgw hlat hkl hkw hww
      go_wp2_with (first
        | (go_at_call 27; refine (HKW.out _ (Lat.refl _)).mono ?_; rintro e w5 ⟨oa, oc, rfl, hoi, hb5⟩)
        | (go_at_call 29; refine (HWW.out _ hb5).mono ?_; rintro e w6 ⟨rfl, rfl⟩))
      go_ret
      exact ⟨rfl, HLT.out.trans hb5⟩
end Go.Proofs.YtmkmkaiapgedjaaDoor
