/- The walk of WheelTells: it returns true, whatever it is asked. -/
import Derived.Test.YtooepflfofgnnaaDoorWheelTot
import Derived.Test.YtooepflfofgnnaaDoorSame
import Derived.Test.YtooepflfofgnnaaDoorSameInts
import Derived.Deep.DeepCutAuto
import Derived.Deep.CutBlock
import Derived.Deep.Light
import Derived.Deep.LoopGhost
namespace Go.Proofs.YtooepflfofgnnaaDoor
open Go.ChangeShapes Go.WideShapes Go.ChangeAt Go.RowKit

set_option maxHeartbeats 4000000 in
set_option maxRecDepth 100000 in
theorem walk_wheelTells (k x t n s : Int) (w : World) (hg : Hnd w) (_ : (Lit.int .i64 k).wf = true) (_ : (Lit.int .i64 x).wf = true) (_ : (Lit.int .i64 t).wf = true) (_ : (Lit.int .i64 n).wf = true) (_ : (Lit.int .i64 s).wf = true) :
    Calls Tryd.prog 8 #[.int .i64 k, .int .i64 x, .int .i64 t, .int .i64 n, .int .i64 s] w fun e w' => e = .returned (.bool true) ∧ Lat w w' := by
  have HG := Lib.hid hg
  clear hg
  obtain ⟨RS, hRS⟩ : ∃ r, r = rwS k x t := ⟨_, rfl⟩
  obtain ⟨RE, hRE⟩ : ∃ r, r = rwE k x t := ⟨_, rfl⟩
  obtain ⟨E0, hE0⟩ : ∃ r, r = rwE k x 0 := ⟨_, rfl⟩
  obtain ⟨S0, hS0⟩ : ∃ r, r = rwS k x 0 := ⟨_, rfl⟩
  obtain ⟨FE, hFE⟩ : ∃ r, r = wrE k x t n := ⟨_, rfl⟩
  obtain ⟨RL, hRL⟩ : ∃ r, r = wrL k x t n := ⟨_, rfl⟩
  obtain ⟨EW, hEW⟩ : ∃ r, r = wnE k x s := ⟨_, rfl⟩
  obtain ⟨WV, hWV⟩ : ∃ r, r = wnV k x s := ⟨_, rfl⟩
  have h1 := refWheel_tot k x t
  have h2 := wAt_tot k x t
  have h3 := refWheel_tot k x 0
  have h4 := wRow_tot k x t n
  have h5 := wWhen_tot k x s
  rw [← hRS, ← hRE] at h1 h2
  rw [← hS0, ← hE0] at h3
  rw [← hFE, ← hRL] at h4
  rw [← hEW, ← hWV] at h5
  have K1 := Lib.hid h1
  have K2 := Lib.hid h2
  have K3 := Lib.hid h3
  have K4 := Lib.hid h4
  have K5 := Lib.hid h5
  have HE0 := Lib.hid hE0
  have HFE := Lib.hid hFE
  have HRL := Lib.hid hRL
  have HEW := Lib.hid hEW
  have HWV := Lib.hid hWV
  clear h1 h2 h3 h4 h5 hRS hRE hE0 hS0 hFE hRL hEW hWV
  go_enter Tryd.func8, Tryd.ntmps8
  go_wp2_with fail
  refine (K1.out _).mono ?_
  rintro e w' ⟨rfl, rfl⟩
  go_wp2_with fail
  refine (K2.out _).mono ?_
  rintro e w1 ⟨rfl, hb1⟩
  go_wp2_with fail
  refine (sameErr_any RE w1 (HG.out.keep hb1)).mono ?_
  rintro e w2 ⟨rfl, hb2⟩
  have hb := Lat.trans hb1 hb2
  have HB2 := Lib.hid hb
  clear hb1 hb2 hb
  go_wp2_with fail
  refine (K3.out _).mono ?_
  rintro e w' ⟨rfl, rfl⟩
  obtain ⟨TB, hTB⟩ : ∃ b : Bool, b = decide (E0 = 0 ∧ (t < 0 ∨ 1000 < t ∨ n < 0 ∨ 60 < n ∨ 1000 < t + n)) := ⟨_, rfl⟩
  have HTB := Lib.hid hTB
  clear hTB
  go_upto_region 6 with fail
  go_cut [80] (fun c wx => c = .bool TB ∧ w2 = wx)
  case first =>
    by_cases q : E0 = 0
    case neg =>
      have d0 : ((E0 : Int) == 0) = false := by rw [beq_eq_false_iff_ne]; omega
      have hT : TB = false := by rw [HTB.out]; exact decide_eq_false (fun h => q h.1)
      have HT := Lib.hid hT
      clear q hT
      go_wp2_with fail
      go_meet
      case rel => go_light; exact ⟨by rw [HT.out], rfl⟩
    have d0 : ((E0 : Int) == 0) = true := by rw [beq_iff_eq]; omega
    have hd : (decide (t < 0) = true ∧ TB = true) ∨ (decide (t < 0) = false ∧ decide (1000 < t) = true ∧ TB = true) ∨ (decide (t < 0) = false ∧ decide (1000 < t) = false ∧ decide (n < 0) = true ∧ TB = true) ∨
        (decide (t < 0) = false ∧ decide (1000 < t) = false ∧ decide (n < 0) = false ∧ decide (60 < n) = true ∧ TB = true) ∨
        (0 ≤ t ∧ t ≤ 1000 ∧ 0 ≤ n ∧ n ≤ 60 ∧ decide (t < 0) = false ∧ decide (1000 < t) = false ∧ decide (n < 0) = false ∧ decide (60 < n) = false ∧ decide (1000 < t + n) = true ∧ TB = true) ∨
        (0 ≤ t ∧ t ≤ 1000 ∧ 0 ≤ n ∧ n ≤ 60 ∧ decide (t < 0) = false ∧ decide (1000 < t) = false ∧ decide (n < 0) = false ∧ decide (60 < n) = false ∧ decide (1000 < t + n) = false ∧ TB = false) := by
      have hT := HTB.out
      by_cases p : t < 0 ∨ 1000 < t ∨ n < 0 ∨ 60 < n ∨ 1000 < t + n
      · have hT2 : TB = true := by rw [hT]; exact decide_eq_true ⟨q, p⟩
        rw [hT2]
        simp only [decide_eq_true_eq, decide_eq_false_iff_not, and_true, and_false, or_false, Bool.true_eq_false]; omega
      · have hT2 : TB = false := by rw [hT]; exact decide_eq_false (fun h => p h.2)
        rw [hT2]
        simp only [decide_eq_true_eq, decide_eq_false_iff_not, and_true, and_false, false_or, Bool.false_eq_true]; omega
    clear q
    rcases hd with ⟨p1, q⟩ | ⟨p1, p2, q⟩ | ⟨p1, p2, p3, q⟩ | ⟨p1, p2, p3, p4, q⟩ | ⟨i1, i2, i3, i4, p1, p2, p3, p4, p5, q⟩ | ⟨i1, i2, i3, i4, p1, p2, p3, p4, p5, q⟩
    all_goals
      have HQ := Lib.hid q
      clear q
      go_wp2_with fail
      go_meet
      case rel => go_light; exact ⟨by rw [HQ.out], rfl⟩
  case rest =>
  obtain ⟨rfl, rfl⟩ := hcut
  have hFT : FE = if TB = true then 1 else E0 := by
    have hT := HTB.out
    have hf := HFE.out
    have he := HE0.out
    unfold wrE at hf
    unfold rwE at he
    by_cases p : E0 = 0 ∧ (t < 0 ∨ 1000 < t ∨ n < 0 ∨ 60 < n ∨ 1000 < t + n)
    · rw [decide_eq_true p] at hT
      rw [hT, if_pos rfl, hf, if_pos (by omega)]
    · rw [decide_eq_false p] at hT
      rw [hT, if_neg (by simp)]
      split at he
      · rename_i hq
        rw [hf, he, if_pos (by omega)]
      · rename_i hq
        rw [hf, he, if_neg (by omega)]
  have HFT := Lib.hid hFT
  clear hFT
  go_upto_if 80 with fail
  go_cut [16] (fun f wx => f = .int .i64 FE ∧ w2 = wx)
  case first =>
    cases TB with
    | true =>
      have e1 := HFT.out
      rw [if_pos rfl] at e1
      have E1 := Lib.hid e1
      clear e1
      go_wp2_with fail
      go_meet
      case rel => go_light; exact ⟨by rw [E1.out]; rfl, rfl⟩
    | false =>
      have e1 := HFT.out
      rw [if_neg (by simp)] at e1
      have E1 := Lib.hid e1
      clear e1
      go_wp2_with fail
      go_meet
      case rel => go_light; exact ⟨by rw [E1.out], rfl⟩
  case rest =>
  obtain ⟨rfl, rfl⟩ := hcut
  go_upto_block 0 with fail
  go_cut [16, 17, 18, 19] (fun f row _ _ wx => f = .int .i64 FE ∧ Hid (OwnInts wx w2.heap.size row RL ∧ Lat w2 wx))
  case first =>
    by_cases hF : FE = 0
    · have hz : ¬ (k < 1 ∨ 16 < k ∨ x < 0 ∨ 16 < x ∨ t < 0 ∨ 1000 < t ∨ n < 0 ∨ 60 < n ∨ 1000 < t + n) := fun h => by
        have := HFE.out; unfold wrE at this; rw [if_pos h] at this; omega
      obtain ⟨k, rfl⟩ := Int.eq_ofNat_of_zero_le (show 0 ≤ k by omega)
      obtain ⟨x, rfl⟩ := Int.eq_ofNat_of_zero_le (show 0 ≤ x by omega)
      obtain ⟨t, rfl⟩ := Int.eq_ofNat_of_zero_le (show 0 ≤ t by omega)
      obtain ⟨n, rfl⟩ := Int.eq_ofNat_of_zero_le (show 0 ≤ n by omega)
      have hRL2 : RL = whls k x t n := by
        have := HRL.out; unfold wrL at this; rw [← HFE.out, if_pos hF] at this; simpa using this
      have b1 : 1 ≤ k := by omega
      have b2 : k ≤ 16 := by omega
      have b3 : x ≤ 16 := by omega
      have b4 : t + n ≤ 1000 := by omega
      have b5 : n ≤ 60 := by omega
      have HRL2 := Lib.hid hRL2
      obtain rfl : FE = 0 := hF
      clear hz hRL2
      go_wp2_with fail
      go_loopw [16, 17, 18] (fun f v i wr => ∃ j : Nat, j ≤ n ∧ i = .int .i64 j ∧ f = .int .i64 0 ∧ Hid (OwnInts wr w2.heap.size v (whls k x t j) ∧ Lat w2 wr)) (fun _ _ i _ => n - (intOf i).toNat)
      case atStart => exact ⟨0, Nat.zero_le _, rfl, rfl, Own.nil _ _ _, Lat.refl _⟩
      case round =>
        obtain ⟨j, hj, rfl, rfl, hrel⟩ := hrel
        by_cases hlt : j < n
        · have hc := refWheel_tot k x ((t : Int) + (j : Int))
          have hrw := rwE_nat k x (t + j) b1 b2 b3 (by omega)
          have ec : (t : Int) + (j : Int) = ((t + j : Nat) : Int) := by omega
          rw [ec, hrw.1, hrw.2, ← ec] at hc
          have HC := Lib.hid hc
          have hlen : (whls k x t j).length < 1000000000000 := by rw [whls_length]; omega
          have HLEN := Lib.hid hlen
          have HST := Lib.hid (whls_succ k x t j)
          clear hc hrw ec hlen
          go_wp2_with fail
          refine (HC.out _).mono ?_
          rintro e w' ⟨rfl, rfl⟩
          go_wp2_with (at_builtin; refine app_int wr w2 _ rfl _ _ rfl _ _ _ rfl hrel.out.1 rfl HLEN.out rfl hrel.out.2 ?_; intro v' w4 hown' hb' _)
          go_roundw
          case rel => go_light; exact ⟨j + 1, by omega, by go_num, rfl, by rw [HST.out]; exact hown', hb'⟩
          case measure => go_light; simp [intOf]; omega
        · obtain rfl : j = n := by omega
          go_wp2
          go_meet
          case rel => go_light; exact ⟨rfl, by rw [HRL2.out]; exact hrel.out.1, hrel.out.2⟩
    · have hRL2 : RL = [] := by
        have := HRL.out; unfold wrL at this; rw [← HFE.out, if_neg hF] at this; exact this
      have d0 : ((FE : Int) == 0) = false := by rw [beq_eq_false_iff_ne]; omega
      have HRL2 := Lib.hid hRL2
      clear hRL2
      by_cases hn : 0 < n
      all_goals
        go_wp2_with fail
        refine wp_loop_rounds 1 ?_
        rw [rounds_succ]
        go_wp2
        go_meet
        case rel => go_light; exact ⟨rfl, by rw [HRL2.out]; exact Own.nil _ _ _, Lat.refl _⟩
  case rest =>
  obtain ⟨rfl, hc1⟩ := hcut
  generalize wc = w3 at *
  have hwf : ∀ z ∈ RL, -9223372036854775808 ≤ z ∧ z ≤ 9223372036854775807 := by
    have := HRL.out
    unfold wrL at this
    intro z hz
    split at this
    · rename_i hF
      rw [this] at hz
      obtain ⟨i, hi, rfl⟩ := List.mem_map.1 hz
      have := List.mem_range.1 hi
      have hq : ¬ (k < 1 ∨ 16 < k ∨ x < 0 ∨ 16 < x ∨ t < 0 ∨ 1000 < t ∨ n < 0 ∨ 60 < n ∨ 1000 < t + n) := fun h => by
        unfold wrE at hF; rw [if_pos h] at hF; omega
      have := whl_le k.toNat x.toNat (t.toNat + i) (by omega) (by omega) (by omega) (by omega)
      omega
    · rw [this] at hz; simp at hz
  obtain ⟨ra, rc, rfl, hrat⟩ := OwnInts.slice hc1.out.1 hwf
  have hb3 := Lat.trans HB2.out hc1.out.2
  have HB3 := Lib.hid hb3
  have HRAT := Lib.hid hrat
  have hnil : FE ≠ 0 → RL = [] := fun hF => by
    have := HRL.out; unfold wrL at this; rw [← HFE.out, if_neg hF] at this; exact this
  obtain ⟨LN, hLN⟩ : ∃ l, l = RL.length := ⟨_, rfl⟩
  rw [← hLN] at HRAT K4 ⊢
  have HNIL := Lib.hid hnil
  have HLN := Lib.hid hLN
  clear hc1 hb3 hrat hwf hLN HRL hnil
  go_upto_if 104 with fail
  go_cut [17] (fun v wx => ∃ a c, v = .slice a LN c ∧ Hid (IntsAt wx a LN c RL) ∧ w3 = wx)
  case first =>
    by_cases hF : FE = 0
    · have d0 : ((FE : Int) != 0) = false := by rw [bne_eq_false_iff_eq]; omega
      clear hF
      go_wp2_with fail
      go_meet
      case rel => go_light; exact ⟨ra, rc, rfl, HRAT.out, rfl⟩
    · have d0 : ((FE : Int) != 0) = true := by rw [bne_iff_ne]; omega
      have e1 := HNIL.out hF
      have e2 : LN = 0 := by rw [HLN.out, e1]; rfl
      have E1 := Lib.hid e1
      have E2 := Lib.hid e2
      clear hF e1 e2
      go_wp2_with fail
      go_meet
      case rel => go_light; exact ⟨none, 0, by rw [E2.out], by rw [E1.out, E2.out]; exact IntsAt.nil _, rfl⟩
  case rest =>
  obtain ⟨va, vc, rfl, hvat, rfl⟩ := hcut
  have HV := Lib.hid hvat.out
  clear hvat HRAT HNIL
  go_wp2_with fail
  refine (K4.out _).mono ?_
  rintro e w4 ⟨la, lc, rfl, hlat, hb4⟩
  have HLA := Lib.hid hlat
  have HV4 := Lib.hid (HV.out.keep hb4)
  have hb04 := Lat.trans HB3.out hb4
  clear hlat hb4
  go_wp2_with fail
  refine (sameErr_any FE w4 (HG.out.keep hb04)).mono ?_
  rintro e w5 ⟨rfl, hb5⟩
  have HLA5 := Lib.hid (HLA.out.keep hb5)
  have HV5 := Lib.hid (HV4.out.keep hb5)
  have hb05 := Lat.trans hb04 hb5
  clear hb04 hb5
  go_wp2_with fail
  refine (sameInts_yes la LN lc RL va vc _ HLA5.out HV5.out).mono ?_
  rintro e w6 ⟨rfl, hb6⟩
  have hb06 := Lat.trans hb05 hb6
  have HB6 := Lib.hid hb06
  clear hb05 hb6 hb06
  obtain ⟨TC, hTC⟩ : ∃ b : Bool, b = decide (E0 = 0 ∧ (s < 1 ∨ 10000 < s)) := ⟨_, rfl⟩
  have HTC := Lib.hid hTC
  clear hTC
  go_upto_region 19 with fail
  go_cut [130] (fun c wx => c = .bool TC ∧ w6 = wx)
  case first =>
    by_cases q : E0 = 0
    case neg =>
      have d0 : ((E0 : Int) == 0) = false := by rw [beq_eq_false_iff_ne]; omega
      have hT : TC = false := by rw [HTC.out]; exact decide_eq_false (fun h => q h.1)
      have HT := Lib.hid hT
      clear q hT
      go_wp2_with fail
      go_meet
      case rel => go_light; exact ⟨by rw [HT.out], rfl⟩
    have d0 : ((E0 : Int) == 0) = true := by rw [beq_iff_eq]; omega
    have hd : (decide (s < 1) = true ∧ TC = true) ∨ (decide (s < 1) = false ∧ decide (10000 < s) = true ∧ TC = true) ∨ (decide (s < 1) = false ∧ decide (10000 < s) = false ∧ TC = false) := by
      have hT := HTC.out
      by_cases p : s < 1 ∨ 10000 < s
      · have hT2 : TC = true := by rw [hT]; exact decide_eq_true ⟨q, p⟩
        rw [hT2]
        simp only [decide_eq_true_eq, decide_eq_false_iff_not, and_true, and_false, or_false, Bool.true_eq_false]; omega
      · have hT2 : TC = false := by rw [hT]; exact decide_eq_false (fun h => p h.2)
        rw [hT2]
        simp only [decide_eq_true_eq, decide_eq_false_iff_not, and_true, and_false, false_or, Bool.false_eq_true]; omega
    clear q
    rcases hd with ⟨p1, q⟩ | ⟨p1, p2, q⟩ | ⟨p1, p2, q⟩
    all_goals
      have HQ := Lib.hid q
      clear q
      go_wp2_with fail
      go_meet
      case rel => go_light; exact ⟨by rw [HQ.out], rfl⟩
  case rest =>
  obtain ⟨rfl, rfl⟩ := hcut
  obtain ⟨E3, hE3⟩ : ∃ e : Nat, e = if TC = true then 1 else E0 := ⟨_, rfl⟩
  have HE3 := Lib.hid hE3
  clear hE3
  go_upto_if 130 with fail
  go_cut [12] (fun f wx => f = .int .i64 E3 ∧ w6 = wx)
  case first =>
    cases TC with
    | true =>
      have e1 := HE3.out
      rw [if_pos rfl] at e1
      have E1 := Lib.hid e1
      clear e1
      go_wp2_with fail
      go_meet
      case rel => go_light; exact ⟨by rw [E1.out]; rfl, rfl⟩
    | false =>
      have e1 := HE3.out
      rw [if_neg (by simp)] at e1
      have E1 := Lib.hid e1
      clear e1
      go_wp2_with fail
      go_meet
      case rel => go_light; exact ⟨by rw [E1.out], rfl⟩
  case rest =>
  obtain ⟨rfl, rfl⟩ := hcut
  have hw1 : E3 ≠ 0 → EW = E3 ∧ WV = 0 := fun h => by
    have h3 := HE3.out
    have hT := HTC.out
    have h0 := HE0.out
    have hew := HEW.out
    have hwv := HWV.out
    have e1 : EW = 1 := by
      rw [hew]; unfold wnE
      rw [if_pos]
      by_cases q : E0 = 0
      · by_cases p : s < 1 ∨ 10000 < s
        · exact .inr p
        · rw [decide_eq_false (fun hh => p hh.2)] at hT
          rw [hT, if_neg (by simp)] at h3
          omega
      · exact .inl (by rw [← h0]; exact q)
    have e2 : E3 = 1 := by
      by_cases q : TC = true
      · rw [if_pos q] at h3; exact h3
      · rw [if_neg q] at h3
        have := rwE_one (k := k) (x := x) (t := 0) (by rw [← h0, ← h3]; exact h)
        rw [← h0, ← h3] at this; exact this.1
    have e3 : WV = 0 := by rw [hwv]; unfold wnV; rw [← hew, if_pos (by omega)]
    exact ⟨by omega, e3⟩
  have hw2 : E3 = 0 → (1 ≤ k ∧ k ≤ 16 ∧ 0 ≤ x ∧ x ≤ 16) ∧ 1 ≤ s ∧ s ≤ 10000 := fun h => by
    have h3 := HE3.out
    have hT := HTC.out
    have h0 := HE0.out
    by_cases q : TC = true
    · rw [if_pos q] at h3; omega
    · rw [if_neg q] at h3
      obtain ⟨a1, a2, a3, a4, _, _⟩ := rwE_zero (k := k) (x := x) (t := 0) (by rw [← h0, ← h3]; exact h)
      have : ¬ (s < 1 ∨ 10000 < s) := fun p => q (by rw [hT]; exact decide_eq_true ⟨by omega, p⟩)
      omega
  have HW1 := Lib.hid hw1
  have HW2 := Lib.hid hw2
  clear hw1 hw2
  go_upto_if 132 with fail
  go_cut [12, 22, 23, 24, 25] (fun f v _ _ _ wx => f = .int .i64 EW ∧ v = .int .i64 WV ∧ w6 = wx)
  case first =>
    by_cases hE : E3 = 0
    case neg =>
      have d0 : ((E3 : Int) == 0) = false := by rw [beq_eq_false_iff_ne]; omega
      obtain ⟨e1, e2⟩ := HW1.out hE
      have E1 := Lib.hid e1
      have E2 := Lib.hid e2
      clear hE e1 e2
      go_wp2_with fail
      go_meet
      case rel => go_light; exact ⟨by rw [E1.out], by rw [E2.out]; rfl, rfl⟩
    have hk := HW2.out hE
    obtain ⟨⟨k1, k2, k3, k4⟩, k5, k6⟩ := hk
    obtain ⟨k, rfl⟩ := Int.eq_ofNat_of_zero_le (show 0 ≤ k by omega)
    obtain ⟨x, rfl⟩ := Int.eq_ofNat_of_zero_le k3
    obtain ⟨s, rfl⟩ := Int.eq_ofNat_of_zero_le (show 0 ≤ s by omega)
    have hsp := wn_spec k x s (by omega) (by omega) (by omega) (by omega) (by omega)
    rw [← HEW.out, ← HWV.out] at hsp
    have HSP := Lib.hid hsp
    have d0 : ((E3 : Int) == 0) = true := by rw [beq_iff_eq]; omega
    clear hE hsp
    rw [d0]
    go_wp2_with fail
    go_loopg [12, 22, 23] 1001 (fun g f v i wr => ∃ j : Nat, j ≤ 1001 ∧ i = .int .i64 j ∧ Hid (w6 = wr ∧ g + j = 1001) ∧ ((f = .int .i64 5 ∧ v = .int .i64 0 ∧ Hid (∀ m, m < j → whl k x m ≠ s)) ∨ (f = .int .i64 0 ∧ v = .int .i64 WV ∧ Hid (EW = 0))))
    case atStart => exact ⟨0, Nat.zero_le _, rfl, ⟨rfl, rfl⟩, .inl ⟨rfl, rfl, fun m hm => absurd hm (Nat.not_lt_zero _)⟩⟩
    case round =>
      obtain ⟨j, hj, rfl, hwr, hrel⟩ := hrel
      rcases hrel with ⟨rfl, rfl, hno⟩ | ⟨rfl, rfl, hyes⟩
      · by_cases hlt : j ≤ 1000
        · have d1 : decide ((j : Int) ≤ 1000) = true := decide_eq_true (by omega)
          have hc := refWheel_tot k x j
          have hrw := rwE_nat k x j (by omega) (by omega) (by omega) hlt
          rw [hrw.1, hrw.2, show (((0 : Nat)) : Int) = 0 from rfl] at hc
          obtain ⟨P, hP⟩ : ∃ p, p = whl k x j := ⟨_, rfl⟩
          rw [← hP] at hc
          have HC := Lib.hid hc
          have HP := Lib.hid hP
          clear hc hrw hP
          by_cases hq : P = s
          · obtain rfl : P = s := hq
            have hy := HSP.out.2.2 j hlt HP.out.symm
            have hv : WV = j := by
              have h1 := HSP.out.2.1 hy.1
              rcases Nat.lt_or_ge WV j with h | h
              · exact absurd h1.2 (hno.out WV h)
              · omega
            have HV1 := Lib.hid hv
            have HY := Lib.hid hy.1
            clear hy hv
            go_wp2_with fail
            refine (HC.out _).mono ?_
            rintro e w' ⟨rfl, rfl⟩
            go_wp2
            go_roundg (gk - 1)
            case measure => go_light; have := hwr.out.2; omega
            case rel => go_light; exact ⟨j + 1, by omega, by go_num, ⟨hwr.out.1, by have := hwr.out.2; omega⟩, .inr ⟨rfl, by rw [HV1.out], HY.out⟩⟩
          · have d2 : (P == s) = false := by rw [beq_eq_false_iff_ne]; exact hq
            have d3 : decide (P = s) = false := decide_eq_false hq
            have HQ := Lib.hid hq
            clear hq
            go_wp2_with fail
            refine (HC.out _).mono ?_
            rintro e w' ⟨rfl, rfl⟩
            go_wp2
            go_roundg (gk - 1)
            case measure => go_light; have := hwr.out.2; omega
            case rel => go_light; exact ⟨j + 1, by omega, by go_num, ⟨hwr.out.1, by have := hwr.out.2; omega⟩, .inl ⟨rfl, rfl, fun m hm => by
              by_cases e : m = j
              · subst e; rw [← HP.out]; exact HQ.out
              · exact hno.out m (by omega)⟩⟩
        · have d1 : decide ((j : Int) ≤ 1000) = false := decide_eq_false (by omega)
          have he : EW = 5 ∧ WV = 0 := by
            rcases HSP.out.1 with h | h
            · have h1 := HSP.out.2.1 h
              exact absurd h1.2 (hno.out WV (by omega))
            · exact h
          have HE1 := Lib.hid he
          clear he
          go_wp2
          go_meet
          case rel => go_light; exact ⟨by rw [HE1.out.1]; rfl, by rw [HE1.out.2]; rfl, hwr.out.1⟩
      · by_cases hlt : j ≤ 1000
        · have d1 : decide ((j : Int) ≤ 1000) = true := decide_eq_true (by omega)
          go_wp2
          go_meet
          case rel => go_light; exact ⟨by rw [hyes.out]; rfl, rfl, hwr.out.1⟩
        · have d1 : decide ((j : Int) ≤ 1000) = false := decide_eq_false (by omega)
          go_wp2
          go_meet
          case rel => go_light; exact ⟨by rw [hyes.out]; rfl, rfl, hwr.out.1⟩
  case rest =>
  obtain ⟨rfl, rfl, rfl⟩ := hcut
  go_wp2_with fail
  refine (K5.out _).mono ?_
  rintro e w7 ⟨rfl, hb7⟩
  have hb07 := Lat.trans HB6.out hb7
  clear hb7
  go_wp2_with fail
  refine (sameErr_any EW w7 (HG.out.keep hb07)).mono ?_
  rintro e w8 ⟨rfl, hb8⟩
  go_wp2
  go_ret
  exact ⟨rfl, Lat.trans hb07 hb8⟩
end Go.Proofs.YtooepflfofgnnaaDoor
