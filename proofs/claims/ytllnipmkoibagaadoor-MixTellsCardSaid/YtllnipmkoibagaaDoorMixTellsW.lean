/- The walk of MixTells: it returns true, whatever is handed in. -/
import Derived.Test.YtllnipmkoibagaaDoorTells
import Derived.Test.YtllnipmkoibagaaDoorRefMix
import Derived.Deep.DeepCutAuto
import Derived.Deep.CutBlock
namespace Go.Proofs.YtllnipmkoibagaaDoor
open Go.ChangeShapes Go.WideShapes Go.ChangeAt Go.RowKit

theorem quiet_left {P : Program} {f : FuncId} {args : Array Value} {w : World} {n : Nat} {v : Value}
    (h : Calls P f args (w.drewN n) fun e w' => e = .returned v ∧ w.drewN n = w') : Calls P f args (w.drewN n) fun e w'' => e = .returned v ∧ ∃ m, w'' = w.drewN m :=
  h.mono fun _ _ ⟨he, hm⟩ => ⟨he, n, hm.symm⟩
/-- the error behind j rounds: e ahead of them -/
def errTo (e n : Nat) (zs : List Int) (j : Nat) : Nat := if e ≠ 0 then e else ofErr n zs j

set_option maxHeartbeats 4000000 in
set_option maxRecDepth 100000 in
theorem walk_mixTells (A B : ByteArray) (a1 : Option Addr) (n c1 : Nat) (ss : List ByteArray) (a2 : Option Addr) (k c2 : Nat) (zs : List Int) (sz : Int) (w : World) (hg : Hnd w) (_ : A.size ≤ maxLen) (_ : B.size ≤ maxLen)
    (h1 : StrsAt w a1 n c1 ss) (h2 : IntsAt w a2 k c2 zs) (_ : (Lit.int .i64 sz).wf = true) :
    Calls Tryd.prog 6 #[.string A, .string B, .slice a1 n c1, .slice a2 k c2, .int .i64 sz] w fun e w' => e = .returned (.bool true) ∧ Lat w w' := by
  have hl := h1.len
  have hl2 := h2.len
  have hcap2 := h2.row.cap
  have hle2 := h2.row.le
  unfold maxLen at hcap2
  obtain ⟨TB, hTB⟩ : ∃ x : Bool, x = decide (120 < A.size ∨ 120 < B.size) := ⟨_, rfl⟩
  have HTB := Lib.hid hTB
  clear hTB
  obtain ⟨XE, hXE⟩ : ∃ x, x = xorE A B := ⟨_, rfl⟩
  obtain ⟨XR, hXR⟩ : ∃ x, x = xorR A B := ⟨_, rfl⟩
  obtain ⟨SE, hSE⟩ : ∃ x, x = sumE ss zs := ⟨_, rfl⟩
  obtain ⟨SR, hSR⟩ : ∃ x, x = sumR ss zs := ⟨_, rfl⟩
  obtain ⟨ZE, hZE⟩ : ∃ x, x = zeroE sz := ⟨_, rfl⟩
  obtain ⟨ZR, hZR⟩ : ∃ x, x = zeroR sz := ⟨_, rfl⟩
  have HG := Lib.hid hg
  have H1 := Lib.hid h1
  have H2 := Lib.hid h2
  have HL := Lib.hid hl
  have HL2 := Lib.hid hl2
  have HXE := Lib.hid hXE
  have HXR := Lib.hid hXR
  have HSE := Lib.hid hSE
  have HSR := Lib.hid hSR
  have HZE := Lib.hid hZE
  have HZR := Lib.hid hZR
  clear hg h1 h2 hl hl2 hXE hXR hSE hSR hZE hZR
  go_enter Tryd.func6, Tryd.ntmps6
  go_upto_region 3 with fail
  go_cut [27] (fun c wx => c = .bool TB ∧ w = wx)
  case first =>
    by_cases q : 120 < A.size
    · have d1 : decide (120 < (A.size : Int)) = true := decide_eq_true (by omega)
      go_wp2_with fail
      go_meet
      case rel => exact ⟨by rw [HTB.out, decide_eq_true (p := 120 < A.size ∨ 120 < B.size) (.inl q)], rfl⟩
    · have d1 : decide (120 < (A.size : Int)) = false := decide_eq_false (by omega)
      by_cases q2 : 120 < B.size
      · have d2 : decide (120 < (B.size : Int)) = true := decide_eq_true (by omega)
        go_wp2_with fail
        go_meet
        case rel => exact ⟨by rw [HTB.out, decide_eq_true (p := 120 < A.size ∨ 120 < B.size) (.inr q2)], rfl⟩
      · have d2 : decide (120 < (B.size : Int)) = false := decide_eq_false (by omega)
        go_wp2_with fail
        go_meet
        case rel => exact ⟨by rw [HTB.out, decide_eq_false (p := 120 < A.size ∨ 120 < B.size) (by omega)], rfl⟩
  case rest =>
  obtain ⟨rfl, rfl⟩ := hcut
  go_upto_if 27 with fail
  go_cut [11, 12] (fun e s wx => e = .int .i64 XE ∧ s = .string XR ∧ Hid (Lat w wx))
  case first =>
    by_cases q : 120 < A.size ∨ 120 < B.size
    · obtain rfl : TB = true := by rw [HTB.out]; exact decide_eq_true q
      have e1 : XE = 4 := by rw [HXE.out]; exact if_pos q
      have e2 : XR = .empty := by rw [HXR.out, xorR, ← HXE.out, e1]; rfl
      have E1 := Lib.hid e1
      have E2 := Lib.hid e2
      clear q e1 e2
      go_wp2_with fail
      go_meet
      case rel => exact ⟨by rw [E1.out]; rfl, by rw [E2.out]; rfl, Lat.refl _⟩
    · obtain rfl : TB = false := by rw [HTB.out]; exact decide_eq_false q
      by_cases q2 : A.size = B.size
      · have d2 : ((A.size : Int) != (B.size : Int)) = false := by rw [bne_eq_false_iff_eq, q2]
        have q3 : A.size ≤ 1000000 := by omega
        have e1 : XE = 0 := by rw [HXE.out, xorE, if_neg q, if_neg (fun h => h q2)]
        have e2 : XR = S (xorL A.data.toList B.data.toList) := by rw [HXR.out, xorR, ← HXE.out, if_pos e1]
        have E1 := Lib.hid e1
        have E2 := Lib.hid e2
        have Q2 := Lib.hid q2
        clear q e1 e2 q2
        go_wp2_with (go_at_call 25; refine (refXor A B _ Q2.out q3).mono ?_; rintro e w1 ⟨rfl, hb1⟩)
        go_meet
        case rel => exact ⟨by rw [E1.out]; rfl, by rw [E2.out], hb1⟩
      · have d2 : ((A.size : Int) != (B.size : Int)) = true := by rw [bne_iff_ne]; omega
        have e1 : XE = 3 := by rw [HXE.out, xorE, if_neg q, if_pos q2]
        have e2 : XR = .empty := by rw [HXR.out, xorR, ← HXE.out, e1]; rfl
        have E1 := Lib.hid e1
        have E2 := Lib.hid e2
        clear q e1 e2 q2
        go_wp2_with fail
        go_meet
        case rel => exact ⟨by rw [E1.out]; rfl, by rw [E2.out]; rfl, Lat.refl _⟩
  case rest =>
  obtain ⟨rfl, rfl, hc0⟩ := hcut
  go_wp2_with fail
  have hx := xor_tells A B wc
  rw [← HXE.out, ← HXR.out] at hx
  refine hx.mono ?_
  rintro e w1 ⟨rfl, hb1⟩
  clear hx
  have hb1 := Lat.trans hc0.out hb1
  clear hc0
  go_wp2_with fail
  refine (sameErr_any XE w1 (HG.out.keep hb1)).mono ?_
  rintro e w2 ⟨rfl, hb2⟩
  have hb2 := Lat.trans hb1 hb2
  clear hb1
  go_wp2_with fail
  refine (refBlocks a1 n c1 ss w2 (H1.out.keep hb2)).mono ?_
  rintro e w3 ⟨rfl, hb3⟩
  have hb3 := Lat.trans hb2 hb3
  clear hb2
  obtain ⟨CK, hCK⟩ : ∃ x, x = chk ss := ⟨_, rfl⟩
  rw [← hCK]
  have HCK := Lib.hid hCK
  clear hCK
  obtain ⟨TN, hTN⟩ : ∃ x : Bool, x = decide (CK = 0 ∧ k = 0) := ⟨_, rfl⟩
  have HTN := Lib.hid hTN
  clear hTN
  go_upto_region 11 with fail
  go_cut [58] (fun c wx => c = .bool TN ∧ w3 = wx)
  case first =>
    by_cases q : CK = 0
    · have d1 : ((CK : Int) == 0) = true := by rw [beq_iff_eq]; omega
      by_cases q2 : k = 0
      · have d2 : ((k : Int) == 0) = true := by rw [beq_iff_eq]; omega
        have hT : TN = true := by rw [HTN.out]; exact decide_eq_true ⟨q, q2⟩
        have HT := Lib.hid hT
        clear q q2 hT
        go_wp2_with fail
        go_meet
        case rel => exact ⟨by rw [HT.out], rfl⟩
      · have d2 : ((k : Int) == 0) = false := by rw [beq_eq_false_iff_ne]; omega
        have hT : TN = false := by rw [HTN.out]; exact decide_eq_false (by omega)
        have HT := Lib.hid hT
        clear q q2 hT
        go_wp2_with fail
        go_meet
        case rel => exact ⟨by rw [HT.out], rfl⟩
    · have d1 : ((CK : Int) == 0) = false := by rw [beq_eq_false_iff_ne]; omega
      have hT : TN = false := by rw [HTN.out]; exact decide_eq_false (by omega)
      have HT := Lib.hid hT
      clear q hT
      go_wp2_with fail
      go_meet
      case rel => exact ⟨by rw [HT.out], rfl⟩
  case rest =>
  obtain ⟨rfl, rfl⟩ := hcut
  obtain ⟨E0, hE0⟩ : ∃ x : Nat, x = if CK = 0 ∧ k = 0 then 5 else CK := ⟨_, rfl⟩
  have HE0 := Lib.hid hE0
  clear hE0
  go_upto_if 58 with fail
  go_cut [11] (fun e wx => e = .int .i64 E0 ∧ w3 = wx)
  case first =>
    by_cases q : CK = 0 ∧ k = 0
    · obtain rfl : TN = true := by rw [HTN.out]; exact decide_eq_true q
      have e1 : E0 = 5 := by rw [HE0.out, if_pos q]
      have E1 := Lib.hid e1
      clear q e1
      go_wp2_with fail
      go_meet
      case rel => exact ⟨by rw [E1.out]; rfl, rfl⟩
    · obtain rfl : TN = false := by rw [HTN.out]; exact decide_eq_false q
      have e1 : E0 = CK := by rw [HE0.out, if_neg q]
      have E1 := Lib.hid e1
      clear q e1
      go_wp2_with fail
      go_meet
      case rel => exact ⟨by rw [E1.out], rfl⟩
  case rest =>
  obtain ⟨rfl, rfl⟩ := hcut
  have A1 := Lib.hid (H1.out.keep hb3)
  have A2 := Lib.hid (H2.out.keep hb3)
  have hEF : errTo E0 n zs k = SE := by
    have h0 := HE0.out
    rw [HSE.out, errTo, sumE, ← HCK.out, HL.out, HL2.out]
    by_cases q : CK = 0
    · by_cases q2 : k = 0
      · rw [if_pos ⟨q, q2⟩] at h0
        rw [h0, if_pos (by omega), if_neg (by omega), if_pos q2]
      · rw [if_neg (by omega)] at h0
        rw [h0, if_neg (by omega), if_neg (by omega), if_neg q2]
    · rw [if_neg (by omega)] at h0
      rw [h0, if_pos q, if_pos q]
  have HEF := Lib.hid hEF
  clear hEF
  go_upto_block 0 with fail
  go_cut [11] (fun e wx => e = .int .i64 SE ∧ Hid (Lat w3 wx))
  case first =>
    go_wp2_with fail
    go_loopw [11, 16] (fun e i wr => ∃ j : Nat, j ≤ k ∧ i = .int .i64 j ∧ ∃ X : Nat, e = .int .i64 X ∧ Hid (X = errTo E0 n zs j ∧ Lat w3 wr)) (fun _ i _ => k - (intOf i).toNat)
    case atStart => exact ⟨0, Nat.zero_le _, rfl, E0, rfl, by unfold errTo; by_cases q : E0 = 0 <;> simp [q, ofErr], Lat.refl _⟩
    case round =>
      obtain ⟨j, hj, rfl, X, rfl, hrel⟩ := hrel
      by_cases hlt : j < k
      · by_cases he : X = 0
        · subst he
          have hat1 := A1.out.keep hrel.out.2
          have hat2 := A2.out.keep hrel.out.2
          obtain ⟨b2, o2, rfl, hc2⟩ := hat2.row.at_ (by omega)
          have cj := hc2 j hlt
          have htk := hat2.take j hj
          have he := hrel.out.1
          have e00 : E0 = 0 := by unfold errTo at he; split at he <;> omega
          have eo : ofErr n zs j = 0 := by unfold errTo at he; split at he <;> omega
          obtain ⟨z, hzd⟩ : ∃ z, z = zs.getD j 0 := ⟨_, rfl⟩
          rw [← hzd] at cj
          have hstep : errTo E0 n zs (j + 1) = if z < 0 ∨ (n : Int) ≤ z then 1 else if z ∈ zs.take j then 7 else 0 := by
            rw [errTo, if_neg (by omega), ofErr, if_neg (by omega), ← hzd]
          have HT := Lib.hid htk
          have HST := Lib.hid hstep
          clear hc2 htk hzd hat1 hat2 e00 eo he hstep
          have h1 : (decide (z < 0) = true ∧ (z < 0 ∨ (n : Int) ≤ z)) ∨ (decide (z < 0) = false ∧ decide ((n : Int) ≤ z) = true ∧ (z < 0 ∨ (n : Int) ≤ z)) ∨ (decide (z < 0) = false ∧ decide ((n : Int) ≤ z) = false ∧ ¬ (z < 0 ∨ (n : Int) ≤ z)) := by
            by_cases h : z < 0
            · exact .inl ⟨decide_eq_true h, .inl h⟩
            · by_cases h2 : (n : Int) ≤ z
              · exact .inr (.inl ⟨decide_eq_false h, decide_eq_true h2, .inr h2⟩)
              · exact .inr (.inr ⟨decide_eq_false h, decide_eq_false h2, by omega⟩)
          have i1 : (0 : Int) ≤ (j : Int) := by omega
          have i2 : (j : Int) ≤ (c2 : Int) := by omega
          have i3 : (j : Int) < (k : Int) := by omega
          have i4 : (j : Int) ≤ (k : Int) := by omega
          have i5 : j ≤ c2 := by omega
          by_cases hm : z ∈ zs.take j
          · have HM := Lib.hid hm
            clear hm
            rcases h1 with ⟨q1, q3⟩ | ⟨q1, q2, q3⟩ | ⟨q1, q2, q3⟩
            all_goals
              have Q3 := Lib.hid q3
              clear q3
              go_wp2_with fail
              go_quiet ((go_at_call 28; exact quiet_left (refIn_yes _ j c2 (zs.take j) z _ (HT.out.keep (Lat.drewN _ _)) HM.out)))
              go_wp2
              go_roundw
              case rel => exact ⟨j + 1, by omega, by go_num, _, rfl, by rw [HST.out]; first | rw [if_pos Q3.out] | rw [if_neg Q3.out, if_pos HM.out], Lat.trans hrel.out.2 (Lat.drewN _ _)⟩
              case measure => simp [intOf]; omega
          · have HM := Lib.hid hm
            clear hm
            rcases h1 with ⟨q1, q3⟩ | ⟨q1, q2, q3⟩ | ⟨q1, q2, q3⟩
            all_goals
              have Q3 := Lib.hid q3
              clear q3
              go_wp2_with fail
              go_quiet ((go_at_call 28; exact quiet_left (refIn_no _ j c2 (zs.take j) z _ (HT.out.keep (Lat.drewN _ _)) HM.out)))
              go_wp2
              go_roundw
              case rel => exact ⟨j + 1, by omega, by go_num, _, rfl, by rw [HST.out]; first | rw [if_pos Q3.out] | rw [if_neg Q3.out, if_neg HM.out], Lat.trans hrel.out.2 (Lat.drewN _ _)⟩
              case measure => simp [intOf]; omega
        · have d1 : ((X : Int) == 0) = false := by rw [beq_eq_false_iff_ne]; omega
          have hfin : X = SE := by
            rw [← HEF.out]
            have h := hrel.out.1
            unfold errTo at h ⊢
            split at h
            · rename_i h3; rw [if_pos h3]; exact h
            · rename_i h3; rw [if_neg h3, ofErr_mono n zs j k hj (by omega)]; exact h
          have HF := Lib.hid hfin
          clear hfin he
          go_wp2
          go_meet
          case rel => exact ⟨by rw [HF.out], hrel.out.2⟩
      · obtain rfl : j = k := by omega
        have hfin : X = SE := by rw [← HEF.out]; exact hrel.out.1
        have HF := Lib.hid hfin
        clear hfin
        go_wp2
        go_meet
        case rel => exact ⟨by rw [HF.out], hrel.out.2⟩
  case rest =>
  obtain ⟨rfl, hc1⟩ := hcut
  have hb4 := Lat.trans hb3 hc1.out
  clear hb3 hc1 A1 A2 HEF HE0
  generalize wc = w4 at *
  have A1 := Lib.hid (H1.out.keep hb4)
  have A2 := Lib.hid (H2.out.keep hb4)
  go_upto_if 93 with fail
  go_cut [12] (fun s wx => s = .string SR ∧ Hid (Lat w wx))
  case first =>
    by_cases q : SE = 0
    · have d1 : ((SE : Int) == 0) = true := by rw [beq_iff_eq]; omega
      have h := q
      rw [HSE.out, sumE] at h
      have hck : chk ss = 0 := by
        by_cases q1 : chk ss = 0
        · exact q1
        · rw [if_pos q1] at h; exact h
      rw [if_neg (by omega)] at h
      have hk0 : zs.length ≠ 0 := by
        intro q1
        rw [if_pos q1] at h; omega
      rw [if_neg hk0, HL.out, HL2.out] at h
      have hz : ∀ z ∈ zs, 0 ≤ z ∧ z < n := by
        intro z hz
        obtain ⟨i, hi, e⟩ := List.getElem_of_mem hz
        have := ofErr_zero n zs k h i (by rw [← HL2.out]; exact hi)
        rw [List.getD_eq_getElem?_getD, List.getElem?_eq_getElem hi] at this
        simp only [Option.getD_some, e] at this
        exact ⟨this.1, this.2.1⟩
      have hs : SR = S (sumTo ss (szAt ss 0) zs k) := by rw [HSR.out, sumR, if_pos (by rw [← HSE.out]; exact q), HL2.out]
      have HZ := Lib.hid hz
      have HS := Lib.hid hs
      have HCK := Lib.hid (chk_ok hck)
      clear hz hs hck hk0 h q
      go_wp2_with (go_at_call 29; refine (refSum a1 n c1 ss a2 k c2 zs _ A1.out A2.out HCK.out HZ.out).mono ?_; rintro e w5 ⟨rfl, hb5⟩)
      go_meet
      case rel => exact ⟨by rw [HS.out], Lat.trans hb4 hb5⟩
    · have d1 : ((SE : Int) == 0) = false := by rw [beq_eq_false_iff_ne]; omega
      have hs : SR = .empty := by rw [HSR.out, sumR, if_neg (by rw [← HSE.out]; exact q)]
      have HS := Lib.hid hs
      clear hs q
      go_wp2_with fail
      go_meet
      case rel => exact ⟨by rw [HS.out]; rfl, hb4⟩
  case rest =>
  obtain ⟨rfl, hc5⟩ := hcut
  have hb5 := hc5.out
  clear hc5 A1 A2 hb4
  have A1 := Lib.hid (H1.out.keep hb5)
  have A2 := Lib.hid (H2.out.keep hb5)
  go_wp2_with fail
  have hx := sum_tells a1 n c1 ss a2 k c2 zs wc A1.out A2.out
  rw [← HSE.out, ← HSR.out] at hx
  refine hx.mono ?_
  rintro e w6 ⟨rfl, hb6⟩
  clear hx
  have hb6 := Lat.trans hb5 hb6
  clear hb5
  go_wp2_with fail
  refine (sameErr_any SE w6 (HG.out.keep hb6)).mono ?_
  rintro e w7 ⟨rfl, hb7⟩
  have hb7 := Lat.trans hb6 hb7
  clear hb6
  have hz : (decide (sz < 1) = true ∧ (sz < 1 ∨ 8 < sz)) ∨ (decide (sz < 1) = false ∧ decide (8 < sz) = true ∧ (sz < 1 ∨ 8 < sz)) ∨ (decide (sz < 1) = false ∧ decide (8 < sz) = false ∧ ¬ (sz < 1 ∨ 8 < sz)) := by
    by_cases h : sz < 1
    · exact .inl ⟨decide_eq_true h, .inl h⟩
    · by_cases h2 : 8 < sz
      · exact .inr (.inl ⟨decide_eq_false h, decide_eq_true h2, .inr h2⟩)
      · exact .inr (.inr ⟨decide_eq_false h, decide_eq_false h2, by omega⟩)
  rcases hz with ⟨q1, q3⟩ | ⟨q1, q2, q3⟩ | ⟨q1, q2, q3⟩
  focus
    have e1 : ZE = 1 := by rw [HZE.out]; exact if_pos q3
    have e2 : ZR = .empty := by rw [HZR.out, zeroR, ← HZE.out, e1]; rfl
    have E1 := Lib.hid e1
    have E2 := Lib.hid e2
    clear e1 e2 q3
    go_wp2_with fail
    have hx := zero_tells sz w7
    rw [← HZE.out, ← HZR.out, E1.out, E2.out] at hx
    refine hx.mono ?_
    rintro e w8 ⟨rfl, hb8⟩
    clear hx
    have hb8 := Lat.trans hb7 hb8
    clear hb7
    go_wp2_with fail
    refine (sameErr_any 1 w8 (HG.out.keep hb8)).mono ?_
    rintro e w9 ⟨rfl, hb9⟩
    go_wp2
    go_ret
    exact ⟨rfl, Lat.trans hb8 hb9⟩
  focus
    have e1 : ZE = 1 := by rw [HZE.out]; exact if_pos q3
    have e2 : ZR = .empty := by rw [HZR.out, zeroR, ← HZE.out, e1]; rfl
    have E1 := Lib.hid e1
    have E2 := Lib.hid e2
    clear e1 e2 q3
    go_wp2_with fail
    have hx := zero_tells sz w7
    rw [← HZE.out, ← HZR.out, E1.out, E2.out] at hx
    refine hx.mono ?_
    rintro e w8 ⟨rfl, hb8⟩
    clear hx
    have hb8 := Lat.trans hb7 hb8
    clear hb7
    go_wp2_with fail
    refine (sameErr_any 1 w8 (HG.out.keep hb8)).mono ?_
    rintro e w9 ⟨rfl, hb9⟩
    go_wp2
    go_ret
    exact ⟨rfl, Lat.trans hb8 hb9⟩
  focus
    have e1 : ZE = 0 := by rw [HZE.out]; exact if_neg q3
    obtain ⟨m, rfl⟩ := Int.eq_ofNat_of_zero_le (show 0 ≤ sz by omega)
    have hm : m ≤ 100000 := by omega
    have e2 : ZR = S (noughts m) := by rw [HZR.out, zeroR, ← HZE.out, e1]; rfl
    have E1 := Lib.hid e1
    have E2 := Lib.hid e2
    clear e1 e2 q3
    go_wp2_with fail
    refine (zero_any m w7 hm).mono ?_
    rintro e w10 ⟨rfl, hb10⟩
    have hb10 := Lat.trans hb7 hb10
    clear hb7
    go_wp2_with fail
    have hx := zero_tells m w10
    rw [← HZE.out, ← HZR.out, E1.out, E2.out] at hx
    refine hx.mono ?_
    rintro e w8 ⟨rfl, hb8⟩
    clear hx
    have hb8 := Lat.trans hb10 hb8
    clear hb10
    go_wp2_with fail
    refine (sameErr_any 0 w8 (HG.out.keep hb8)).mono ?_
    rintro e w9 ⟨rfl, hb9⟩
    go_wp2
    go_ret
    exact ⟨rfl, Lat.trans hb8 hb9⟩
end Go.Proofs.YtllnipmkoibagaaDoor
