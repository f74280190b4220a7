/- The contract of the document's Rice: the bits of numbers. -/
import Derived.Test.YtnnjijdpenifjaaDoorRice
namespace Go.Proofs.YtnnjijdpenifjaaDoor
open Go.ChangeShapes Go.WideShapes Go.ChangeAt Go.RowKit

theorem mod_div_pow (N r : Nat) : N % 2 ^ (r + 1) / 2 ^ r = N / 2 ^ r % 2 := by rw [Nat.pow_succ, Nat.mod_mul_right_div_self]
theorem mod_mod_pow (N r : Nat) : N % 2 ^ (r + 1) % 2 ^ r = N % 2 ^ r := by
  rw [Nat.pow_succ]; exact Nat.mod_mod_of_dvd N (Nat.dvd_mul_right _ _)
theorem pow_le_128 {j low : Nat} (h : j ≤ low) (hl : low ≤ 7) : 1 ≤ 2 ^ j ∧ 2 ^ j ≤ 128 :=
  ⟨Nat.one_le_two_pow, by have := Nat.pow_le_pow_right (show 0 < 2 by omega) (show j ≤ 7 by omega); omega⟩

set_option maxHeartbeats 4000000 in
set_option maxRecDepth 100000 in
theorem refRice (a : Option Addr) (n cap : Nat) (zs : List Int) (low : Nat) (w : World) (h : IntsAt w a n cap zs) (hr : ∀ z ∈ zs, -255 ≤ z ∧ z ≤ 255) (hl : low ≤ 7) (hn : n ≤ 100000000) :
    Calls Tryd.prog 38 #[.slice a n cap, .int .i64 low] w fun e w' => ∃ v, e = .returned v ∧ OwnInts w' w.heap.size v (ric zs low n) ∧ Lat w w' := by
  have H := Lib.hid h
  have HR := Lib.hid hr
  have hcap2 := h.row.cap
  have hle2 := h.row.le
  unfold maxLen at hcap2
  clear h hr
  go_enter Tryd.func38, Tryd.ntmps38
  go_wp2_with fail
  go_loopw [5, 6] (fun v i wr => ∃ k : Nat, k ≤ n ∧ i = .int .i64 k ∧ Hid (OwnInts wr w.heap.size v (ric zs low k) ∧ Lat w wr)) (fun _ i _ => n - (intOf i).toNat)
  case atStart => exact ⟨0, Nat.zero_le _, rfl, Own.nil _ _ _, Lat.refl _⟩
  case round =>
    obtain ⟨k, hk, rfl, hrel⟩ := hrel
    by_cases hlt : k < n
    case neg =>
      obtain rfl : k = n := by omega
      go_wp2
      go_ret
      exact ⟨_, rfl, hrel.out⟩
    obtain ⟨b1, o1, rfl, hc1⟩ := (H.out.keep hrel.out.2).row.at_ (by omega)
    have c1 := hc1 k hlt
    have hz := HR.out _ (mem_getD zs k (by rw [H.out.len]; exact hlt))
    obtain ⟨z, hzd⟩ : ∃ z, z = zs.getD k 0 := ⟨_, rfl⟩
    have hst : ric zs low (k + 1) = ric zs low k ++ ric1 (fld z).toNat low := by rw [ric, hzd]
    rw [← hzd] at c1 hz
    have f1 := fld_nonneg z
    have f2 := fld_le z hz.1 hz.2
    obtain ⟨N, hN⟩ := Int.eq_ofNat_of_zero_le f1
    have hN5 : N ≤ 510 := by omega
    rw [hN, Int.toNat_natCast] at hst
    have hlen1 : (ric zs low k).length < 100000000000 := by
      have := ric_len zs low (fun z hz => HR.out z hz) hl k
      omega
    obtain ⟨L1, hL1⟩ : ∃ L, L = ric zs low k := ⟨_, rfl⟩
    rw [← hL1] at hlen1 hst
    have hrl1 := hrel.out.1
    have hrl2 := hrel.out.2
    rw [← hL1] at hrl1
    have HRL1 := Lib.hid hrl1
    have HRL2 := Lib.hid hrl2
    have HST := Lib.hid hst
    have HLEN := Lib.hid hlen1
    have hval : (z < 0 ∧ -(2 * z) - 1 = (N : Int)) ∨ (¬ z < 0 ∧ 2 * z = (N : Int)) := by
      rw [← hN]; unfold fld; split <;> omega
    clear hlen1 hL1 hrl1 hrl2 hrel hst hc1 hzd hN f1 f2
    rcases hval with ⟨hneg, hv⟩ | ⟨hneg, hv⟩
    all_goals
      have HV := Lib.hid hv
      clear hv
      go_wp2_with fail
      rw [HV.out]
      go_loop [8, 9] (fun p b => ∃ j : Nat, j ≤ low ∧ b = .int .i64 j ∧ p = .int .i64 ((2 ^ j : Nat) : Int)) (fun _ b => low - (intOf b).toNat)
      case atStart => exact ⟨0, Nat.zero_le _, rfl, rfl⟩
      case round =>
        obtain ⟨j, hj, rfl, rfl⟩ := hrel
        by_cases hjl : j < low
        · have hp := pow_le_128 hj hl
          have hps : 2 ^ (j + 1) = 2 * 2 ^ j := by rw [Nat.pow_succ]; omega
          obtain ⟨P, hP⟩ : ∃ P, P = 2 ^ j := ⟨_, rfl⟩
          rw [← hP] at hp hps
          rw [← hP]
          have HPS := Lib.hid hps
          clear hP hps
          go_wp2
          go_round
          case rel => exact ⟨j + 1, by omega, by go_num, by rw [HPS.out]; go_num⟩
          case measure => simp [intOf]; omega
        · obtain rfl : j = low := by omega
          have hp := pow_le_128 (Nat.le_refl j) hl
          have hdv : (N : Int) / ((2 ^ j : Nat) : Int) = ((N / 2 ^ j : Nat) : Int) := (Int.natCast_ediv N (2 ^ j)).symm
          have hmd : (N : Int) % ((2 ^ j : Nat) : Int) = ((N % 2 ^ j : Nat) : Int) := (Int.natCast_emod N (2 ^ j)).symm
          have hq : N / 2 ^ j ≤ 510 := Nat.le_trans (Nat.div_le_self _ _) hN5
          have hmm : N % 2 ^ j < 2 ^ j := Nat.mod_lt _ (by omega)
          obtain ⟨P, hP⟩ : ∃ P, P = 2 ^ j := ⟨_, rfl⟩
          obtain ⟨Q, hQ⟩ : ∃ Q, Q = N / 2 ^ j := ⟨_, rfl⟩
          obtain ⟨M, hM⟩ : ∃ M, M = N % 2 ^ j := ⟨_, rfl⟩
          rw [← hQ] at hdv hq
          rw [← hM] at hmd hmm
          rw [← hP] at hp hdv hmd hmm
          rw [← hP]
          have HP := Lib.hid hP
          have HQ := Lib.hid hQ
          have HM := Lib.hid hM
          have HMD := Lib.hid hmd
          clear hP hQ hM hmd
          go_wp2_with fail
          clear hdv
          go_loopw [5, 10] (fun v q wx => ∃ i : Nat, i ≤ Q ∧ q = .int .i64 i ∧ Hid (OwnInts wx w.heap.size v (L1 ++ List.replicate (Q - i) 1) ∧ Lat w wx)) (fun _ q _ => (intOf q).toNat)
          case atStart => exact ⟨Q, Nat.le_refl _, rfl, by rw [Nat.sub_self, List.replicate_zero, List.append_nil]; exact HRL1.out, HRL2.out⟩
          case round =>
            obtain ⟨i, hi, rfl, hrl⟩ := hrel
            cases i with
            | succ i =>
              have hst2 : List.replicate (Q - i) (1 : Int) = List.replicate (Q - (i + 1)) 1 ++ [1] := by
                rw [show Q - i = (Q - (i + 1)) + 1 by omega, List.replicate_succ']
              have hlen2 : (L1 ++ List.replicate (Q - (i + 1)) (1 : Int)).length < 1000000000000 := by
                rw [List.length_append, List.length_replicate]; have := HLEN.out; omega
              have hd1 : (0 : Int) < ((i + 1 : Nat) : Int) := by omega
              have he1 : ((i + 1 : Nat) : Int) - 1 = (i : Int) := by omega
              have HW1 := Lib.hid hrl.out.1
              have HW2 := Lib.hid hrl.out.2
              have HST2 := Lib.hid hst2
              have HLEN2 := Lib.hid hlen2
              have HE1 := Lib.hid he1
              clear hrl hst2 hlen2 he1
              go_wp2_with (at_builtin; refine app_int wr w _ rfl _ _ rfl _ _ _ rfl HW1.out rfl HLEN2.out rfl HW2.out ?_)
              intro v2 w2 hown2 hb2 _
              have HO2 := Lib.hid hown2
              have HB2 := Lib.hid hb2
              clear hown2 hb2
              go_wp2_with fail
              go_roundw
              case rel => exact ⟨i, by omega, rfl, by rw [HST2.out]; first | exact HO2.out | (rw [← List.append_assoc]; exact HO2.out), HB2.out⟩
              case measure => simp [intOf]
            | zero =>
              obtain ⟨L2, hL2⟩ : ∃ L, L = L1 ++ List.replicate Q 1 := ⟨_, rfl⟩
              have hw1 := hrl.out.1
              rw [Nat.sub_zero, ← hL2] at hw1
              have hlen2 : L2.length < 200000000000 := by rw [hL2, List.length_append, List.length_replicate]; have := HLEN.out; omega
              have HW1 := Lib.hid hw1
              have HW2 := Lib.hid hrl.out.2
              have EL2 := Lib.hid hL2
              have HLEN2 := Lib.hid hlen2
              clear hrl hw1 hL2 hlen2
              have hmd := HMD.out
              go_wp2_with (at_builtin; refine app_int wr w _ rfl _ _ rfl _ _ _ rfl HW1.out rfl (by have := HLEN2.out; omega) rfl HW2.out ?_)
              intro v3 w3 hown3 hb3 _
              obtain ⟨L3, hL3⟩ : ∃ L, L = L2 ++ [0] := ⟨_, rfl⟩
              rw [← hL3] at hown3
              have hlen3 : L3.length < 300000000000 := by rw [hL3, List.length_append, List.length_singleton]; have := HLEN2.out; omega
              have EL3 := Lib.hid hL3
              have HLEN3 := Lib.hid hlen3
              have HO3 := Lib.hid hown3
              have HB3 := Lib.hid hb3
              clear hown3 hb3 hL3 hlen3
              go_wp2_with fail
              clear hmd
              go_loopw [5, 7, 8] (fun v nn p wx => ∃ r PP MM : Nat, r ≤ j ∧ p = .int .i64 PP ∧ nn = .int .i64 MM ∧ Hid (PP = 2 ^ r ∧ MM = N % 2 ^ r ∧ OwnInts wx w.heap.size v (L3 ++ (lowb N j).take (j - r)) ∧ Lat w wx)) (fun _ _ p _ => (intOf p).toNat)
              case atStart => exact ⟨j, P, M, Nat.le_refl _, rfl, by rw [HMD.out], HP.out, HM.out, by rw [Nat.sub_self, List.take_zero, List.append_nil]; exact HO3.out, HB3.out⟩
              case round =>
                obtain ⟨r, PP, MM, hr, rfl, rfl, hrl⟩ := hrel
                obtain ⟨e1, e2, hw1, hw2⟩ := hrl.out
                cases r with
                | zero =>
                  have hP1 : PP = 1 := e1
                  have hlt1 : ¬ (1 < PP) := by omega
                  have hd1 : decide (1 < (PP : Int)) = false := decide_eq_false (by omega)
                  rw [Nat.sub_zero, List.take_of_length_le (by rw [lowb_length]; omega)] at hw1
                  have HW1 := Lib.hid hw1
                  have HW2 := Lib.hid hw2
                  clear hP1 hlt1 e1 e2 hw1 hw2 hrl
                  go_wp2_with fail
                  go_roundw
                  case rel => exact ⟨k + 1, by omega, by go_num, by
                    rw [HST.out, ric1, ← HQ.out, show List.replicate Q (1 : Int) ++ 0 :: lowb N j = (List.replicate Q 1 ++ [0]) ++ lowb N j by simp, ← List.append_assoc, ← List.append_assoc, ← EL2.out, ← EL3.out]
                    exact HW1.out, HW2.out⟩
                  case measure => simp [intOf]; omega
                | succ r =>
                  have hpr := pow_le_128 (show r ≤ j by omega) hl
                  have hps : 2 ^ (r + 1) = 2 * 2 ^ r := by rw [Nat.pow_succ]; omega
                  have e3 := mod_div_pow N r
                  have e4 := mod_mod_pow N r
                  rw [← e2] at e3 e4
                  have hmm2 : MM < PP := by rw [e1, e2]; exact Nat.mod_lt _ (by rw [hps]; omega)
                  obtain ⟨D, hD⟩ : ∃ D, D = 2 ^ r := ⟨_, rfl⟩
                  rw [← hD] at hpr hps e3 e4
                  rw [hps] at e1
                  obtain ⟨C, hC⟩ : ∃ C, C = N / D % 2 := ⟨_, rfl⟩
                  obtain ⟨M2, hM2⟩ : ∃ C, C = N % D := ⟨_, rfl⟩
                  rw [← hC] at e3
                  rw [← hM2] at e4
                  have i1 : (PP : Int) / 2 = (D : Int) := by omega
                  have i2 : (MM : Int) / (D : Int) = (C : Int) := by rw [← e3]; exact (Int.natCast_ediv MM D).symm
                  have i3 : (MM : Int) % (D : Int) = (M2 : Int) := by rw [← e4]; exact (Int.natCast_emod MM D).symm
                  have hC2 : C < 2 := by rw [hC]; exact Nat.mod_lt _ (by omega)
                  have hM3 : M2 < D := by rw [hM2]; exact Nat.mod_lt _ (by omega)
                  have hd1 : decide (1 < (PP : Int)) = true := decide_eq_true (by omega)
                  have hPP : PP ≤ 256 := by omega
                  have hDP : D < PP := by omega
                  have hstp : (lowb N j).take (j - r) = (lowb N j).take (j - (r + 1)) ++ [(C : Int)] := by
                    have q1 : j - r = (j - (r + 1)) + 1 := by omega
                    have q2 : j - 1 - (j - (r + 1)) = r := by omega
                    rw [q1, take_snoc _ _ (by rw [lowb_length]; omega), lowb_getD N j _ (by omega), q2, ← hD, ← hC]
                  obtain ⟨L4, hL4⟩ : ∃ L, L = L3 ++ (lowb N j).take (j - (r + 1)) := ⟨_, rfl⟩
                  have hlen4 : L4.length < 1000000000000 := by
                    have := HLEN3.out
                    rw [hL4, List.length_append, List.length_take, lowb_length]
                    omega
                  rw [← hL4] at hw1
                  have HST3 := Lib.hid hstp
                  have HLEN4 := Lib.hid hlen4
                  have EL4 := Lib.hid hL4
                  have HW1 := Lib.hid hw1
                  have HW2 := Lib.hid hw2
                  have HD := Lib.hid hD
                  have HM2 := Lib.hid hM2
                  have HDP := Lib.hid hDP
                  have I3 := Lib.hid i3
                  clear e1 e2 e3 e4 hps hC hM2 hD hstp hlen4 hw1 hw2 hrl hL4 hDP
                  go_wp2_with (at_builtin; refine app_int wr w _ rfl _ _ rfl _ _ _ rfl HW1.out rfl HLEN4.out rfl HW2.out ?_)
                  intro v4 w4 hown4 hb4 _
                  have HO4 := Lib.hid hown4
                  have HB4 := Lib.hid hb4
                  clear hown4 hb4
                  go_wp2_with fail
                  go_roundw
                  case rel => exact ⟨r, D, M2, by omega, rfl, by rw [I3.out], HD.out, by rw [HM2.out, HD.out], by rw [HST3.out, ← List.append_assoc, ← EL4.out]; exact HO4.out, HB4.out⟩
                  case measure => have := HDP.out; simp [intOf]; omega
end Go.Proofs.YtnnjijdpenifjaaDoor
