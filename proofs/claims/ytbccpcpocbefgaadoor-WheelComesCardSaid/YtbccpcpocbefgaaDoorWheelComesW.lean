/- The walk of WheelComes: it returns true, whatever it is asked. -/
import Derived.Test.YtbccpcpocbefgaaDoorNeedPl2
import Derived.Test.YtbccpcpocbefgaaDoorWheelTot
import Derived.Test.YtbccpcpocbefgaaDoorRefMix
import Derived.Test.YtbccpcpocbefgaaDoorSame
namespace Go.Proofs.YtbccpcpocbefgaaDoor
open Go.ChangeShapes Go.WideShapes Go.ChangeAt Go.RowKit

theorem fact_row : wrL 2 1 0 6 = [1, 2, 3, 1, 2, 4] ∧ wrE 2 1 0 6 = 0 := ⟨by kernel_rfl, by kernel_rfl⟩
theorem whl_pos (k x t : Nat) : 1 ≤ whl k x t := by unfold whl; split <;> omega
/-- a number that comes more comes at one time only -/
theorem whl_inj (k x m n : Nat) (h0 : 1 ≤ k) (hs : k < whl k x m) (he : whl k x n = whl k x m) : n = m := by
  have key : ∀ q, k < whl k x q → ¬ q % (k + x) < k ∧ whl k x q = q % (k + x) + 1 + q / (k + x) * x := fun q hq => by
    unfold whl at hq ⊢
    by_cases h : q % (k + x) < k
    · rw [if_pos h] at hq; omega
    · rw [if_neg h]; exact ⟨h, rfl⟩
  obtain ⟨a1, a2⟩ := key m hs
  obtain ⟨b1, b2⟩ := key n (by omega)
  have hm := Nat.mod_lt m (show 0 < k + x by omega)
  have hn := Nat.mod_lt n (show 0 < k + x by omega)
  have e : (n % (k + x) - k) + n / (k + x) * x = (m % (k + x) - k) + m / (k + x) * x := by omega
  have hx : 0 < x := by omega
  have d1 : ((n % (k + x) - k) + n / (k + x) * x) / x = n / (k + x) := by rw [Nat.add_mul_div_right _ _ hx, Nat.div_eq_of_lt (by omega), Nat.zero_add]
  have d2 : ((m % (k + x) - k) + m / (k + x) * x) / x = m / (k + x) := by rw [Nat.add_mul_div_right _ _ hx, Nat.div_eq_of_lt (by omega), Nat.zero_add]
  have hd : n / (k + x) = m / (k + x) := by rw [← d1, ← d2, e]
  rw [hd] at e
  have hp : n % (k + x) = m % (k + x) := by omega
  rw [← Nat.div_add_mod n (k + x), ← Nat.div_add_mod m (k + x), hd, hp]
/-- in a round every block comes -/
theorem whl_round (k x t b : Nat) (hb : b < k) : ∃ i, i < k + x ∧ whl k x (t + i) = b + 1 := by
  obtain ⟨p, hp⟩ : ∃ p, p = t % (k + x) := ⟨_, rfl⟩
  have hpl : p < k + x := by rw [hp]; exact Nat.mod_lt _ (by omega)
  have key : ∀ i, (t + i) % (k + x) = b → whl k x (t + i) = b + 1 := fun i hi => by unfold whl; rw [hi, if_pos hb]
  have hdm := Nat.div_add_mod t (k + x)
  rw [← hp] at hdm
  by_cases h : p ≤ b
  · refine ⟨b - p, by omega, key _ ?_⟩
    have e : t + (b - p) = b + (k + x) * (t / (k + x)) := by omega
    rw [e, Nat.add_mul_mod_self_left, Nat.mod_eq_of_lt (by omega)]
  · refine ⟨b + (k + x) - p, by omega, key _ ?_⟩
    have e : t + (b + (k + x) - p) = b + (k + x) * (t / (k + x) + 1) := by rw [Nat.mul_add, Nat.mul_one]; omega
    rw [e, Nat.add_mul_mod_self_left, Nat.mod_eq_of_lt (by omega)]
theorem whls_getD (k x t n i : Nat) (h : i < n) : (whls k x t n).getD i 0 = (whl k x (t + i) : Int) := by
  unfold whls
  rw [List.getD_eq_getElem?_getD, List.getElem?_map, List.getElem?_range h]; rfl
theorem whls_mem (k x t n : Nat) (z : Int) : z ∈ whls k x t n ↔ ∃ i, i < n ∧ z = (whl k x (t + i) : Int) := by
  unfold whls
  rw [List.mem_map]
  constructor
  · rintro ⟨i, hi, rfl⟩; exact ⟨i, List.mem_range.1 hi, rfl⟩
  · rintro ⟨i, hi, rfl⟩; exact ⟨i, List.mem_range.2 hi, rfl⟩
theorem wn_here (k x m : Nat) (h0 : 1 ≤ k) (h1 : k ≤ 16) (h3 : x ≤ 16) (hm : m ≤ 1000) : wnE k x (whl k x m) = 0 ∧ (k < whl k x m → wnV k x (whl k x m) = m) ∧ (whl k x m ≤ k → wnV k x (whl k x m) + 1 = whl k x m) := by
  have hp := whl_pos k x m
  have hle := whl_le k x m h0 h1 h3 hm
  obtain ⟨_, s2, s3⟩ := wn_spec k x (whl k x m) h0 h1 h3 hp (by omega)
  have hE := (s3 m hm rfl).1
  refine ⟨hE, fun hk => whl_inj k x m _ h0 hk (s2 hE).2, fun hk => ?_⟩
  unfold wnV
  rw [if_neg (by omega), if_pos (by omega)]; omega

theorem rwE_bad {k x : Int} (h : k < 1 ∨ 16 < k ∨ x < 0 ∨ 16 < x) : rwE k x 0 = 1 := by unfold rwE; rw [if_pos (by omega)]

set_option maxHeartbeats 4000000 in
set_option maxRecDepth 100000 in
theorem walk_wheelComes (k x t : Int) (w : World) (hgn : Hnd w) (_ : (Lit.int .i64 k).wf = true) (_ : (Lit.int .i64 x).wf = true) (_ : (Lit.int .i64 t).wf = true) :
    Calls Tryd.prog 6 #[.int .i64 k, .int .i64 x, .int .i64 t] w fun e w' => e = .returned (.bool true) ∧ Lat w w' := by
  have HG := Lib.hid hgn
  have k0 := wRow_tot 2 1 0 6 w
  rw [fact_row.1, fact_row.2, errv_zero rfl] at k0
  have HK0 := Lib.hid k0
  clear k0 hgn
  go_enter Tryd.func6, Tryd.ntmps6
  go_wp2_with fail
  refine HK0.out.mono ?_
  rintro e w1 ⟨fa, fc, rfl, hf, hb1⟩
  obtain ⟨fb, fo, rfl, hfc⟩ := hf.row.at_ (by simp)
  have q2 : w1.cell? ⟨fb, fo + 2, none⟩ = some (.int .i64 3) := hfc 2 (by simp)
  have q3 : w1.cell? ⟨fb, fo + 3, none⟩ = some (.int .i64 1) := hfc 3 (by simp)
  have q5 : w1.cell? ⟨fb, fo + 5, none⟩ = some (.int .i64 4) := hfc 5 (by simp)
  have HB1 := Lib.hid hb1
  clear hf hfc hb1 HK0
  by_cases c0 : k < 1
  · have d0 : decide (k < 1) = true := decide_eq_true c0
    go_wp2_with fail
    refine (wAt_tot k x 0 _).mono ?_
    rw [rwE_bad (k := k) (x := x) (by omega), errv_pos (by omega)]
    rintro e w2 ⟨rfl, hb2⟩
    have HB2 := Lib.hid (Lat.trans HB1.out hb2)
    clear hb2
    go_wp2_with fail
    refine (sameErr_eno 1 _ (HG.out.keep HB2.out)).mono ?_
    rintro e w3 ⟨rfl, hb3⟩
    have HB3 := Lib.hid (Lat.trans HB2.out hb3)
    clear hb3
    go_wp2_with fail
    go_ret
    exact ⟨rfl, HB3.out⟩
  have d0 : decide (k < 1) = false := decide_eq_false c0
  by_cases c1 : 16 < k
  · have d1 : decide (16 < k) = true := decide_eq_true c1
    go_wp2_with fail
    refine (wAt_tot k x 0 _).mono ?_
    rw [rwE_bad (k := k) (x := x) (by omega), errv_pos (by omega)]
    rintro e w2 ⟨rfl, hb2⟩
    have HB2 := Lib.hid (Lat.trans HB1.out hb2)
    clear hb2
    go_wp2_with fail
    refine (sameErr_eno 1 _ (HG.out.keep HB2.out)).mono ?_
    rintro e w3 ⟨rfl, hb3⟩
    have HB3 := Lib.hid (Lat.trans HB2.out hb3)
    clear hb3
    go_wp2_with fail
    go_ret
    exact ⟨rfl, HB3.out⟩
  have d1 : decide (16 < k) = false := decide_eq_false c1
  by_cases c2 : x < 0
  · have d2 : decide (x < 0) = true := decide_eq_true c2
    go_wp2_with fail
    refine (wAt_tot k x 0 _).mono ?_
    rw [rwE_bad (k := k) (x := x) (by omega), errv_pos (by omega)]
    rintro e w2 ⟨rfl, hb2⟩
    have HB2 := Lib.hid (Lat.trans HB1.out hb2)
    clear hb2
    go_wp2_with fail
    refine (sameErr_eno 1 _ (HG.out.keep HB2.out)).mono ?_
    rintro e w3 ⟨rfl, hb3⟩
    have HB3 := Lib.hid (Lat.trans HB2.out hb3)
    clear hb3
    go_wp2_with fail
    go_ret
    exact ⟨rfl, HB3.out⟩
  have d2 : decide (x < 0) = false := decide_eq_false c2
  by_cases c3 : 16 < x
  · have d3 : decide (16 < x) = true := decide_eq_true c3
    go_wp2_with fail
    refine (wAt_tot k x 0 _).mono ?_
    rw [rwE_bad (k := k) (x := x) (by omega), errv_pos (by omega)]
    rintro e w2 ⟨rfl, hb2⟩
    have HB2 := Lib.hid (Lat.trans HB1.out hb2)
    clear hb2
    go_wp2_with fail
    refine (sameErr_eno 1 _ (HG.out.keep HB2.out)).mono ?_
    rintro e w3 ⟨rfl, hb3⟩
    have HB3 := Lib.hid (Lat.trans HB2.out hb3)
    clear hb3
    go_wp2_with fail
    go_ret
    exact ⟨rfl, HB3.out⟩
  have d3 : decide (16 < x) = false := decide_eq_false c3
  obtain ⟨f, rfl⟩ : ∃ f : Nat, k = f := ⟨k.toNat, by omega⟩
  obtain ⟨y, rfl⟩ : ∃ y : Nat, x = y := ⟨x.toNat, by omega⟩
  have hf1 : 1 ≤ f := by omega
  have hf16 : f ≤ 16 := by omega
  have hy16 : y ≤ 16 := by omega
  have hsum : (f : Int) + (y : Int) = ((f + y : Nat) : Int) := by omega
  have kr := fun W => wRow_tot f y t ((f + y : Nat) : Int) W
  by_cases hE : wrE f y t ((f + y : Nat) : Int) = 0
  · have ht : 0 ≤ t ∧ t + ((f + y : Nat) : Int) ≤ 1000 := by unfold wrE at hE; split at hE <;> omega
    obtain ⟨s, rfl⟩ : ∃ s : Nat, t = s := ⟨t.toNat, by omega⟩
    have hs : s + (f + y) ≤ 1000 := by omega
    have hL : wrL f y s ((f + y : Nat) : Int) = whls f y s (f + y) := by unfold wrL; rw [if_pos hE]; simp only [Int.toNat_natCast]
    rw [hE, hL, whls_length, errv_zero rfl] at kr
    have hok : ∀ z ∈ whls f y s (f + y), 1 ≤ z ∧ z ≤ 10000 := fun z hz => by
      obtain ⟨i, hi, rfl⟩ := (whls_mem _ _ _ _ _).1 hz
      have h1 := whl_pos f y (s + i)
      have h2 := whl_le f y (s + i) hf1 hf16 hy16 (by omega)
      omega
    have hin : ∀ b, b < f → ((b : Int) + 1) ∈ whls f y s (f + y) := fun b hb => by
      obtain ⟨i, hi, he⟩ := whl_round f y s b hb
      exact (whls_mem _ _ _ _ _).2 ⟨i, hi, by rw [he]; omega⟩
    have hrd := rdyE_of (f := f) (zs := whls f y s (f + y)) (by rw [whls_length]; omega) hf1 hf16 hok
    have hba := rowsOf_bare (k := f) (zs := whls f y s (f + y)) hf1 hok
    have hrk : rankR f (whls f y s (f + y)) = f := by
      rw [rankR_of hrd]
      refine rk_units (by omega) hba fun b hb => Sp.mem hba.wf ?_
      exact List.mem_map.2 ⟨(b : Int) + 1, hin b hb, rowOf_unit f b hb⟩
    have hwn := fun i (hi : i < f + y) => wn_here f y (s + i) hf1 hf16 hy16 (by omega)
    have hgd := fun i (hi : i < f + y) => whls_getD f y s (f + y) i hi
    have kn := fun W b cap (h : IntsAt W b (f + y) cap (whls f y s (f + y))) => srank_any f b (f + y) cap (whls f y s (f + y)) W h
    rw [hrk, hrd, errv_zero rfl] at kn
    obtain ⟨L, hLd⟩ : ∃ L, L = whls f y s (f + y) := ⟨_, rfl⟩
    rw [← hLd] at kr hok hin kn hgd
    obtain ⟨N, hN⟩ : ∃ N, N = f + y := ⟨_, rfl⟩
    rw [← hN] at kr kn hsum hs hwn hgd
    have KR := Lib.hid kr; have KN := Lib.hid kn; have HOK := Lib.hid hok; have HIN := Lib.hid hin; have HWN := Lib.hid hwn; have HGD := Lib.hid hgd
    have hN32 : N ≤ 32 := by omega
    have hNf : f ≤ N := by omega
    have dNN : ((N : Int) != (N : Int)) = false := bne_self_eq_false _
    have dff : ((f : Int) != (f : Int)) = false := bne_self_eq_false _
    have hs1000 : s ≤ 1000 := by omega
    clear kr kn hok hin hwn hgd hrd hba hrk hL hE ht hLd hN c0 c1 c2 c3
    go_wp2_with fail
    refine (KR.out _).mono ?_
    rintro e w2 ⟨ra, rc, rfl, hat, hb2⟩
    have HAT := Lib.hid hat; have HB2 := Lib.hid (Lat.trans HB1.out hb2)
    clear hat hb2 q2 q3 q5
    go_wp2_with fail
    refine (KN.out _ _ _ HAT.out).mono ?_
    rintro e w3 ⟨rfl, hb3⟩
    have HAT3 := Lib.hid (HAT.out.keep hb3); have HB3 := Lib.hid (Lat.trans HB2.out hb3)
    clear hb3 KR KN hsum
    go_wp2
    go_loopw [15, 16] (fun i _ wr => ∃ j : Nat, j ≤ f ∧ i = .int .i64 ((j : Int) + 1) ∧ Hid (Lat w3 wr)) (fun i _ _ => 40 - (intOf i).toNat)
    case atStart => exact ⟨0, Nat.zero_le _, rfl, Lat.refl _⟩
    case round =>
      obtain ⟨j, hj, rfl, hrel⟩ := hrel
      by_cases hjf : j < f
      · have dle : (j : Int) + 1 ≤ (f : Int) := by omega
        have hm := HIN.out j hjf
        have HM := Lib.hid hm
        clear hm
        go_wp2_with (go_at_call 22; refine (refIn_yes ra N rc L _ _ (HAT3.out.keep hrel.out) HM.out).mono ?_; rintro e w' ⟨rfl, rfl⟩)
        go_roundw
        case rel => exact ⟨j + 1, by omega, by go_num, hrel.out⟩
        case measure => simp [intOf]; omega
      · obtain rfl : j = f := by omega
        have HL4 := Lib.hid hrel.out
        clear hrel
        obtain ⟨wo, hwo⟩ : ∃ wo : World, wo = wr := ⟨_, rfl⟩
        subst hwo
        go_wp2
        go_loopw [17, 18, 19] (fun i _ _ wr => ∃ q : Nat, q ≤ N ∧ i = .int .i64 q ∧ Hid (Lat w3 wr)) (fun i _ _ _ => N - (intOf i).toNat)
        case atStart => exact ⟨0, Nat.zero_le _, rfl, HL4.out⟩
        case round =>
          obtain ⟨q, hq, rfl, hrel⟩ := hrel
          by_cases hqN : q < N
          · obtain ⟨lb, lo, rfl, hc⟩ := (HAT3.out.keep hrel.out).row.at_ (by omega)
            have c1 := hc q hqN
            rw [HGD.out q hqN] at c1
            obtain ⟨e1, e2, e3⟩ := HWN.out q hqN
            have kw := fun W => wWhen_tot j y (whl j y (s + q) : Int) W
            rw [e1, errv_zero rfl] at kw
            obtain ⟨v, hv⟩ : ∃ v, v = whl j y (s + q) := ⟨_, rfl⟩
            obtain ⟨u, hu⟩ : ∃ u, u = wnV j y (v : Int) := ⟨_, rfl⟩
            rw [← hv] at c1 kw e2 e3
            rw [← hu] at kw e2 e3
            have hv1 : 1 ≤ v := by rw [hv]; exact whl_pos _ _ _
            have hvb : v ≤ 2000 := by rw [hv]; exact whl_le _ _ _ hf1 hf16 hy16 (by omega)
            have hkeep := fun w' (hb : Lat wr w') => Lat.cell_at hb c1
            have KW := Lib.hid kw; have HKEEP := Lib.hid hkeep; have HL5 := Lib.hid hrel.out
            clear hc kw hv hu hkeep e1 hrel
            by_cases hvj : v ≤ j
            · have g1 : decide (j < v) = false := decide_eq_false (by omega)
              have g2 : decide (v ≤ j) = true := decide_eq_true hvj
              have g3 : ((u : Int) != (v : Int) - 1) = false := by rw [bne_eq_false_iff_eq]; have := e3 hvj; omega
              clear e2 e3
              go_wp2_with (go_at_call 23; refine (KW.out _).mono ?_; rintro e w5 ⟨rfl, hb5⟩; have c5 := HKEEP.out _ hb5)
              have HL6 := Lib.hid (Lat.trans HL5.out hb5)
              clear hb5
              go_roundw
              case rel => exact ⟨q + 1, by omega, by go_num, HL6.out⟩
              case measure => simp [intOf]; omega
            · have g1 : decide (j < v) = true := decide_eq_true (by omega)
              have g2 : decide (v ≤ j) = false := decide_eq_false hvj
              have g3 : ((u : Int) != (s : Int) + (q : Int)) = false := by rw [bne_eq_false_iff_eq]; have := e2 (by omega); omega
              clear e2 e3
              go_wp2_with (go_at_call 23; refine (KW.out _).mono ?_; rintro e w5 ⟨rfl, hb5⟩; have c5 := HKEEP.out _ hb5)
              have HL6 := Lib.hid (Lat.trans HL5.out hb5)
              clear hb5
              go_roundw
              case rel => exact ⟨q + 1, by omega, by go_num, HL6.out⟩
              case measure => simp [intOf]; omega
          · have HL5 := Lib.hid (Lat.trans HB3.out hrel.out)
            clear hrel
            go_wp2
            go_ret
            exact ⟨rfl, HL5.out⟩
  · have hE1 : wrE f y t ((f + y : Nat) : Int) ≠ 0 := hE
    simp only [errv_pos hE1] at kr
    obtain ⟨EE, hEE⟩ : ∃ E, E = wrE f y t ((f + y : Nat) : Int) := ⟨_, rfl⟩
    simp only [← hEE] at kr
    obtain ⟨N, hN⟩ : ∃ N, N = f + y := ⟨_, rfl⟩
    rw [← hN] at kr hsum
    have KR := Lib.hid kr
    clear kr hE hE1 hEE hN c0 c1 c2 c3
    go_wp2_with fail
    refine (KR.out _).mono ?_
    rintro e w2 ⟨ra, rc, rfl, -, hb2⟩
    have HB2 := Lib.hid (Lat.trans HB1.out hb2)
    clear hb2
    go_wp2_with fail
    go_ret
    exact ⟨rfl, HB2.out⟩
end Go.Proofs.YtbccpcpocbefgaaDoor
