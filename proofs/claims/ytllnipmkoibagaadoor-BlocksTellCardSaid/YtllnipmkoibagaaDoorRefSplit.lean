/- The contracts of dropref1.Many, dropref1.Split. -/
import Derived.Test.YtllnipmkoibagaaDoorSplit
import Derived.Laws.Strings2
namespace Go.Proofs.YtllnipmkoibagaaDoor
open Go.ChangeShapes Go.WideShapes Go.ChangeAt Go.RowKit

theorem many_alt (n m : Nat) (hn : n ≠ 0) (hm : 1 ≤ m) : many n m = n / m + (if 0 < n % m then 1 else 0) := by
  have h := Nat.div_add_mod n m
  have hlt := Nat.mod_lt n (show m > 0 by omega)
  have e : n + m - 1 = (n % m + m - 1) + m * (n / m) := by omega
  have e2 : (n + m - 1) / m = n / m + (n % m + m - 1) / m := by rw [e, Nat.add_mul_div_left _ _ (by omega)]; omega
  have e3 : (n % m + m - 1) / m = if 0 < n % m then 1 else 0 := by
    split
    · rw [show n % m + m - 1 = (n % m - 1) + m by omega, Nat.add_div_right _ (by omega), Nat.div_eq_of_lt (by omega)]
    · rw [Nat.div_eq_of_lt (by omega)]
  unfold many
  rw [e2, e3]
  by_cases hd : n / m = 0
  · have : n % m = n := by rw [hd, Nat.mul_zero] at h; omega
    rw [hd, this, if_pos (by omega)]; rfl
  · have hp : 1 ≤ n / m := Nat.pos_of_ne_zero hd
    exact Nat.max_eq_right (Nat.le_trans hp (Nat.le_add_right _ _))
theorem refMany_any (n m : Nat) (w : World) (h1 : 1 ≤ m) (hm : m ≤ 8) (hn : n ≤ 1000) :
    Calls Tryd.prog 37 #[.int .i64 n, .int .i64 m] w fun e w' => e = .returned (.int .i64 (many n m)) ∧ w = w' := by
  have hz2 : (m : Int) ≠ 0 := by omega
  by_cases hn0 : n = 0
  · subst hn0
    have e : many 0 m = 1 := by unfold many; rw [Nat.zero_add, Nat.div_eq_of_lt (by omega)]; rfl
    rw [e]
    clear e
    go_enter Tryd.func37, Tryd.ntmps37
    go_wp2_with fail
    go_ret
    exact ⟨rfl, rfl⟩
  · have e := many_alt n m hn0 h1
    have d0 : ((n : Int) == 0) = false := beq_eq_false_iff_ne.2 (by omega)
    have hq : (n : Int) / (m : Int) = ((n / m : Nat) : Int) := (Int.natCast_ediv _ _).symm
    have hr : (n : Int) % (m : Int) = ((n % m : Nat) : Int) := (Int.natCast_emod _ _).symm
    obtain ⟨Q, hQ⟩ : ∃ Q, Q = n / m := ⟨_, rfl⟩
    obtain ⟨R, hR⟩ : ∃ R, R = n % m := ⟨_, rfl⟩
    have hQ2 : Q ≤ n := by rw [hQ]; exact Nat.div_le_self _ _
    rw [← hQ] at hq e
    rw [← hR] at hr e
    by_cases hR0 : 0 < R
    · have d1 : decide (0 < (R : Int)) = true := decide_eq_true (by omega)
      rw [if_pos hR0] at e
      have HE := Lib.hid e
      clear e hQ hR
      go_enter Tryd.func37, Tryd.ntmps37
      go_wp2_with fail
      go_ret
      exact ⟨by rw [HE.out]; go_num, rfl⟩
    · have d1 : decide (0 < (R : Int)) = false := decide_eq_false (by omega)
      rw [if_neg hR0] at e
      have HE := Lib.hid e
      clear e hQ hR
      go_enter Tryd.func37, Tryd.ntmps37
      go_wp2_with fail
      go_ret
      exact ⟨by rw [HE.out]; rfl, rfl⟩

theorem split_byte {D : ByteArray} {E : List UInt8} {m k : Nat} (hE : E = padL D.data.toList m) (hl : E.length = k * m) {p t : Nat} (hlt : p + t < k * m) :
    (p + t < D.size → S ((E.drop p).take t) ++ D.extract (p + t) (p + t + 1) = S ((E.drop p).take (t + 1))) ∧ (¬ p + t < D.size → S ((E.drop p).take t) ++ { data := #[0] } = S ((E.drop p).take (t + 1))) := by
  have hg : (E.drop p).take (t + 1) = (E.drop p).take t ++ [E[p + t]'(by omega)] := by
    rw [List.take_add_one, List.getElem?_drop, List.getElem?_eq_getElem (by omega)]; rfl
  refine ⟨fun h => ?_, fun h => ?_⟩
  · have h' : p + t < D.data.toList.length := by rw [size_toList]; exact h
    have e : E[p + t]'(by omega) = D.data.toList[p + t]'h' := by
      subst hE; unfold padL; rw [List.getElem_append_left]
    have e2 : D.extract (p + t) (p + t + 1) = S [D.data.toList[p + t]'h'] := by
      obtain ⟨l, rfl⟩ := S_of D
      unfold S
      rw [ByteArray.extract_mk]
      congr 2
      rw [show p + t + 1 - (p + t) = 1 by omega]
      rw [List.drop_eq_getElem_cons (by simpa [S] using h')]
      rfl
    rw [hg, e, e2, S_append]
  · have e : E[p + t]'(by omega) = 0 := by
      subst hE; unfold padL noughts; rw [List.getElem_append_right (by rw [size_toList]; omega), List.getElem_replicate]
    rw [hg, e, ← S_append]

set_option maxHeartbeats 1000000 in
set_option maxRecDepth 100000 in
theorem refSplit_ok (D : ByteArray) (s : Int) (w : World) (he : spE D.size s = 0) :
    Calls Tryd.prog 34 #[.string D, .int .i64 s] w fun e w' => ∃ v, e = .returned (.tuple #[v, .int .i64 0]) ∧ OwnStrs w' w.heap.size v (spl D s) ∧ Lat w w' := by
  have h := spE_ok he
  obtain ⟨m, hm⟩ : ∃ m, m = s.toNat := ⟨_, rfl⟩
  obtain ⟨k, hk⟩ : ∃ k, k = many D.size s.toNat := ⟨_, rfl⟩
  rw [← hk, ← hm] at h
  have hspl := spl_ok h he
  obtain ⟨E, hE⟩ : ∃ E, E = padL D.data.toList m := ⟨_, rfl⟩
  have hEl := pad_len h
  rw [← hE] at hspl hEl
  rw [hspl]
  obtain rfl : s = m := by have := h.es; omega
  have h1 := h.lo
  have h2 := h.hi
  have h3 := h.len
  have h4 := h.most
  have h5 := h.ek
  have d1 : decide (120 < (D.size : Int)) = false := decide_eq_false (by omega)
  have d2 : decide (16 < (k : Int)) = false := decide_eq_false (by omega)
  have d3 : decide ((m : Int) < 1) = false := decide_eq_false (by omega)
  have d4 : decide (8 < (m : Int)) = false := decide_eq_false (by omega)
  have hc := refMany_any D.size m
  rw [← h5] at hc
  have HC := Lib.hid hc
  have HEl := Lib.hid hEl
  have HE := Lib.hid hE
  clear hc hEl hspl h hk hm he h5 hE
  go_enter Tryd.func34, Tryd.ntmps34
  go_wp2_with (go_at_call 37; refine (HC.out _ h1 h2 (by omega)).mono ?_; rintro e w' ⟨rfl, rfl⟩)
  go_loopw [7, 8, 9, 10] (fun v i _ _ wr => ∃ j : Nat, j ≤ k ∧ i = .int .i64 j ∧ Hid (OwnStrs wr w.heap.size v (cuts E m j) ∧ Lat w wr)) (fun _ i _ _ _ => k - (intOf i).toNat)
  case atStart => exact ⟨0, Nat.zero_le _, rfl, Own.nil _ _ _, Lat.refl _⟩
  case round =>
    obtain ⟨j, hj, rfl, hrel⟩ := hrel
    have hown := Lib.hid hrel.out.1
    have hlat := Lib.hid hrel.out.2
    clear hrel
    by_cases hlt : j < k
    · obtain ⟨p, hp⟩ : ∃ p, p = j * m := ⟨_, rfl⟩
      have hq1 : (j : Int) * (m : Int) = (p : Nat) := by rw [hp, Int.natCast_mul]
      have hq2 : ((j : Int) + 1) * (m : Int) = (p : Nat) + m := by rw [hp, Int.natCast_mul, Int.add_mul, Int.one_mul]
      have hle : (j + 1) * m ≤ k * m := Nat.mul_le_mul_right _ hlt
      have hle2 : k * m ≤ 16 * 8 := Nat.mul_le_mul h4 h2
      have hpm : p + m ≤ k * m := by rw [hp, ← Nat.succ_mul]; exact hle
      have hp128 : p + m ≤ 128 := by omega
      have q1 : (0 : Int) ≤ (j : Int) * (m : Int) ∧ (j : Int) * (m : Int) ≤ 128 := by rw [hq1]; omega
      have q2 : (0 : Int) ≤ ((j : Int) + 1) * (m : Int) ∧ ((j : Int) + 1) * (m : Int) ≤ 128 := by rw [hq2]; omega
      have HP := Lib.hid hp
      have HPM := Lib.hid hpm
      have HQ1 := Lib.hid hq1
      have HQ2 := Lib.hid hq2
      clear hp hpm hle hle2 hq1 hq2
      go_wp2_with fail
      rw [HQ1.out]
      clear q1
      go_loop [9, 10] (fun b i => ∃ t x : Nat, t ≤ m ∧ Hid (x = p + t) ∧ i = .int .i64 x ∧ b = .string (S ((E.drop p).take t))) (fun _ i => p + m - (intOf i).toNat)
      case atStart => exact ⟨0, p, Nat.zero_le _, rfl, rfl, rfl⟩
      case round =>
        obtain ⟨t, x, ht, hxh, rfl, rfl⟩ := hrel
        have hx := hxh.out
        have hx128 : x ≤ 128 := by omega
        have hsz : (S ((E.drop p).take t)).size ≤ 128 := by rw [S_size, List.length_take]; omega
        obtain ⟨X, hX⟩ : ∃ X, X = S ((E.drop p).take t) := ⟨_, rfl⟩
        rw [← hX] at hsz ⊢
        by_cases hlt2 : t < m
        · have dt : decide ((x : Int) < ((j : Int) + 1) * (m : Int)) = true := decide_eq_true (by rw [HQ2.out]; omega)
          have hst := split_byte HE.out HEl.out (p := p) (t := t) (by have := HPM.out; omega)
          rw [← hX, ← hx] at hst
          have HX := Lib.hid hX
          have HST := Lib.hid hst
          clear hX hst hx
          by_cases hlt3 : x < D.size
          · have d5 : decide ((x : Int) < (D.size : Int)) = true := decide_eq_true (by omega)
            have b1 : (x : Int) + 1 ≤ (D.size : Int) := by omega
            have b0 : (x : Int) ≤ (x : Int) + 1 := by omega
            have b2 : x + 1 ≤ D.size := hlt3
            have HT := Lib.hid (HST.out.1 hlt3)
            go_wp2_with fail
            go_round
            case rel => exact ⟨t + 1, x + 1, by omega, congrArg (· + 1) hxh.out, by go_num, congrArg Value.string HT.out⟩
            case measure => have := hxh.out; simp [intOf]; omega
          · have d5 : decide ((x : Int) < (D.size : Int)) = false := decide_eq_false (by omega)
            go_wp2_with fail
            go_round
            case rel => exact ⟨t + 1, x + 1, by omega, congrArg (· + 1) hxh.out, by go_num, congrArg Value.string (HST.out.2 hlt3)⟩
            case measure => have := hxh.out; simp [intOf]; omega
        · obtain rfl : t = m := by omega
          have dt : decide ((x : Int) < ((j : Int) + 1) * (t : Int)) = false := decide_eq_false (by rw [HQ2.out]; omega)
          clear hx
          have hx : X = S (cutAt E t j) := by rw [hX]; unfold cutAt; rw [HP.out]
          have HX := Lib.hid hx
          clear hX hx
          go_wp2_with (at_builtin; refine app_str wr w w.heap.size rfl _ _ rfl _ _ _ (by rfl) hown.out (by rfl) (by rw [cuts_length]; omega) rfl hlat.out ?_)
          intro v' w2 hown2 hb2 hstep2
          rw [HX.out, ← cuts_succ] at hown2
          have HO2 := Lib.hid hown2
          have HB2 := Lib.hid hb2
          clear hown2 hb2 hstep2
          go_wp2_with fail
          go_roundw
          case rel => exact ⟨j + 1, hlt, by go_num, HO2.out, HB2.out⟩
          case measure => simp [intOf]; omega
    · obtain rfl : j = k := by omega
      go_wp2_with fail
      go_ret2
      exact ⟨_, rfl, hown.out, hlat.out⟩

theorem refSplit_bad (D : ByteArray) (s : Int) (w : World) (hD : D.size ≤ maxLen) (he : spE D.size s ≠ 0) :
    Calls Tryd.prog 34 #[.string D, .int .i64 s] w fun e w' => e = .returned (.tuple #[.slice none 0 0, .int .i64 (spE D.size s)]) ∧ w = w' := by
  unfold maxLen at hD
  unfold spE at he ⊢
  by_cases h1 : 120 < D.size
  · rw [if_pos h1]
    clear he
    have d1 : decide (120 < (D.size : Int)) = true := decide_eq_true (by omega)
    go_enter Tryd.func34, Tryd.ntmps34
    go_wp2_with fail
    go_ret2
    exact ⟨rfl, rfl⟩
  rw [if_neg h1] at he ⊢
  have d1 : decide (120 < (D.size : Int)) = false := decide_eq_false (by omega)
  by_cases h2 : s < 1 ∨ 8 < s
  · rw [if_pos h2]
    have hd : decide (s < 1) = true ∨ (decide (s < 1) = false ∧ decide (8 < s) = true) := by
      by_cases h : s < 1
      · exact .inl (decide_eq_true h)
      · exact .inr ⟨decide_eq_false h, decide_eq_true (by omega)⟩
    clear he h2
    rcases hd with q1 | ⟨q1, q2⟩
    all_goals
      go_enter Tryd.func34, Tryd.ntmps34
      go_wp2_with fail
      go_ret2
      exact ⟨rfl, rfl⟩
  rw [if_neg h2] at he ⊢
  by_cases h3 : 16 < many D.size s.toNat
  · rw [if_pos h3]
    obtain ⟨m, rfl⟩ := Int.eq_ofNat_of_zero_le (show 0 ≤ s by omega)
    rw [Int.toNat_natCast] at h3
    obtain ⟨k, hk⟩ : ∃ k, k = many D.size m := ⟨_, rfl⟩
    have hc := refMany_any D.size m
    have hm1 : 1 ≤ m := by omega
    have hm8 : m ≤ 8 := by omega
    have hle : (D.size + m - 1) / m ≤ D.size + m - 1 := Nat.div_le_self _ _
    have hk2 : k ≤ 1000 := by rw [hk]; unfold many; omega
    rw [← hk] at hc h3
    have HC := Lib.hid hc
    have d2 : decide (16 < (k : Int)) = true := decide_eq_true (by omega)
    have d3 : decide ((m : Int) < 1) = false := decide_eq_false (by omega)
    have d4 : decide (8 < (m : Int)) = false := decide_eq_false (by omega)
    clear he hc hk h2 h3 hle
    go_enter Tryd.func34, Tryd.ntmps34
    go_wp2_with (go_at_call 37; refine (HC.out _ hm1 hm8 (by omega)).mono ?_; rintro e w' ⟨rfl, rfl⟩)
    go_ret2
    exact ⟨rfl, rfl⟩
  · rw [if_neg h3] at he; exact absurd rfl he
theorem refSplit_any (D : ByteArray) (s : Int) (w : World) (hD : D.size ≤ maxLen) :
    Calls Tryd.prog 34 #[.string D, .int .i64 s] w fun e w' => ∃ a c, e = .returned (.tuple #[.slice a (spl D s).length c, .int .i64 (spE D.size s)]) ∧ StrsAt w' a (spl D s).length c (spl D s) ∧ Lat w w' := by
  by_cases he : spE D.size s = 0
  · refine (refSplit_ok D s w he).mono ?_
    rintro e w' ⟨v, rfl, hown, hb⟩
    obtain ⟨a, c, rfl, hat⟩ := OwnStrs.slice hown (spl_wf D s)
    exact ⟨a, c, by rw [he]; rfl, hat, hb⟩
  · refine (refSplit_bad D s w hD he).mono ?_
    rintro e w' ⟨rfl, rfl⟩
    have e0 : spl D s = [] := by unfold spl; rw [if_neg he]
    rw [e0]
    exact ⟨none, 0, rfl, StrsAt.nil _, Lat.refl _⟩
end Go.Proofs.YtllnipmkoibagaaDoor
