/- The contracts of blocks.Many, blocks.Split. -/
import Derived.Test.YtllnipmkoibagaaDoorBlkPlain
import Derived.Test.YtllnipmkoibagaaDoorShelfJoin
import Derived.Test.YtllnipmkoibagaaDoorErrv
import Derived.Deep.DeepCutAuto
import Derived.Deep.CutBlock
namespace Go.Proofs.YtllnipmkoibagaaDoor
open Go.ChangeShapes Go.WideShapes Go.ChangeAt Go.RowKit

theorem many_any (n m : Nat) (w : World) (h1 : 1 ≤ m) (hm : m ≤ 8) (hn : n ≤ 1000) :
    Calls Tryd.prog 63 #[.int .i64 n, .int .i64 m] w fun e w' => e = .returned (.int .i64 (many n m)) ∧ w = w' := by
  have hz : ((m : Int) == 0) = false := beq_eq_false_iff_ne.2 (by omega)
  have hz2 : (m : Int) ≠ 0 := by omega
  have hle : (n + m - 1) / m ≤ n + m - 1 := Nat.div_le_self _ _
  have hv : max 1 (((n : Int) + m - 1) / (m : Int)) = (many n m : Nat) := by
    rw [show (n : Int) + m - 1 = ((n + m - 1 : Nat) : Int) by omega, ← Int.natCast_ediv]; unfold many; omega
  have HV := Lib.hid hv
  clear hv hle
  go_enter Tryd.func63, Tryd.ntmps63
  go_wp2_with fail
  go_ret
  exact ⟨by rw [HV.out]; rfl, rfl⟩

def lenV : Value → Nat
  | .string s => s.size
  | _ => 0
theorem repeatL_zero (n : Nat) : Lib.repeatL [0] n = noughts n := by
  induction n with
  | zero => rfl
  | succ n ih => rw [Lib.repeatL, ih]; rfl
theorem S_nil : S [] = ByteArray.empty := rfl
theorem spl_drop {E : List UInt8} {m k : Nat} (hE : E.length = k * m) {j : Nat} : (E.drop (j * m)).length = (k - j) * m := by
  rw [List.length_drop, hE, Nat.sub_mul]
set_option maxHeartbeats 400000 in
set_option maxRecDepth 100000 in
theorem split_ok (D : ByteArray) (s : Int) (w : World) (he : spE D.size s = 0) :
    Calls Tryd.prog 33 #[.string D, .int .i64 s] w fun e w' => ∃ v, e = .returned (.tuple #[v, .nilIface]) ∧ OwnStrs w' w.heap.size v (spl D s) ∧ Lat w w' := by
  have h := spE_ok he
  have hse := h.es
  obtain ⟨m, hm⟩ : ∃ m, m = s.toNat := ⟨_, rfl⟩
  obtain ⟨k, hk⟩ : ∃ k, k = many D.size s.toNat := ⟨_, rfl⟩
  rw [← hk, ← hm] at h
  have hspl := spl_ok h he
  obtain ⟨E, hE⟩ : ∃ E, E = padL D.data.toList m := ⟨_, rfl⟩
  have hEl := pad_len h
  rw [← hE] at hspl hEl
  rw [hspl]
  obtain rfl : s = m := by omega
  have h1 := h.lo
  have h2 := h.hi
  have h3 := h.len
  have h4 := h.most
  have h5 := h.ek
  have hp1 : k * m ≤ 16 * 8 := Nat.mul_le_mul h4 h2
  have hp2 := many_le D.size m h1
  rw [← h5] at hp2
  obtain ⟨R, hRd⟩ : ∃ R, R = S (noughts (k * m - D.size)) := ⟨_, rfl⟩
  have hRs : R.size = k * m - D.size := by rw [hRd, S_size]; simp [noughts]
  have hpad : D ++ R = S E := by
    rw [hE, hRd]
    unfold padL
    rw [size_toList, ← h5, ← S_append]
  have q1 : (0 : Int) ≤ (k : Int) * m := by rw [← Int.natCast_mul]; omega
  have q2 : (k : Int) * m ≤ 128 := by rw [← Int.natCast_mul]; omega
  have d1 : decide (120 < (D.size : Int)) = false := decide_eq_false (by omega)
  have d2 : decide (16 < (k : Int)) = false := decide_eq_false (by omega)
  have hc := many_any D.size m
  rw [← h5] at hc
  have HC := Lib.hid hc
  have hR := fun W => Tryd.strings_Repeat (S [0]) (k * m - D.size) W (by omega) (by show 1 * _ ≤ _; omega)
  rw [show (((k * m - D.size : Nat)) : Int) = (k : Int) * m - D.size by rw [Int.ofNat_sub hp2, Int.natCast_mul]] at hR
  rw [show (S [0]).data.toList = [0] from rfl, repeatL_zero] at hR
  change ∀ W, Calls Tryd.prog _ _ W fun e w' => e = .returned (.string (S (noughts (k * m - D.size)))) ∧ _ at hR
  rw [← hRd] at hR
  have HR := Lib.hid hR
  have HEl := Lib.hid hEl
  have HPD := Lib.hid hpad
  clear hc hR hRd hEl hpad hspl h hk hm he hse h5 hE
  go_enter Tryd.func33, Tryd.ntmps33
  go_wp2_with (first | (go_at_call 61; refine (size_yes _ _ (by omega) (by omega)).mono ?_; rintro e w' ⟨rfl, rfl⟩) | (go_at_call 63; refine (HC.out _ h1 h2 (by omega)).mono ?_; rintro e w' ⟨rfl, rfl⟩))
  refine (HR.out _).mono ?_
  rintro e w1 ⟨rfl, hb1⟩
  have HB1 := Lib.hid hb1
  clear hb1
  go_wp2_with fail
  rw [HPD.out]
  go_loopw [0, 7] (fun d v wr => ∃ j : Nat, j ≤ k ∧ d = .string (S (E.drop (j * m))) ∧ Hid (OwnStrs wr w.heap.size v (cuts E m j) ∧ Lat w wr)) (fun d _ _ => lenV d)
  case atStart => exact ⟨0, Nat.zero_le _, by rw [Nat.zero_mul]; rfl, Own.nil _ _ _, HB1.out⟩
  case round =>
    obtain ⟨j, hj, rfl, hrel⟩ := hrel
    have hown := Lib.hid hrel.out.1
    have hlat := Lib.hid hrel.out.2
    have hsz : (S (E.drop (j * m))).size = (k - j) * m := by rw [S_size]; exact spl_drop HEl.out
    obtain ⟨X, hX⟩ : ∃ X, X = S (E.drop (j * m)) := ⟨_, rfl⟩
    rw [← hX] at hsz ⊢
    by_cases hlt : j < k
    · have hle : m ≤ X.size := by
        rw [hsz]; exact Nat.le_mul_of_pos_left _ (by omega)
      have HX := Lib.hid hX
      have t1 : X.toList.isEmpty = false := by
        rw [ByteArray.toList_eq, List.isEmpty_eq_false_iff, ← List.length_pos_iff, Array.length_toList]
        show 0 < X.size
        exact Nat.lt_of_lt_of_le h1 hle
      have hx1 : X.extract 0 m = S (cutAt E m j) := by
        rw [hX]; unfold cutAt S; rw [ByteArray.extract_mk]; rfl
      have hx2 : X.extract m X.size = S (E.drop ((j + 1) * m)) := by
        rw [hX]; unfold S; rw [ByteArray.extract_mk, List.drop_drop, Nat.succ_mul]
        congr 2
        rw [List.take_of_length_le]
        have : (ByteArray.mk (List.drop (j * m) E).toArray).size = (List.drop (j * m) E).length := rfl
        rw [this, List.length_drop, List.length_drop]
        omega
      have HSZ := Lib.hid hsz
      have HX := Lib.hid hX
      have HX1 := Lib.hid hx1
      have HX2 := Lib.hid hx2
      clear hX hrel hsz hx1 hx2
      go_wp2_with (at_builtin; refine app_str wr w w.heap.size rfl _ _ rfl _ _ _ (by rfl) hown.out (by rfl) (by rw [cuts_length]; omega) rfl hlat.out ?_)
      intro v' w2 hown2 hb2 hstep2
      rw [HX1.out, ← cuts_succ] at hown2
      have HO2 := Lib.hid hown2
      have HB2 := Lib.hid hb2
      clear hown2 hb2 hstep2
      go_wp2_with fail
      go_roundw
      case rel => exact ⟨j + 1, hlt, by rw [HX2.out], HO2.out, HB2.out⟩
      case measure =>
        have e1 : (X.extract m X.size).size = (k - (j + 1)) * m := by rw [HX2.out, S_size]; exact spl_drop HEl.out
        have e2 : (k - j) * m = (k - (j + 1)) * m + m := by rw [← Nat.succ_mul]; congr 1; omega
        have e3 := HSZ.out
        show (X.extract m X.size).size < X.size
        omega
    · obtain rfl : j = k := by omega
      have t1 : X.toList.isEmpty = true := by
        rw [ByteArray.toList_eq, List.isEmpty_iff, ← List.length_eq_zero_iff, Array.length_toList]
        show X.size = 0
        rw [hsz, Nat.sub_self, Nat.zero_mul]
      have HSZ := Lib.hid hsz
      clear hrel hsz hX
      go_wp2_with fail
      go_ret2
      exact ⟨_, rfl, hown.out, hlat.out⟩

theorem split_bad (D : ByteArray) (s : Int) (w : World) (hD : D.size ≤ maxLen) (he : spE D.size s ≠ 0) :
    Calls Tryd.prog 33 #[.string D, .int .i64 s] w fun e w' => e = .returned (.tuple #[.slice none 0 0, errv (spE D.size s)]) ∧ w = w' := by
  unfold maxLen at hD
  rw [errv_pos he]
  unfold spE at he ⊢
  by_cases h1 : 120 < D.size
  · rw [if_pos h1]
    clear he
    have d1 : decide (120 < (D.size : Int)) = true := decide_eq_true (by omega)
    go_enter Tryd.func33, Tryd.ntmps33
    go_wp2_with fail
    go_ret2
    exact ⟨rfl, rfl⟩
  rw [if_neg h1] at he ⊢
  have d1 : decide (120 < (D.size : Int)) = false := decide_eq_false (by omega)
  by_cases h2 : s < 1 ∨ 8 < s
  · rw [if_pos h2]
    have H2 := Lib.hid h2
    clear he h2
    go_enter Tryd.func33, Tryd.ntmps33
    go_wp2_with (go_at_call 61; refine (size_no _ _ H2.out).mono ?_; rintro e w' ⟨rfl, rfl⟩)
    go_ret2
    exact ⟨rfl, rfl⟩
  rw [if_neg h2] at he ⊢
  by_cases h3 : 16 < many D.size s.toNat
  · rw [if_pos h3]
    obtain ⟨m, rfl⟩ := Int.eq_ofNat_of_zero_le (show 0 ≤ s by omega)
    rw [Int.toNat_natCast] at h3
    obtain ⟨k, hk⟩ : ∃ k, k = many D.size m := ⟨_, rfl⟩
    have hc := many_any D.size m
    have hm1 : 1 ≤ m := by omega
    have hm8 : m ≤ 8 := by omega
    have hle : (D.size + m - 1) / m ≤ D.size + m - 1 := Nat.div_le_self _ _
    have hk2 : k ≤ 1000 := by rw [hk]; unfold many; omega
    rw [← hk] at hc h3
    have HC := Lib.hid hc
    have d2 : decide (16 < (k : Int)) = true := decide_eq_true (by omega)
    clear he hc hk h2 h3 hle
    go_enter Tryd.func33, Tryd.ntmps33
    go_wp2_with (first | (go_at_call 61; refine (size_yes _ _ (by omega) (by omega)).mono ?_; rintro e w' ⟨rfl, rfl⟩) | (go_at_call 63; refine (HC.out _ hm1 hm8 (by omega)).mono ?_; rintro e w' ⟨rfl, rfl⟩))
    go_ret2
    exact ⟨rfl, rfl⟩
  · rw [if_neg h3] at he; exact absurd rfl he
theorem split_any (D : ByteArray) (s : Int) (w : World) (hD : D.size ≤ maxLen) :
    Calls Tryd.prog 33 #[.string D, .int .i64 s] w fun e w' => ∃ a c, e = .returned (.tuple #[.slice a (spl D s).length c, errv (spE D.size s)]) ∧ StrsAt w' a (spl D s).length c (spl D s) ∧ Lat w w' := by
  by_cases he : spE D.size s = 0
  · refine (split_ok D s w he).mono ?_
    rintro e w' ⟨v, rfl, hown, hb⟩
    obtain ⟨a, c, rfl, hat⟩ := OwnStrs.slice hown (spl_wf D s)
    exact ⟨a, c, by rw [errv_zero he], hat, hb⟩
  · refine (split_bad D s w hD he).mono ?_
    rintro e w' ⟨rfl, rfl⟩
    have e0 : spl D s = [] := by unfold spl; rw [if_neg he]
    rw [e0]
    exact ⟨none, 0, rfl, StrsAt.nil _, Lat.refl _⟩
end Go.Proofs.YtllnipmkoibagaaDoor
