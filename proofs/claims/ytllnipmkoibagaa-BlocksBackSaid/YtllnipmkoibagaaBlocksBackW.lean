/- The walk of BlocksBack: it returns true, whatever the bytes and the size. -/
import Derived.Test.YtllnipmkoibagaaJoin
namespace Go.Proofs.Ytllnipmkoibagaa
open Go.ChangeShapes Go.WideShapes Go.ChangeAt Go.RowKit

theorem split_fact (w : World) : Calls Try.prog 28 #[.string { data := #[97, 98, 99] }, .int .i64 2] w fun e w' => ∃ b o c, e = .returned (.tuple #[.slice (some ⟨b, o, none⟩) 2 c, .nilIface]) ∧ w'.cell? ⟨b, o, none⟩ = some (.string { data := #[97, 98] }) ∧ w'.cell? ⟨b, o + 1, none⟩ = some (.string { data := #[99, 0] }) ∧ Lat w w' := by
  refine (split_any (S [97, 98, 99]) 2 w (by decide)).mono ?_
  rintro e w' ⟨a, c, rfl, hat, hb⟩
  have e1 : spl (S [97, 98, 99]) 2 = [S [97, 98], S [99, 0]] := by decide
  have e2 : spE (S [97, 98, 99]).size 2 = 0 := by decide
  rw [e1] at hat ⊢
  rw [errv_zero e2]
  obtain ⟨b, o, rfl, hc⟩ := hat.row.at_ (by decide)
  exact ⟨b, o, c, rfl, hc 0 (by decide), hc 1 (by decide), hb⟩

set_option maxHeartbeats 1000000 in
set_option maxRecDepth 100000 in
theorem walk_blocksBack (D : ByteArray) (s : Int) (w : World) (hD : D.size ≤ maxLen) (_ : (Lit.int .i64 s).wf = true) :
    Calls Try.prog 12 #[.string D, .int .i64 s] w fun e w' => e = .returned (.bool true) ∧ Lat w w' := by
  have hc := fun W => split_any D s W hD
  obtain ⟨L, hL⟩ : ∃ L, L = spl D s := ⟨_, rfl⟩
  rw [← hL] at hc
  have HC := Lib.hid hc
  have HL := Lib.hid hL
  clear hc hL
  go_enter Try.func12, Try.ntmps12
  go_wp2_with fail
  refine (split_fact _).mono ?_
  rintro e w1 ⟨b0, o0, c0, rfl, f0, f1, hb1⟩
  go_wp2_with fail
  refine (HC.out _).mono ?_
  rintro e w2 ⟨a, c, rfl, hat, hb2⟩
  have HAT := Lib.hid hat
  have HB2 := Lib.hid (Lat.trans hb1 hb2)
  clear hat hb1 hb2 f0 f1
  by_cases he : spE D.size s = 0
  case neg =>
    rw [errv_pos he]
    obtain ⟨E, hE⟩ : ∃ E, E = spE D.size s := ⟨_, rfl⟩
    rw [← hE]
    clear hE he
    go_wp2_with fail
    go_ret
    exact ⟨rfl, HB2.out⟩
  rw [errv_zero he]
  have h := spE_ok he
  obtain ⟨m, hm⟩ : ∃ m, m = s.toNat := ⟨_, rfl⟩
  obtain ⟨k, hk⟩ : ∃ k, k = many D.size s.toNat := ⟨_, rfl⟩
  rw [← hk, ← hm] at h
  obtain rfl : s = m := by have := h.es; omega
  have h1 := h.lo
  have h2 := h.hi
  have h3 := h.len
  have h4 := h.most
  have h5 := h.ek
  have hp1 : k * m ≤ 16 * 8 := Nat.mul_le_mul h4 h2
  have hp2 := many_le D.size m h1
  have hp3 := many_lt D.size m h1
  rw [← h5] at hp2 hp3
  have hln : L.length = k := by rw [HL.out]; exact spl_len h he
  have hsz : ∀ j, j < k → (L.getD j ByteArray.empty).size = m := fun j hj => by
    have := spl_szAt h he j hj
    rw [← HL.out] at this
    exact this
  have hchk : chk L = 0 := by rw [HL.out]; exact chk_spl he
  have hbk := jn_back he
  rw [← HL.out] at hbk
  have hj := fun W q => join_any a k c L D.size W q
  rw [hbk.1, hbk.2, errv_zero rfl] at hj
  have hck := fun W q => check_ok a k c L W q hchk
  rw [hln] at HAT ⊢
  have HJ := Lib.hid hj
  have HCK := Lib.hid hck
  have HSZ := Lib.hid hsz
  have HP1 := Lib.hid hp1
  have HP2 := Lib.hid hp2
  have HP3 := Lib.hid hp3
  have hk1 : 1 ≤ k := by rw [h5]; exact many_pos _ _
  clear hj hck hsz hbk hchk hln h hk hm h5 he HC HL hp1 hp2 hp3
  go_wp2_with fail
  refine (HJ.out _ HAT.out).mono ?_
  rintro e w3 ⟨rfl, hb3⟩
  have HAT3 := Lib.hid (HAT.out.keep hb3)
  have HB3 := Lib.hid (Lat.trans HB2.out hb3)
  clear hb3 HAT HB2
  have t0 : (D.toList == D.toList) = true := beq_iff_eq.2 rfl
  go_wp2_with fail
  refine (HCK.out _ HAT3.out).mono ?_
  rintro e w4 ⟨rfl, hb4⟩
  have HAT4 := Lib.hid (HAT3.out.keep hb4)
  have HB4 := Lib.hid (Lat.trans HB3.out hb4)
  clear hb4 HAT3 HB3 t0 HJ HCK
  obtain ⟨bb, oo, rfl, hcc⟩ := HAT4.out.row.at_ (by omega)
  have HCC := Lib.hid hcc
  clear hcc
  go_wp2_with fail
  go_loop [11, 12] (fun n i => ∃ j t : Nat, j ≤ k ∧ i = .int .i64 j ∧ n = .int .i64 t ∧ t ≤ 1000 ∧ Hid (t = j * m)) (fun _ i => k - (intOf i).toNat)
  case atStart => exact ⟨0, 0, Nat.zero_le _, rfl, rfl, by omega, (Nat.zero_mul m).symm⟩
  case round =>
    obtain ⟨j, t, hj, rfl, rfl, htb, ht⟩ := hrel
    by_cases hlt : j < k
    · have c1 := HCC.out j hlt
      have hs := HSZ.out j hlt
      obtain ⟨X, hX⟩ : ∃ X, X = L.getD j ByteArray.empty := ⟨_, rfl⟩
      rw [← hX] at c1 hs
      have d1 : ((X.size : Int) != (m : Int)) = false := by rw [bne_eq_false_iff_eq]; omega
      have hle : (j + 1) * m ≤ k * m := Nat.mul_le_mul_right _ hlt
      have htn : t + X.size = (j + 1) * m := by rw [ht.out, hs, Nat.succ_mul]
      have htb2 : t + X.size ≤ 1000 := by have := HP1.out; omega
      have HTN := Lib.hid htn
      have hs8 : X.size ≤ 8 := by omega
      clear hX hs hle htn
      go_wp2_with fail
      go_round
      case rel => exact ⟨j + 1, t + X.size, by omega, by go_num, by go_num, by omega, HTN.out⟩
      case measure => simp [intOf]; omega
    · obtain rfl : j = k := by omega
      have q1 : D.size ≤ t := by rw [ht.out]; exact HP2.out
      have q2 : t < D.size + m ∨ D.size = 0 := by rw [ht.out]; exact HP3.out
      have d1 : decide ((D.size : Int) ≤ (t : Int)) = true := decide_eq_true (by omega)
      rcases q2 with q2 | q2
      · have d2 : decide ((t : Int) - (D.size : Int) < (m : Int)) = true := decide_eq_true (by omega)
        go_wp2_with fail
        go_ret
        exact ⟨rfl, HB4.out⟩
      · have d3 : ((D.size : Int) == 0) = true := beq_iff_eq.2 (by omega)
        by_cases q3 : (t : Int) - (D.size : Int) < (m : Int)
        · have d2 : decide ((t : Int) - (D.size : Int) < (m : Int)) = true := decide_eq_true q3
          go_wp2_with fail
          go_ret
          exact ⟨rfl, HB4.out⟩
        · have d2 : decide ((t : Int) - (D.size : Int) < (m : Int)) = false := decide_eq_false q3
          go_wp2_with fail
          go_ret
          exact ⟨rfl, HB4.out⟩
end Go.Proofs.Ytllnipmkoibagaa
