/- The walk of AloneFlat: it returns true, whatever the sides and the step. -/
import Derived.Test.YtnnjijdpenifjaaFlat
namespace Go.Proofs.Ytnnjijdpenifjaa
open Go.ChangeShapes Go.WideShapes Go.ChangeAt Go.RowKit

theorem rep_getD (n : Nat) (c : Int) (k : Nat) (h : k < n) : (List.replicate n c).getD k 0 = c := by rw [List.getD_eq_getElem?_getD, List.getElem?_replicate, if_pos h]; rfl
theorem rep_ok {wd hg c : Int} {n : Nat} (h : flE wd hg c = 0) (hn : (n : Int) = wd * hg) : PicOk wd hg (List.replicate n c) := by
  obtain ⟨w1, w6, g1, g6, c1, c2⟩ := flE_zero h
  exact ⟨w1, w6, g1, g6, by rw [List.length_replicate]; exact hn, fun z hz => by rw [List.eq_of_mem_replicate hz]; exact ⟨c1, c2⟩⟩
theorem flE_prod {wd hg c : Int} (h : flE wd hg c = 0) : ∃ n : Nat, (n : Int) = wd * hg ∧ n ≤ 36 := by
  obtain ⟨w1, w6, g1, g6, _, _⟩ := flE_zero h
  have p1 : wd * hg ≤ 6 * 6 := Int.mul_le_mul w6 g6 (by omega) (by omega)
  have p0 : 0 ≤ wd * hg := Int.mul_nonneg (by omega) (by omega)
  obtain ⟨n, hn⟩ := Int.eq_ofNat_of_zero_le p0
  exact ⟨n, hn.symm, by omega⟩

set_option maxHeartbeats 2000000 in
set_option maxRecDepth 100000 in
theorem walk_aloneFlat (wd hg s : Int) (w : World) (_ : (Lit.int .i64 wd).wf = true) (_ : (Lit.int .i64 hg).wf = true) (_ : (Lit.int .i64 s).wf = true) :
    Calls Try.prog 7 #[.int .i64 wd, .int .i64 hg, .int .i64 s] w fun e w' => e = .returned (.bool true) ∧ Lat w w' := by
  by_cases hf : flE wd hg 128 = 0
  case neg =>
    have HF := Lib.hid hf
    clear hf
    go_enter Try.func7, Try.ntmps7
    go_wp2_with fail
    refine (flat_bad wd hg 128 _ HF.out).mono ?_
    rintro e w1 ⟨rfl, hb1⟩
    go_wp2
    go_ret
    exact ⟨rfl, Lat.trans hb1 (Lat.alloc _ _)⟩
  obtain ⟨n, hn, hn36⟩ := flE_prod hf
  have hok := rep_ok hf hn
  obtain ⟨L, hL⟩ : ∃ L : List Int, L = List.replicate n 128 := ⟨_, rfl⟩
  rw [← hL] at hok
  by_cases he : encE wd hg L s = 0
  case neg =>
    have hst : stepB s = false := by
      cases hq : stepB s
      · rfl
      · exact absurd (show encE wd hg L s = 0 by unfold encE; rw [chkPic_of hok, if_neg (by omega), if_neg (by simp [hq])]) he
    have hs : (decide (s < 1) = true) ∨ (decide (s < 1) = false ∧ decide (64 < s) = true) := by
      simp only [stepB, decide_eq_false_iff_not] at hst
      by_cases q : s < 1
      · exact .inl (decide_eq_true q)
      · exact .inr ⟨decide_eq_false q, decide_eq_true (by omega)⟩
    have HF := Lib.hid hf
    have HN := Lib.hid hn
    have HL := Lib.hid hL
    have HE := Lib.hid he
    clear hf hn hL he hst hok
    rcases hs with q1 | ⟨q1, q2⟩
    all_goals
      go_enter Try.func7, Try.ntmps7
      go_wp2_with fail
      refine (flat_ok wd hg 128 n _ HF.out HN.out).mono ?_
      rw [← HL.out]
      rintro e w1 ⟨b, cp, rfl, hat, hb1⟩
      have HAT := Lib.hid (hat.keep (Lat.alloc w1 (.cells #[.int .i64 wd, .int .i64 hg, .slice b n cp] 24)))
      clear hat
      go_wp2_with fail
      refine (encode_bad wd hg b n cp L s _ HAT.out HE.out).mono ?_
      rintro e w2 ⟨rfl, hb2⟩
      have hgd : ∀ x, errv x = eno x ∨ errv x = .nilIface := fun x => by by_cases h : x = 0; exact .inr (errv_zero h); exact .inl (errv_pos h)
      clear hgd
      go_wp2
      go_ret
      exact ⟨rfl, Lat.trans hb1 (Lat.trans (Lat.alloc _ _) hb2)⟩
  obtain ⟨_, s1, s64⟩ := encE_zero he
  have hc : cod L wd.toNat s n = (List.replicate n 0, List.replicate n 128) := by rw [hL]; exact cod_flat wd.toNat n s s1 (by have := hok.w1; omega) n (Nat.le_refl _)
  obtain ⟨RS, hRS⟩ : ∃ r : List Int, r = List.replicate n 0 := ⟨_, rfl⟩
  have hc1 : (cod L wd.toNat s n).1 = RS := by rw [hc, hRS]
  have hc2 : (cod L wd.toNat s n).2 = L := by rw [hc, hL]
  have htel : tel RS wd.toNat s n = L := by rw [← hc1, tel_cod L wd.toNat s n n (Nat.le_refl _), hc2]
  have hdc : dcE wd hg s RS = 0 := dcE_of hok.w1 hok.w6 hok.h1 hok.h6 s1 s64 (by rw [hRS, List.length_replicate]; exact hn) (fun z hz => by rw [hRS] at hz; rw [List.eq_of_mem_replicate hz]; omega)
  have hzero : ∀ k, k < n → RS.getD k 0 = 0 := fun k hk => by rw [hRS]; exact rep_getD n 0 k hk
  have hsame : sameP wd hg L wd hg L = true := decide_eq_true ⟨rfl, rfl, rfl⟩
  have hmul : wd * hg = (n : Int) := hn.symm
  have HF := Lib.hid hf
  have HN := Lib.hid hn
  have HL := Lib.hid hL
  have HE := Lib.hid he
  have HC1 := Lib.hid hc1
  have HTEL := Lib.hid htel
  have HDC := Lib.hid hdc
  have HZ := Lib.hid hzero
  have HS := Lib.hid hsame
  clear hf hn hL he hok hc hRS hc1 hc2 htel hdc hzero hsame
  go_enter Try.func7, Try.ntmps7
  go_wp2_with fail
  refine (flat_ok wd hg 128 n _ HF.out HN.out).mono ?_
  rw [← HL.out]
  rintro e w1 ⟨b, cp, rfl, hat, hb1⟩
  have HAT := Lib.hid (hat.keep (Lat.alloc w1 (.cells #[.int .i64 wd, .int .i64 hg, .slice b n cp] 24)))
  clear hat
  go_wp2_with fail
  refine (encode_ok wd hg b n cp L s _ HAT.out HE.out).mono ?_
  rw [HC1.out]
  rintro e w2 ⟨b2, c2, rfl, hat2, hb2⟩
  have k0 : w2.cell? ⟨w1.heap.size, 0, none⟩ = some (.int .i64 wd) := hb2.cell_at (by simp)
  have k1 : w2.cell? ⟨w1.heap.size, 1, none⟩ = some (.int .i64 hg) := hb2.cell_at (by simp)
  have k2 : w2.cell? ⟨w1.heap.size, 2, none⟩ = some (.slice b n cp) := hb2.cell_at (by simp)
  have hb02 := Lat.trans hb1 (Lat.trans (Lat.alloc w1 (.cells #[.int .i64 wd, .int .i64 hg, .slice b n cp] 24)) hb2)
  have HAT' := Lib.hid (HAT.out.keep hb2)
  have HAT2 := Lib.hid hat2
  have HB02 := Lib.hid hb02
  clear hb1 hb2 hb02 hat2 HAT
  go_wp2_with fail
  go_loop [10] (fun i => ∃ k : Nat, k ≤ n ∧ i = .int .i64 k) (fun i => n - (intOf i).toNat)
  case atStart => exact ⟨0, Nat.zero_le _, rfl⟩
  case round =>
    obtain ⟨k, hk, rfl⟩ := hrel
    by_cases hlt : k < n
    · obtain ⟨b3, o3, rfl, hc3⟩ := HAT2.out.row.at_ (by omega)
      have ck := hc3 k hlt
      rw [HZ.out k hlt] at ck
      clear hc3
      go_wp2
      go_round
      case rel => exact ⟨k + 1, by omega, by go_num⟩
      case measure => simp [intOf]; omega
    · obtain rfl : k = n := by omega
      have h0 := hlt
      clear hlt h0
      go_wp2_with fail
      refine (decode_ok wd hg s b2 k c2 RS _ HAT2.out HDC.out).mono ?_
      rw [HTEL.out]
      rintro e w3 ⟨b4, c4, rfl, hat4, hb3⟩
      have r0 := hb3.cell_at k0
      have r1 := hb3.cell_at k1
      have r2 := hb3.cell_at k2
      have hlt : w1.heap.size < w3.heap.size := World.block_lt_of_cell? _ _ r0
      have HAT4 := Lib.hid (hat4.keep (Lat.alloc w3 (.cells #[.int .i64 wd, .int .i64 hg, .slice b4 k c4] 24)))
      have HAT5 := Lib.hid ((HAT'.out.keep hb3).keep (Lat.alloc w3 (.cells #[.int .i64 wd, .int .i64 hg, .slice b4 k c4] 24)))
      have HB03 := Lib.hid (Lat.trans HB02.out (Lat.trans hb3 (Lat.alloc w3 (.cells #[.int .i64 wd, .int .i64 hg, .slice b4 k c4] 24))))
      clear hat4 hb3 k0 k1 k2
      go_wp2_with fail
      refine (samePic_any wd hg b4 k c4 L wd hg b k cp L _ HAT4.out HAT5.out).mono ?_
      rw [HS.out]
      rintro e w4 ⟨rfl, hb4⟩
      go_wp2
      go_ret
      exact ⟨rfl, Lat.trans HB03.out hb4⟩
end Go.Proofs.Ytnnjijdpenifjaa
