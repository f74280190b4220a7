/- The walk of RiceNone: it returns true, whatever the number and the low. -/
import Derived.Test.YtnnjijdpenifjaaRiceC
import Derived.Test.YtnnjijdpenifjaaOpenPic
namespace Go.Proofs.Ytnnjijdpenifjaa
open Go.ChangeShapes Go.WideShapes Go.ChangeAt Go.RowKit

theorem ricL_zeros (m low : Nat) : ricL low (List.replicate m 0) = List.replicate (m * (low + 1)) 0 := by
  have h := ric_all (List.replicate m (0 : Int)) low
  rw [List.length_replicate, ric_zero_length] at h
  exact h.symm
theorem rgtB_zeros (m : Nat) : rgtB (List.replicate m 0) = true := rgtB_of fun z hz => by rw [List.eq_of_mem_replicate hz]; omega
theorem bstL_zeros (m : Nat) (hm : m ≤ 200) : ∀ j, bstL (bslF (List.replicate m 0)) (j + 1) = (0, (m : Int))
  | 0 => by
    have e : bslF (List.replicate m 0) 0 = m := by simp [bslF, ricL_zeros]
    rw [bstL, bstL, e, if_pos (.inl (by simp; omega))]; rfl
  | j + 1 => by
    have e : bslF (List.replicate m 0) (j + 1) = m * (j + 2) := by simp [bslF, ricL_zeros]
    have h1 : m * 1 ≤ m * (j + 2) := Nat.mul_le_mul_left _ (by omega)
    rw [bstL, bstL_zeros m hm j, e, if_neg]
    simp only
    omega
theorem bsl_zeros (m : Nat) (hm : m ≤ 200) : bslE (List.replicate m 0) = 0 ∧ bslV (List.replicate m 0) = 0 := by
  have h := bstL_zeros m hm 7
  have e : bslE (List.replicate m 0) = 0 := by unfold bslE; rw [if_neg (by simp [rgtB_zeros]), h]; rfl
  exact ⟨e, by unfold bslV; rw [if_pos e, h]⟩
theorem put_zeros (m : Nat) (low : Int) (hm : m ≤ 200) : (lowB low = false ∧ putE low (List.replicate m 0) = 1) ∨ ∃ l : Nat, l ≤ 7 ∧ low = l ∧ putE low (List.replicate m 0) = 0 ∧ putR low (List.replicate m 0) = List.replicate (m * (l + 1)) 0 := by
  cases hl : lowB low with
  | false => exact .inl ⟨rfl, by unfold putE; rw [if_pos (.inl hl)]⟩
  | true =>
    have hl2 := hl
    simp only [lowB, decide_eq_true_eq] at hl2
    obtain ⟨l, rfl⟩ := Int.eq_ofNat_of_zero_le hl2.1
    have h1 : m * (l + 1) ≤ 200 * 8 := Nat.mul_le_mul hm (by omega)
    have e : putE l (List.replicate m 0) = 0 := by
      unfold putE
      rw [if_neg (by simp [hl, rgtB_zeros]), Int.toNat_natCast, ricL_zeros, List.length_replicate, if_neg (by omega)]
    exact .inr ⟨l, by omega, rfl, e, by unfold putR; rw [if_pos e, Int.toNat_natCast, ricL_zeros]⟩
theorem ints_of_blk {w : World} {g n : Nat} (h : Blk w g n (fun _ => .int .i64 0)) (hn : n ≤ 1000000) : IntsAt w (some ⟨g, 0, none⟩) n n (List.replicate n 0) :=
  ⟨List.length_replicate, ⟨Nat.le_refl _, by unfold maxLen; omega, fun _ => ⟨g, 0, rfl, fun j hj => by
    rw [Nat.zero_add, h.cell j hj, List.getD_eq_getElem?_getD, List.getElem?_replicate, if_pos hj]; rfl⟩⟩, fun z hz => by rw [List.eq_of_mem_replicate hz]; omega⟩

set_option maxHeartbeats 2000000 in
theorem walk_riceNone (x y : Int) (w : World) (_ : (Lit.int .i64 x).wf = true) (_ : (Lit.int .i64 y).wf = true) :
    Calls Try.prog 5 #[.int .i64 x, .int .i64 y] w fun e w' => e = .returned (.bool true) ∧ Lat w w' := by
  by_cases hx : x < 0
  · go_enter Try.func5, Try.ntmps5
    go_wp2
    go_ret
    exact ⟨rfl, Lat.refl _⟩
  by_cases hx2 : 200 < x
  · go_enter Try.func5, Try.ntmps5
    go_wp2
    go_ret
    exact ⟨rfl, Lat.refl _⟩
  obtain ⟨m, rfl⟩ := Int.eq_ofNat_of_zero_le (show 0 ≤ x by omega)
  have hm : m ≤ 200 := by omega
  have d1 : decide ((m : Int) < 0) = false := decide_eq_false (by omega)
  have d2 : decide (200 < (m : Int)) = false := decide_eq_false (by omega)
  obtain ⟨Z, hZ⟩ : ∃ Z, Z = List.replicate m (0 : Int) := ⟨_, rfl⟩
  have hp := put_zeros m y hm
  have hbz := bsl_zeros m hm
  rw [← hZ] at hp hbz
  obtain ⟨PE, hPE⟩ : ∃ E, E = putE y Z := ⟨_, rfl⟩
  obtain ⟨PR, hPR⟩ : ∃ R, R = putR y Z := ⟨_, rfl⟩
  rw [← hPE, ← hPR] at hp
  have HZ := Lib.hid hZ
  have HPE := Lib.hid hPE
  have HPR := Lib.hid hPR
  have HBZ := Lib.hid hbz
  have HP := Lib.hid hp
  clear hx hx2 hZ hPE hPR hbz hp
  go_enter Try.func5, Try.ntmps5
  go_wp2_with (at_make; refine wpList_make_blk _ rfl _ _ 22 rfl 3 (.int .i64 0) 8 Try.underlying22 info_int rfl m rfl rfl (by omega) (by unfold maxLen; omega) ?_)
  intro g w1 hg hblk hb1
  have hat := ints_of_blk hblk (by omega)
  rw [← HZ.out] at hat
  have HAT := Lib.hid hat
  have HB1 := Lib.hid hb1
  clear hg hblk hb1 hat
  go_wp2_with fail
  refine (put_tot _ m m Z y w1 HAT.out (by omega)).mono ?_
  rw [← HPE.out, ← HPR.out]
  rintro e w2 ⟨b, q, c, rfl, hq, hat2, hb2⟩
  have HAT2 := Lib.hid hat2
  have HQ := Lib.hid hq
  have HB2 := Lib.hid (Lat.trans HB1.out hb2)
  clear hat2 hb2 hq
  rcases HP.out with ⟨h1, rfl⟩ | ⟨l, hl, rfl, rfl, hR⟩
  · simp only [lowB, decide_eq_false_iff_not] at h1
    rw [errv_pos (show (1 : Nat) ≠ 0 by omega)]
    by_cases hy : y < 0
    · clear h1
      go_wp2
      go_ret
      exact ⟨rfl, HB2.out⟩
    · have hy2 : 7 < y := by omega
      clear h1
      go_wp2
      go_ret
      exact ⟨rfl, HB2.out⟩
  · rw [errv_zero rfl]
    have hq2 : q = m * (l + 1) := by rw [HQ.out, hR, List.length_replicate]
    have hmul : m * (l + 1) ≤ 200 * 8 := Nat.mul_le_mul hm (by omega)
    have hq3 : q ≤ 1600 := by omega
    have hval : ∀ j, j < q → PR.getD j 0 = 0 := fun j hj => by
      rw [hR, List.getD_eq_getElem?_getD, List.getElem?_replicate, if_pos (by omega)]; rfl
    have HVAL := Lib.hid hval
    have HQ2 := Lib.hid hq2
    have HR := Lib.hid hR
    clear hq2 hmul hval hR HP
    go_wp2_with fail
    go_loop [7] (fun i => ∃ k : Nat, k ≤ q ∧ i = .int .i64 k) (fun i => q - (intOf i).toNat)
    case atStart => exact ⟨0, Nat.zero_le _, rfl⟩
    case round =>
      obtain ⟨k, hk, rfl⟩ := hrel
      by_cases hlt : k < q
      · obtain ⟨b1, o1, rfl, hc⟩ := HAT2.out.row.at_ (by omega)
        have c1 := hc k hlt
        rw [HVAL.out k hlt] at c1
        clear hc
        go_wp2
        go_round
        case rel => exact ⟨k + 1, by omega, by go_num⟩
        case measure => simp [intOf]; omega
      · obtain rfl : k = q := by omega
        go_wp2_with (at_make; refine wpList_make_blk _ rfl _ _ 22 rfl 3 (.int .i64 0) 8 Try.underlying22 info_int rfl m rfl rfl (by omega) (by unfold maxLen; omega) ?_)
        intro g2 w3 hg2 hblk3 hb3
        have hat3 := ints_of_blk hblk3 (by omega)
        rw [← HZ.out] at hat3
        have HAT3 := Lib.hid hat3
        have HB3 := Lib.hid (Lat.trans HB2.out hb3)
        clear hg2 hblk3 hb3 hat3
        go_wp2_with fail
        refine (rbest_tot _ m m Z w3 HAT3.out (by omega)).mono ?_
        rw [HBZ.out.1, HBZ.out.2, errv_zero rfl]
        rintro e w4 ⟨rfl, hb4⟩
        have hfin : ((k : Int) == (m : Int) * ((l : Int) + 1)) = true := by
          rw [beq_iff_eq, HQ2.out, Int.natCast_mul]; rfl
        have i1 : (m : Int) * ((l : Int) + 1) = (k : Int) := by rw [HQ2.out, Int.natCast_mul]; rfl
        go_wp2
        go_ret
        exact ⟨rfl, Lat.trans HB3.out hb4⟩
end Go.Proofs.Ytnnjijdpenifjaa
