/- The contract of mix.Sum. -/
import Derived.Test.YtllnipmkoibagaaDoorMix
namespace Go.Proofs.YtllnipmkoibagaaDoor
open Go.ChangeShapes Go.WideShapes Go.ChangeAt Go.RowKit

theorem sum_chk (a : Option Addr) (n cap : Nat) (ss : List ByteArray) (v : Value) (w : World) (h : StrsAt w a n cap ss) (hb : chk ss ≠ 0) :
    Calls Tryd.prog 30 #[.slice a n cap, v] w fun e w' => e = .returned (.tuple #[.string .empty, eno (chk ss)]) ∧ Lat w w' := by
  have H := Lib.hid h
  have HB := Lib.hid hb
  clear h hb
  go_enter Tryd.func30, Tryd.ntmps30
  go_wp2_with (go_at_call 36; refine (check_bad a n cap ss _ H.out HB.out).mono ?_; rintro e w1 ⟨rfl, hb1⟩)
  go_ret2
  exact ⟨rfl, hb1⟩
theorem sum_none (a : Option Addr) (n cap : Nat) (ss : List ByteArray) (a2 : Option Addr) (cap2 : Nat) (w : World) (h : StrsAt w a n cap ss) (hok : chk ss = 0) :
    Calls Tryd.prog 30 #[.slice a n cap, .slice a2 0 cap2] w fun e w' => e = .returned (.tuple #[.string .empty, eno 5]) ∧ Lat w w' := by
  have H := Lib.hid h
  have HB := Lib.hid hok
  clear h hok
  go_enter Tryd.func30, Tryd.ntmps30
  go_wp2_with (go_at_call 36; refine (check_ok a n cap ss _ H.out HB.out).mono ?_; rintro e w1 ⟨rfl, hb1⟩)
  go_ret2
  exact ⟨rfl, hb1⟩

def sumRes (n m : Nat) (ss : List ByteArray) (zs : List Int) (k : Nat) : Value :=
  if ofErr n zs k = 0 then .tuple #[.string (S (sumTo ss m zs k)), .nilIface] else .tuple #[.string .empty, eno (ofErr n zs k)]

set_option maxHeartbeats 1000000 in
set_option maxRecDepth 100000 in
theorem sum_go (a : Option Addr) (n cap : Nat) (ss : List ByteArray) (a2 : Option Addr) (k cap2 : Nat) (zs : List Int) (w : World) (h : StrsAt w a n cap ss) (h2 : IntsAt w a2 k cap2 zs) (hok : chk ss = 0) (hk : k ≠ 0) :
    Calls Tryd.prog 30 #[.slice a n cap, .slice a2 k cap2] w fun e w' => e = .returned (sumRes n (szAt ss 0) ss zs k) ∧ Lat w w' := by
  have hl := h.len
  have hl2 := h2.len
  have hcap2 := h2.row.cap
  have hle2 := h2.row.le
  unfold maxLen at hcap2
  have hn16 : n ≤ 16 := by have := (chk_ok hok).most; omega
  have H1 := Lib.hid h
  have H2 := Lib.hid h2
  have HB := Lib.hid hok
  have HL := Lib.hid hl
  have HL2 := Lib.hid hl2
  have d0 : ((k : Int) == 0) = false := by simp; omega
  clear h h2 hok hl hl2
  go_enter Tryd.func30, Tryd.ntmps30
  go_wp2_with (go_at_call 36; refine (check_ok a n cap ss _ H1.out HB.out).mono ?_; rintro e w1 ⟨rfl, hb1⟩)
  have hat1 := H1.out.keep hb1
  have hat2 := H2.out.keep hb1
  have A1 := Lib.hid hat1
  have A2 := Lib.hid hat2
  clear hat1 hat2
  go_loop [20] (fun i => ∃ j : Nat, j ≤ k ∧ i = .int .i64 j ∧ Hid (ofErr n zs j = 0)) (fun i => k - (intOf i).toNat)
  case atStart => exact ⟨0, Nat.zero_le _, rfl, rfl⟩
  case round =>
    obtain ⟨j, hj, rfl, hrel⟩ := hrel
    by_cases hlt : j < k
    · obtain ⟨b2, o2, rfl, hc2⟩ := A2.out.row.at_ (by omega)
      have c2 := hc2 j hlt
      have htk := A2.out.take j hj
      obtain ⟨z, hzd⟩ : ∃ z, z = zs.getD j 0 := ⟨_, rfl⟩
      rw [← hzd] at c2
      have hstep : ofErr n zs (j + 1) = if z < 0 ∨ (n : Int) ≤ z then 1 else if z ∈ zs.take j then 7 else 0 := by
        rw [ofErr, if_neg (by rw [hrel.out]; simp), ← hzd]
      have HT := Lib.hid htk
      clear hc2 htk hzd
      by_cases hr : z < 0 ∨ (n : Int) ≤ z
      · rw [if_pos hr] at hstep
        have hfin : ofErr n zs k = 1 := by rw [ofErr_mono n zs (j + 1) k (by omega) (by rw [hstep]; simp), hstep]
        have HF := Lib.hid hfin
        clear hstep hfin
        have hd : decide (z < 0) = true ∨ (decide (z < 0) = false ∧ decide ((n : Int) ≤ z) = true) := by
          by_cases h : z < 0
          · exact .inl (decide_eq_true h)
          · exact .inr ⟨decide_eq_false h, decide_eq_true (by omega)⟩
        clear hr
        rcases hd with h1 | ⟨h1, h2⟩
        all_goals
          go_wp2
          go_ret2
          exact ⟨by rw [sumRes, HF.out, if_neg (by simp)]; rfl, hb1⟩
      · rw [if_neg hr] at hstep
        have h1 : decide (z < 0) = false := decide_eq_false (by omega)
        have h2 : decide ((n : Int) ≤ z) = false := decide_eq_false (by omega)
        by_cases hm : z ∈ zs.take j
        · rw [if_pos hm] at hstep
          have hfin : ofErr n zs k = 7 := by rw [ofErr_mono n zs (j + 1) k (by omega) (by rw [hstep]; simp), hstep]
          have HF := Lib.hid hfin
          have HM := Lib.hid hm
          clear hstep hfin hr hm
          go_wp2_with (go_at_call 59; refine (containsI_yes _ j cap2 (zs.take j) z _ HT.out HM.out).mono ?_; rintro e w2 ⟨rfl, rfl⟩)
          go_ret2
          exact ⟨by rw [sumRes, HF.out, if_neg (by simp)]; rfl, hb1⟩
        · rw [if_neg hm] at hstep
          have HF := Lib.hid hstep
          have HM := Lib.hid hm
          clear hstep hr hm
          go_wp2_with (go_at_call 59; refine (containsI_no _ j cap2 (zs.take j) z _ HT.out HM.out).mono ?_; rintro e w2 ⟨rfl, rfl⟩)
          go_round
          case rel => exact ⟨j + 1, by omega, by go_num, HF.out⟩
          case measure => simp [intOf]; omega
    · obtain rfl : j = k := by omega
      have hz : ∀ z ∈ zs, 0 ≤ z ∧ z < n := by
        intro z hz
        obtain ⟨i, hi, e⟩ := List.getElem_of_mem hz
        have hij : i < j := by rw [← HL2.out]; exact hi
        have := ofErr_zero n zs j hrel.out i hij
        rw [List.getD_eq_getElem?_getD, List.getElem?_eq_getElem hi] at this
        simp only [Option.getD_some, e] at this
        exact ⟨this.1, this.2.1⟩
      have HZ := Lib.hid hz
      clear hz
      go_wp2_with (go_at_call 60; refine (of_any a n cap ss a2 j cap2 zs _ A1.out A2.out (chk_ok HB.out) HZ.out).mono ?_; rintro e w2 ⟨rfl, hb2⟩)
      go_ret2
      exact ⟨by rw [sumRes, if_pos hrel.out]; rfl, Lat.trans hb1 hb2⟩
theorem sum_ok (a : Option Addr) (n cap : Nat) (ss : List ByteArray) (a2 : Option Addr) (k cap2 : Nat) (zs : List Int) (w : World) (h : StrsAt w a n cap ss) (h2 : IntsAt w a2 k cap2 zs) (hok : chk ss = 0) (hk : k ≠ 0) (he : ofErr n zs k = 0) :
    Calls Tryd.prog 30 #[.slice a n cap, .slice a2 k cap2] w fun e w' => e = .returned (.tuple #[.string (S (sumTo ss (szAt ss 0) zs k)), .nilIface]) ∧ Lat w w' :=
  (sum_go a n cap ss a2 k cap2 zs w h h2 hok hk).mono fun e w' hh => ⟨by rw [hh.1, sumRes, if_pos he], hh.2⟩
theorem sum_bad (a : Option Addr) (n cap : Nat) (ss : List ByteArray) (a2 : Option Addr) (k cap2 : Nat) (zs : List Int) (w : World) (h : StrsAt w a n cap ss) (h2 : IntsAt w a2 k cap2 zs) (hok : chk ss = 0) (hk : k ≠ 0) (he : ofErr n zs k ≠ 0) :
    Calls Tryd.prog 30 #[.slice a n cap, .slice a2 k cap2] w fun e w' => e = .returned (.tuple #[.string .empty, eno (ofErr n zs k)]) ∧ Lat w w' :=
  (sum_go a n cap ss a2 k cap2 zs w h h2 hok hk).mono fun e w' hh => ⟨by rw [hh.1, sumRes, if_neg he], hh.2⟩
end Go.Proofs.YtllnipmkoibagaaDoor
