/- The contracts of package rice: fold, right, Low, Bits. -/
import Derived.Test.YtnnjijdpenifjaaDoorRiceDec
import Derived.Test.YtnnjijdpenifjaaDoorAppM
import Derived.Test.YtnnjijdpenifjaaDoorRepeat
import Derived.Test.YtnnjijdpenifjaaDoorAlone
import Derived.Test.YtnnjijdpenifjaaDoorBitsI
namespace Go.Proofs.YtnnjijdpenifjaaDoor
open Go.ChangeShapes Go.WideShapes Go.ChangeAt Go.RowKit

def lowB (n : Int) : Bool := decide (0 ≤ n ∧ n ≤ 7)
theorem rlow_any (n : Int) (w : World) :
    Calls Tryd.prog 74 #[.int .i64 n] w fun e w' => e = .returned (.bool (lowB n)) ∧ w = w' := by
  go_enter Tryd.func74, Tryd.ntmps74
  go_wp2
  all_goals
    go_ret
    exact ⟨bool_ret (by simp [lowB] <;> omega), rfl⟩
theorem fold_any (n : Int) (w : World) (h1 : -100000 ≤ n) (h2 : n ≤ 100000) :
    Calls Tryd.prog 94 #[.int .i64 n] w fun e w' => e = .returned (.int .i64 (fld n)) ∧ w = w' := by
  go_enter Tryd.func94, Tryd.ntmps94
  go_wp2
  all_goals
    go_ret
    exact ⟨int_ret (by unfold fld; split <;> omega), rfl⟩
theorem rightTest (zs : List Int) : TestI 93 (fun z => !restB z) zs := by
  intro z _ w
  go_enter Tryd.func93, Tryd.ntmps93
  go_wp2_with (go_at_call 64; refine (rest_any z _).mono ?_; rintro e w' ⟨rfl, rfl⟩)
  go_ret
  exact ⟨rfl, rfl⟩
def rgtB (zs : List Int) : Bool := !zs.any fun z => !restB z
theorem rgtB_yes {zs : List Int} (h : rgtB zs = true) : ∀ z ∈ zs, -255 ≤ z ∧ z ≤ 255 := by
  intro z hz
  simp only [rgtB, Bool.not_eq_true', List.any_eq_false] at h
  have := h z hz
  simpa [restB] using this
theorem rgtB_of {zs : List Int} (h : ∀ z ∈ zs, -255 ≤ z ∧ z ≤ 255) : rgtB zs = true := by
  simp only [rgtB, Bool.not_eq_true', List.any_eq_false]
  intro z hz
  have := h z hz
  simpa [restB] using this
theorem right_any (a : Option Addr) (n cap : Nat) (zs : List Int) (w : World) (h : IntsAt w a n cap zs) :
    Calls Tryd.prog 75 #[.slice a n cap] w fun e w' => e = .returned (.bool (rgtB zs)) ∧ w = w' := by
  have hc := containsFuncI 93 (enters_of Tryd.func93 (by kernel_rfl) rfl) (fun z => !restB z) a n cap zs w h (rightTest zs)
  obtain ⟨Y, hY⟩ : ∃ Y, Y = zs.any fun z => !restB z := ⟨_, rfl⟩
  have hr : rgtB zs = !Y := by rw [hY]; rfl
  rw [← hY] at hc
  rw [hr]
  have HC := Lib.hid hc
  clear hc h hY hr
  go_enter Tryd.func75, Tryd.ntmps75
  go_wp2_with fail
  refine HC.out.mono ?_
  rintro e w' ⟨rfl, rfl⟩
  go_wp2
  go_ret
  exact ⟨rfl, rfl⟩

theorem lowb_getD (n : Nat) : ∀ b i, i < b → (lowb n b).getD i 0 = ((n / 2 ^ (b - 1 - i) % 2 : Nat) : Int)
  | b + 1, 0, _ => by rw [lowb]; simp
  | b + 1, i + 1, h => by
    have e : b + 1 - 1 - (i + 1) = b - 1 - i := by omega
    rw [lowb, List.getD_cons_succ, lowb_getD n b i (by omega), e]
theorem ric1_len_le (N low : Nat) (hN : N ≤ 510) (hl : low ≤ 7) : (ric1 N low).length ≤ 518 := by
  have := Nat.div_le_self N (2 ^ low)
  rw [ric1_length]; omega
theorem ric_len (zs : List Int) (low : Nat) (hr : ∀ z ∈ zs, -255 ≤ z ∧ z ≤ 255) (hl : low ≤ 7) : ∀ k, (ric zs low k).length ≤ k * 518
  | 0 => Nat.zero_le _
  | k + 1 => by
    have ih := ric_len zs low hr hl k
    have hz : -255 ≤ zs.getD k 0 ∧ zs.getD k 0 ≤ 255 := by
      by_cases h : k < zs.length
      · exact hr _ (mem_getD zs k h)
      · rw [List.getD_eq_getElem?_getD, List.getElem?_eq_none (by omega)]; simp
    have h1 := fld_le _ hz.1 hz.2
    have h2 := ric1_len_le (fld (zs.getD k 0)).toNat low (by omega) hl
    rw [ric, List.length_append, Nat.succ_mul]; omega
set_option maxHeartbeats 2000000 in
theorem bits_any (a : Option Addr) (n cap : Nat) (zs : List Int) (low : Nat) (w : World) (h : IntsAt w a n cap zs) (hr : ∀ z ∈ zs, -255 ≤ z ∧ z ≤ 255) (hl : low ≤ 7) (hn : n ≤ 100000000) :
    Calls Tryd.prog 76 #[.slice a n cap, .int .i64 low] w fun e w' => ∃ v, e = .returned v ∧ OwnInts w' w.heap.size v (ric zs low n) ∧ Lat w w' := by
  have H := Lib.hid h
  have HR := Lib.hid hr
  have hcap2 := h.row.cap
  have hle2 := h.row.le
  unfold maxLen at hcap2
  clear h hr
  go_enter Tryd.func76, Tryd.ntmps76
  go_wp2_with fail
  go_loopw [5, 11] (fun v i wr => ∃ k : Nat, k ≤ n ∧ i = .int .i64 k ∧ Hid (OwnInts wr w.heap.size v (ric zs low k) ∧ Lat w wr)) (fun _ i _ => n - (intOf i).toNat)
  case atStart => exact ⟨0, Nat.zero_le _, rfl, Own.nil _ _ _, Lat.refl _⟩
  case round =>
    obtain ⟨k, hk, rfl, hrel⟩ := hrel
    by_cases hlt : k < n
    · obtain ⟨b1, o1, rfl, hc1⟩ := (H.out.keep hrel.out.2).row.at_ (by omega)
      have c1 := hc1 k hlt
      have hz := HR.out _ (mem_getD zs k (by rw [H.out.len]; exact hlt))
      obtain ⟨z, hzd⟩ : ∃ z, z = zs.getD k 0 := ⟨_, rfl⟩
      have hst : ric zs low (k + 1) = ric zs low k ++ ric1 (fld z).toNat low := by rw [ric, hzd]
      rw [← hzd] at c1 hz
      have f1 := fld_nonneg z
      have f2 := fld_le z hz.1 hz.2
      obtain ⟨N, hN⟩ := Int.eq_ofNat_of_zero_le f1
      have hN5 : N ≤ 510 := by omega
      rw [hN, Int.toNat_natCast] at hst
      have HN := Lib.hid hN
      clear hc1 hzd hN f1
      go_wp2_with fail
      refine (fold_any z _ (by omega) (by omega)).mono ?_
      rw [HN.out]
      rintro e w' ⟨rfl, rfl⟩
      have hdiv : (N : Int) / 2 ^ low = ((N / 2 ^ low : Nat) : Int) := by simp
      have hq : N / 2 ^ low ≤ 510 := Nat.le_trans (Nat.div_le_self _ _) hN5
      have hrp := repeat_any 1 (N / 2 ^ low) wr.heap.size 0 1 (wr.alloc (.cells #[.int .i64 1] 3)) (by simp) (by omega)
      rw [← hdiv] at hrp
      have HRP := Lib.hid hrp
      obtain ⟨q, hQ⟩ : ∃ q, q = N / 2 ^ low := ⟨_, rfl⟩
      have HQ := Lib.hid hQ
      have hlen1 : (ric zs low k).length < 100000000000 := by
        have := ric_len zs low (fun z hz => HR.out z hz) hl k
        omega
      obtain ⟨L1, hL1⟩ : ∃ L, L = ric zs low k := ⟨_, rfl⟩
      rw [← hL1] at hlen1 hst
      have hrl1 := hrel.out.1
      have hrl2 := hrel.out.2
      rw [← hL1] at hrl1
      have HRL1 := Lib.hid hrl1
      have HRL2 := Lib.hid hrl2
      have HST := Lib.hid hst
      have HLEN := Lib.hid hlen1
      clear hdiv hrp hlen1 hL1 hrl1 hrl2 hrel hst
      go_wp2_with fail
      refine HRP.out.mono ?_
      rw [← hQ]
      rw [← hQ] at hq
      clear hQ
      rintro e w1 ⟨g, rfl, hown1, hb1⟩
      have hl0 := Lat.alloc wr (.cells #[.int .i64 1] 3)
      have ho5 := Own.keep (Own.alloc HRL1.out (.cells #[.int .i64 1] 3)) hb1
      have hbw := Lat.trans HRL2.out (Lat.trans hl0 hb1)
      obtain ⟨ga, gc, hgv, hgat⟩ := OwnInts.sliceN hown1 (n := q) (fun z hz => by rw [List.eq_of_mem_replicate hz]; omega) List.length_replicate
      injection hgv with hg1 _ hg2
      subst hg1 hg2
      have HO5 := Lib.hid ho5
      have HBW := Lib.hid hbw
      have HGAT := Lib.hid hgat
      clear hown1 hb1 hl0 ho5 hbw hgat
      go_wp2_with (at_builtin; refine app_ints w1 w _ rfl _ _ rfl _ _ _ rfl HO5.out _ _ _ rfl HGAT.out (by have := HLEN.out; omega) rfl HBW.out ?_)
      intro v2 w2 hown2 hb2 _
      obtain ⟨L2, hL2⟩ : ∃ L, L = L1 ++ List.replicate q 1 := ⟨_, rfl⟩
      rw [← hL2] at hown2
      have hlen2 : L2.length < 200000000000 := by rw [hL2, List.length_append, List.length_replicate]; have := HLEN.out; omega
      have EL2 := Lib.hid hL2
      have HLEN2 := Lib.hid hlen2
      have HO2 := Lib.hid hown2
      have HB2 := Lib.hid hb2
      clear hown2 hb2 hL2 hlen2
      go_wp2_with (at_builtin; refine app_int w2 w _ rfl _ _ rfl _ _ _ rfl HO2.out rfl (by have := HLEN2.out; omega) rfl HB2.out ?_)
      intro v3 w3 hown3 hb3 _
      obtain ⟨L3, hL3⟩ : ∃ L, L = L2 ++ [0] := ⟨_, rfl⟩
      rw [← hL3] at hown3
      have hlen3 : L3.length < 300000000000 := by rw [hL3, List.length_append, List.length_singleton]; have := HLEN2.out; omega
      have EL3 := Lib.hid hL3
      have HLEN3 := Lib.hid hlen3
      have HO3 := Lib.hid hown3
      have HB3 := Lib.hid hb3
      clear hown3 hb3 hL3 hlen3
      go_wp2_with fail
      go_loopw [5, 8] (fun v b wx => ∃ r : Nat, r ≤ low ∧ b = .int .i64 ((r : Int) - 1) ∧ Hid (OwnInts wx w.heap.size v (L3 ++ (lowb N low).take (low - r)) ∧ Lat w wx)) (fun _ b _ => (intOf b + 1).toNat)
      case atStart => exact ⟨low, Nat.le_refl _, rfl, by rw [Nat.sub_self, List.take_zero, List.append_nil]; exact HO3.out, HB3.out⟩
      case round =>
        obtain ⟨r, hr, hb, hrl⟩ := hrel
        cases r with
        | zero =>
          have e : ((0 : Nat) : Int) - 1 = -1 := by omega
          rw [e] at hb
          subst hb
          clear e
          go_wp2
          go_roundw
          case rel => exact ⟨k + 1, by omega, by go_num, by
            have := hrl.out.1
            rw [Nat.sub_zero, List.take_of_length_le (by rw [lowb_length]; omega)] at this
            rw [HST.out, ric1, ← HQ.out, show List.replicate q (1 : Int) ++ 0 :: lowb N low = (List.replicate q 1 ++ [0]) ++ lowb N low by simp, ← List.append_assoc, ← List.append_assoc, ← EL2.out, ← EL3.out]
            exact this, hrl.out.2⟩
          case measure => simp [intOf]; omega
        | succ r =>
          have e : ((r + 1 : Nat) : Int) - 1 = (r : Int) := by omega
          rw [e] at hb
          subst hb
          clear e
          obtain ⟨D, hD⟩ : ∃ D : Nat, D = N / 2 ^ r := ⟨_, rfl⟩
          have hD1 : D ≤ 510 := by rw [hD]; exact Nat.le_trans (Nat.div_le_self _ _) hN5
          have hdv : (N : Int) / 2 ^ r = (D : Int) := by rw [hD]; simp
          have hbt := bits_and_one D (by omega)
          have hstp : (lowb N low).take (low - r) = (lowb N low).take (low - (r + 1)) ++ [((D % 2 : Nat) : Int)] := by
            have e1 : low - r = (low - (r + 1)) + 1 := by omega
            have e2 : low - 1 - (low - (r + 1)) = r := by omega
            rw [e1, take_snoc _ _ (by rw [lowb_length]; omega), lowb_getD N low _ (by omega), e2, ← hD]
          obtain ⟨L4, hL4⟩ : ∃ L, L = L3 ++ (lowb N low).take (low - (r + 1)) := ⟨_, rfl⟩
          have hlen4 : L4.length < 1000000000000 := by
            have := HLEN3.out
            rw [hL4, List.length_append, List.length_take, lowb_length]
            omega
          obtain ⟨hw1, hw2⟩ := hrl.out
          rw [← hL4] at hw1
          have HST3 := Lib.hid hstp
          have HLEN4 := Lib.hid hlen4
          have HBT := Lib.hid hbt
          have EL4 := Lib.hid hL4
          have HW1 := Lib.hid hw1
          have HW2 := Lib.hid hw2
          clear hbt hstp hlen4 hD hw1 hw2 hrl hL4
          go_wp2_with (at_builtin; refine app_int wr w _ rfl _ _ rfl _ _ _ rfl HW1.out rfl HLEN4.out rfl HW2.out ?_)
          intro v4 w4 hown4 hb4 _
          have HO4 := Lib.hid hown4
          have HB4 := Lib.hid hb4
          clear hown4 hb4
          go_wp2
          go_roundw
          case rel => exact ⟨r, by omega, rfl, by rw [HST3.out, ← List.append_assoc, ← EL4.out, ← HBT.out]; exact HO4.out, HB4.out⟩
          case measure => simp [intOf]
    · obtain rfl : k = n := by omega
      go_wp2
      go_ret
      exact ⟨_, rfl, hrel.out⟩
end Go.Proofs.YtnnjijdpenifjaaDoor
