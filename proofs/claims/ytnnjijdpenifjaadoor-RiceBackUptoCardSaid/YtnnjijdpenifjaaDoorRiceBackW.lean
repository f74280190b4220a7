/- The walk of RiceBack: it returns true, whatever it is asked, of up to a million numbers. -/
import Derived.Test.YtnnjijdpenifjaaDoorRiceGet
import Derived.Test.YtnnjijdpenifjaaDoorErrv
import Derived.Test.YtnnjijdpenifjaaDoorSame
import Derived.Test.YtnnjijdpenifjaaDoorUnlike
import Derived.Test.YtnnjijdpenifjaaDoorOpenPic
import Derived.Test.YtnnjijdpenifjaaDoorBulk
import Derived.Deep.DeepCutAuto
import Derived.Deep.CutBlock
namespace Go.Proofs.YtnnjijdpenifjaaDoor
open Go.ChangeShapes Go.WideShapes Go.ChangeAt Go.RowKit

theorem gotN_inv {low many : Nat} {zs vs : List Int} (h : gotN low many zs = some vs) : numbs low many zs = some (vs, []) := by
  unfold gotN at h
  cases hn : numbs low many zs with
  | none => rw [hn] at h; simp at h
  | some x =>
    obtain ⟨us, r⟩ := x
    rw [hn] at h
    cases r with
    | nil => simp at h; rw [h]
    | cons b t => simp at h
theorem getE_zero {low many : Int} {zs : List Int} (h : getE low many zs = 0) : ∃ l k : Nat, low = l ∧ many = k ∧ l ≤ 7 ∧ k ≤ 2000 ∧ zs.length ≤ 2000 ∧ (∀ z ∈ zs, z = 0 ∨ z = 1) ∧ numbs l k zs = some (getR low many zs, []) := by
  have h0 := h
  unfold getE at h
  split at h
  · omega
  rename_i h1
  split at h
  · omega
  rename_i h2
  split at h
  · omega
  rename_i h3
  split at h
  · omega
  rename_i h4
  have a1 : lowB low = true := by cases hq : lowB low <;> simp_all
  have a2 : bitsB zs = true := by cases hq : bitsB zs <;> simp_all
  simp only [lowB, decide_eq_true_eq] at a1
  have b1 : ¬ many < 0 := fun q => h1 (.inr (.inl q))
  have b2 : ¬ 2000 < many := fun q => h1 (.inr (.inr q))
  obtain ⟨l, rfl⟩ := Int.eq_ofNat_of_zero_le a1.1
  obtain ⟨k, rfl⟩ := Int.eq_ofNat_of_zero_le (show 0 ≤ many by omega)
  rw [Int.toNat_natCast, Int.toNat_natCast] at h4
  cases hg : gotN l k zs with
  | none => exact absurd hg h4
  | some vs =>
    refine ⟨l, k, rfl, rfl, by omega, by omega, by omega, bitsB_yes a2, ?_⟩
    unfold getR
    rw [if_pos h0, Int.toNat_natCast, Int.toNat_natCast, hg]
    exact gotN_inv hg
theorem getE_of {l k : Nat} {zs vs : List Int} (hl : l ≤ 7) (hk : k ≤ 2000) (hz : zs.length ≤ 2000) (hb : ∀ z ∈ zs, z = 0 ∨ z = 1) (hn : numbs l k zs = some (vs, [])) : getE l k zs = 0 ∧ getR l k zs = vs := by
  have hg : gotN l k zs = some vs := by unfold gotN; rw [hn]
  have h1 : lowB (l : Int) = true := decide_eq_true ⟨by omega, by omega⟩
  have e : getE l k zs = 0 := by
    unfold getE
    rw [if_neg (by rw [h1]; simp; omega), if_neg (by omega), if_neg (by rw [bitsB_of hb]; simp), Int.toNat_natCast, Int.toNat_natCast, if_neg (by rw [hg]; simp)]
  exact ⟨e, by unfold getR; rw [if_pos e, Int.toNat_natCast, Int.toNat_natCast, hg]; rfl⟩
theorem getE_two {l k : Nat} {zs : List Int} (hl : l ≤ 7) (hk : k ≤ 2000) (hz : zs.length ≤ 2000) (hb : ∀ z ∈ zs, z = 0 ∨ z = 1) (hn : numbs l k zs = none) : getE l k zs = 2 := by
  have hg : gotN l k zs = none := by unfold gotN; rw [hn]
  have h1 : lowB (l : Int) = true := decide_eq_true ⟨by omega, by omega⟩
  unfold getE
  rw [if_neg (by rw [h1]; simp; omega), if_neg (by omega), if_neg (by rw [bitsB_of hb]; simp), Int.toNat_natCast, Int.toNat_natCast, if_pos hg]
theorem putE_of {l : Nat} {zs : List Int} (hl : l ≤ 7) (hz : ∀ z ∈ zs, -255 ≤ z ∧ z ≤ 255) (hn : (ricL l zs).length ≤ 2000) : putE l zs = 0 ∧ putR l zs = ricL l zs := by
  have h1 : lowB (l : Int) = true := decide_eq_true ⟨by omega, by omega⟩
  have e : putE l zs = 0 := by
    unfold putE
    rw [if_neg (by rw [h1, rgtB_of hz]; simp), Int.toNat_natCast, if_neg (by omega)]
  exact ⟨e, by unfold putR; rw [if_pos e, Int.toNat_natCast]⟩
/-- Got, and put. -/
theorem put_of_got {low many : Int} {zs : List Int} (h : getE low many zs = 0) : putE low (getR low many zs) = 0 ∧ putR low (getR low many zs) = zs ∧ ((getR low many zs).length : Int) = many ∧ many ≤ 2000 := by
  obtain ⟨l, k, rfl, rfl, hl, hk, hz, hb, hn⟩ := getE_zero h
  obtain ⟨a1, a2, a3⟩ := numbs_inv l hb hn
  rw [List.append_nil] at a3
  obtain ⟨b1, b2⟩ := putE_of hl a2 (by rw [← a3]; exact hz)
  exact ⟨b1, by rw [b2, ← a3], by rw [a1], by omega⟩
/-- Put, and got. -/
theorem got_of_put {low : Int} {zs : List Int} (h : putE low zs = 0) : getE low zs.length (putR low zs) = 0 ∧ getR low zs.length (putR low zs) = zs := by
  obtain ⟨h1, h2, h3, h4⟩ := putE_zero h
  obtain ⟨l, rfl⟩ := Int.eq_ofNat_of_zero_le h1
  rw [Int.toNat_natCast] at h4
  obtain ⟨_, b2⟩ := putE_of (show l ≤ 7 by omega) h3 h4
  rw [b2]
  have := ricL_len_le l zs
  exact getE_of (by omega) (by omega) h4 (ricL_bit l zs) (by have := numbs_of l [] zs h3; rw [List.append_nil] at this; exact this)
theorem less_of_put {low : Int} {zs t : List Int} {x : Int} (h : putE low zs = 0) (ht : putR low zs = t ++ [x]) : getE low zs.length t = 2 := by
  obtain ⟨h1, h2, h3, h4⟩ := putE_zero h
  obtain ⟨l, rfl⟩ := Int.eq_ofNat_of_zero_le h1
  rw [Int.toNat_natCast] at h4
  obtain ⟨_, b2⟩ := putE_of (show l ≤ 7 by omega) h3 h4
  rw [b2] at ht
  have := ricL_len_le l zs
  have hlt : t.length ≤ 2000 := by rw [ht, List.length_append] at h4; omega
  exact getE_two (by omega) (by omega) hlt (fun z hz => ricL_bit l zs z (by rw [ht]; exact List.mem_append_left _ hz)) (numbs_less l zs t x h3 ht)
theorem best_of_put {low : Int} {zs : List Int} (h : putE low zs = 0) : bslE zs = 0 ∧ putE (bslV zs) zs = 0 ∧ (putR (bslV zs) zs).length ≤ (putR low zs).length := by
  obtain ⟨h1, h2, h3, h4⟩ := putE_zero h
  obtain ⟨l, rfl⟩ := Int.eq_ofNat_of_zero_le h1
  rw [Int.toNat_natCast] at h4
  obtain ⟨_, b2⟩ := putE_of (show l ≤ 7 by omega) h3 h4
  rcases bst_LR (bslF zs) 8 with ⟨_, _, c3⟩ | ⟨c1, c2, _, c4, c5, c6⟩
  · have := c3 l (by omega)
    unfold bslF at this
    omega
  · have e : bslE zs = 0 := by
      unfold bslE
      rw [if_neg (by rw [rgtB_of h3]; simp), if_neg (by omega)]
    have ev : bslV zs = (bstL (bslF zs) 8).1 := by unfold bslV; rw [if_pos e]
    obtain ⟨j, hj⟩ := Int.eq_ofNat_of_zero_le c1
    rw [hj, Int.toNat_natCast] at c4
    have hj8 : j ≤ 7 := by omega
    have hf : bslF zs j = (ricL j zs).length := rfl
    obtain ⟨d1, d2⟩ := putE_of hj8 h3 (by rw [← hf]; omega)
    have hlow := c6 l (by omega)
    have hfl : bslF zs l = (ricL l zs).length := rfl
    rw [ev, hj]
    exact ⟨e, d1, by rw [d2, b2, ← hf, ← hfl]; omega⟩
theorem fact_put : putE 1 [0, -1, 2] = 0 ∧ putR 1 [0, -1, 2] = [0, 0, 0, 1, 1, 1, 0, 0] := by decide +kernel
theorem ints_take {w : World} {a : Option Addr} {n cap : Nat} {zs : List Int} (h : IntsAt w a n cap zs) {m : Nat} (hm : m ≤ n) : IntsAt w a m cap (zs.take m) :=
  ⟨by rw [List.length_take, h.len]; omega, ⟨Nat.le_trans hm h.row.le, h.row.cap, fun hn => by
    obtain ⟨b, o, ha, hc⟩ := h.row.at_ (by omega)
    exact ⟨b, o, ha, fun j hj => by rw [hc j (by omega)]; simp [List.getD, hj]⟩⟩, fun z hz => h.wf z (List.mem_of_mem_take hz)⟩

set_option maxHeartbeats 600000 in
set_option maxRecDepth 100000 in
theorem walk_riceBack (a0 : Option Addr) (n0 c0 : Nat) (z0 : List Int) (low : Int) (a2 : Option Addr) (n2 c2 : Nat) (z2 : List Int) (many : Int) (w : World) (hg : Hnd w)
    (h0 : IntsAt w a0 n0 c0 z0) (_ : (Lit.int .i64 low).wf = true) (h2 : IntsAt w a2 n2 c2 z2) (_ : (Lit.int .i64 many).wf = true) (bk0 : n0 ≤ 1048576) (_ : n2 ≤ 1048576) :
    Calls Tryd.prog 8 #[.slice a0 n0 c0, .int .i64 low, .slice a2 n2 c2, .int .i64 many] w fun e w' => e = .returned (.bool true) ∧ Lat w w' := by
  have hl0 := h0.len
  have k0 := put_tot (some ⟨w.heap.size, 0, none⟩) 3 3 [0, -1, 2] 1 (w.alloc (.cells #[.int .i64 0, .int .i64 (-1), .int .i64 2] 3)) (ints_new w [0, -1, 2] 3 (by simp) (by simp)) (by omega)
  rw [fact_put.1, fact_put.2, errv_zero rfl] at k0
  have k1 : ∀ W, Lat w W → _ := fun W hW => get_tot a2 n2 c2 z2 low many W (h2.keep hW)
  have k2 : ∀ W, Lat w W → _ := fun W hW => put_tot a0 n0 c0 z0 low W (h0.keep hW) (by omega)
  have k3 : ∀ W, Lat w W → _ := fun W hW => rbest_tot a0 n0 c0 z0 W (h0.keep hW) (by omega)
  have k4 : ∀ W, Lat w W → _ := fun W hW => put_tot a0 n0 c0 z0 (bslV z0) W (h0.keep hW) (by omega)
  have p1 : getE low many z2 = 0 → _ := put_of_got (low := low) (many := many) (zs := z2)
  have p2 : putE low z0 = 0 → _ := got_of_put (low := low) (zs := z0)
  have p3 : putE low z0 = 0 → _ := best_of_put (low := low) (zs := z0)
  have p4 : ∀ t x, putE low z0 = 0 → putR low z0 = t ++ [x] → _ := fun t x => less_of_put (low := low) (zs := z0) (t := t) (x := x)
  rw [hl0] at p2 p4
  obtain ⟨E1, hE1⟩ : ∃ E, E = getE low many z2 := ⟨_, rfl⟩
  obtain ⟨R1, hR1⟩ : ∃ E, E = getR low many z2 := ⟨_, rfl⟩
  obtain ⟨E2, hE2⟩ : ∃ E, E = putE low z0 := ⟨_, rfl⟩
  obtain ⟨R2, hR2⟩ : ∃ E, E = putR low z0 := ⟨_, rfl⟩
  obtain ⟨V3, hV3⟩ : ∃ E, E = bslV z0 := ⟨_, rfl⟩
  obtain ⟨R4, hR4⟩ : ∃ E, E = putR V3 z0 := ⟨_, rfl⟩
  simp only [← hE1, ← hR1, ← hE2, ← hR2, ← hV3, ← hR4] at k1 k2 k3 k4 p1 p2 p3 p4
  have K0 := Lib.hid k0
  have K1 := Lib.hid k1
  have K2 := Lib.hid k2
  have K3 := Lib.hid k3
  have K4 := Lib.hid k4
  have P1 := Lib.hid p1
  have P2 := Lib.hid p2
  have P3 := Lib.hid p3
  have P4 := Lib.hid p4
  have H0 := Lib.hid h0
  have H2 := Lib.hid h2
  have HG := Lib.hid hg
  clear h0 h2 hg k0 k1 k2 k3 k4 p1 p2 p3 p4 hE1 hR1 hE2 hR2 hV3 hR4 hl0
  go_enter Tryd.func8, Tryd.ntmps8
  go_wp2_with fail
  refine K0.out.mono ?_
  rintro e w1 ⟨b, m, c, rfl, hm, hat, hb1⟩
  obtain rfl : m = 8 := hm
  obtain ⟨fb, fo, rfl, hc⟩ := hat.row.at_ (by omega)
  have c0 : w1.cell? ⟨fb, fo, none⟩ = some (.int .i64 0) := hc 0 (by omega)
  have c3 : w1.cell? ⟨fb, fo + 3, none⟩ = some (.int .i64 1) := hc 3 (by omega)
  have c4 : w1.cell? ⟨fb, fo + 4, none⟩ = some (.int .i64 1) := hc 4 (by omega)
  have c7 : w1.cell? ⟨fb, fo + 7, none⟩ = some (.int .i64 0) := hc 7 (by omega)
  have HL1 := Lib.hid (Lat.trans (Lat.alloc w _) hb1)
  clear hc hat hb1 K0
  go_wp2_with fail
  refine (K1.out _ HL1.out).mono ?_
  rintro e w2 ⟨b2, m2, cc2, rfl, hat2, hb2⟩
  have HAT2 := Lib.hid hat2
  have HL2 := Lib.hid (Lat.trans HL1.out hb2)
  clear hat2 hb2 HL1 c0 c3 c4 c7 K1
  have heq := errv_eql E1
  have hgd := fun op a => errv_guard op a E1
  obtain ⟨T1, hT1⟩ : ∃ T, T = decide (E1 = 0) := ⟨_, rfl⟩
  rw [← hT1] at heq
  have HT1 := Lib.hid hT1
  clear hT1
  go_upto_if 66 with fail
  go_cut [66] (fun _ wx => Hid (Lat w wx))
  case first =>
    cases T1 with
    | false =>
      go_wp2_with fail
      go_meet
      case rel => exact HL2.out
    | true =>
    have he : E1 = 0 := of_decide_eq_true HT1.out.symm
    obtain ⟨q1, q2, q3, q4⟩ := P1.out he
    have hm2 := HAT2.out.len
    have kp := put_tot b2 m2 cc2 R1 low w2 HAT2.out (by omega)
    rw [q1, q2, errv_zero rfl] at kp
    have d1 : ((m2 : Int) != many) = false := by rw [bne_eq_false_iff_eq]; omega
    have KP := Lib.hid kp
    have HS := Lib.hid (show sameI z2 z2 = true from decide_eq_true rfl)
    clear he q1 q2 q3 q4 hm2 kp
    go_wp2_with fail
    refine KP.out.mono ?_
    rintro e w3 ⟨b3, m3, c3, rfl, hm3, hat3, hb3⟩
    have HAT3 := Lib.hid hat3
    have HL3 := Lib.hid (Lat.trans HL2.out hb3)
    clear hat3 hb3 hm3
    go_wp2_with fail
    refine (sameInts_any b3 m3 c3 z2 a2 n2 c2 z2 _ HAT3.out (H2.out.keep HL3.out)).mono ?_
    rw [HS.out]
    rintro e w4 ⟨rfl, hb4⟩
    have HL4 := Lib.hid (Lat.trans HL3.out hb4)
    clear hb4
    go_wp2_with fail
    go_meet
    case rel => exact HL4.out
  case rest =>
  have HL3 := Lib.hid hcut.out
  clear hcut HAT2 HL2 P1 heq hgd
  generalize wc = w3 at *
  go_wp2_with fail
  refine (K2.out _ HL3.out).mono ?_
  rintro e w4 ⟨b4, m4, c4, rfl, hm4, hat4, hb4⟩
  have HAT4 := Lib.hid hat4
  have HM4 := Lib.hid hm4
  have HL4 := Lib.hid (Lat.trans HL3.out hb4)
  clear hat4 hb4 hm4 HL3 K2
  have hneq := errv_neq E2
  have hgd := fun op a => errv_guard op a E2
  obtain ⟨T2, hT2⟩ : ∃ T, T = decide (E2 ≠ 0) := ⟨_, rfl⟩
  rw [← hT2] at hneq
  have HT2 := Lib.hid hT2
  clear hT2
  cases T2 with
  | true =>
    go_wp2_with fail
    go_ret
    exact ⟨rfl, HL4.out⟩
  | false =>
  have he : E2 = 0 := by have := of_decide_eq_false HT2.out.symm; omega
  obtain ⟨q1, q2⟩ := P2.out he
  obtain ⟨q3, q4, q5⟩ := P3.out he
  have kg := get_tot b4 m4 c4 R2 low n0 w4 HAT4.out
  rw [q1, q2, errv_zero rfl] at kg
  have k3 := fun W hW => K3.out W hW
  have k4 := fun W hW => K4.out W hW
  rw [q3, errv_zero rfl] at k3
  rw [q4, errv_zero rfl] at k4
  have KG := Lib.hid kg
  have K3' := Lib.hid k3
  have K4' := Lib.hid k4
  have Q5 := Lib.hid q5
  have HE := Lib.hid he
  clear he q1 q2 q3 q4 q5 kg k3 k4 K3 K4 P2 P3
  have HS := Lib.hid (show sameI z0 z0 = true from decide_eq_true rfl)
  go_wp2_with fail
  refine KG.out.mono ?_
  rintro e w5 ⟨b5, m5, c5, rfl, hat5, hb5⟩
  have HAT5 := Lib.hid hat5
  have HAT45 := Lib.hid (HAT4.out.keep hb5)
  have HL5 := Lib.hid (Lat.trans HL4.out hb5)
  clear hat5 hb5 HAT4 HL4 KG
  go_wp2_with fail
  refine (sameInts_any b5 m5 c5 z0 a0 n0 c0 z0 _ HAT5.out (H0.out.keep HL5.out)).mono ?_
  rw [HS.out]
  rintro e w6 ⟨rfl, hb6⟩
  have HAT46 := Lib.hid (HAT45.out.keep hb6)
  have HL6 := Lib.hid (Lat.trans HL5.out hb6)
  clear hb6 HAT45 HL5 HAT5 HS
  go_wp2_with fail
  refine (K3'.out _ HL6.out).mono ?_
  rintro e w7 ⟨rfl, hb7⟩
  have HAT47 := Lib.hid (HAT46.out.keep hb7)
  have HL7 := Lib.hid (Lat.trans HL6.out hb7)
  clear hb7 HAT46 HL6 K3'
  go_wp2_with fail
  refine (K4'.out _ HL7.out).mono ?_
  rintro e w8 ⟨b8, m8, c8, rfl, hm8, hat8, hb8⟩
  have hle : decide (m4 < m8) = false := decide_eq_false (by have := Q5.out; have := HM4.out; omega)
  have HAT48 := Lib.hid (HAT47.out.keep hb8)
  have HL8 := Lib.hid (Lat.trans HL7.out hb8)
  clear hm8 hat8 hb8 HAT47 HL7 K4' Q5
  cases m4 with
  | zero =>
    go_wp2_with fail
    go_ret
    exact ⟨rfl, HL8.out⟩
  | succ m =>
    have hcap := HAT48.out.row.cap
    have hlc := HAT48.out.row.le
    unfold maxLen at hcap
    have ht := ints_take HAT48.out (show m ≤ m + 1 by omega)
    have h2m : getE low n0 (R2.take m) = 2 := P4.out _ (R2.getD m 0) HE.out (by
      have := take_snoc R2 m (by rw [← HM4.out]; omega)
      rw [← this, List.take_of_length_le (by rw [← HM4.out]; omega)])
    have kl := get_tot b4 m c4 (R2.take m) low n0 w8 ht
    rw [h2m, errv_pos (show (2 : Nat) ≠ 0 by omega)] at kl
    have KL := Lib.hid kl
    have hle2 : decide ((m : Int) + 1 < (m8 : Int)) = false := decide_eq_false (by have := of_decide_eq_false hle; omega)
    clear ht h2m kl HAT48
    go_wp2_with fail
    refine KL.out.mono ?_
    rintro e w9 ⟨b9, m9, c9, rfl, _, hb9⟩
    have HL9 := Lib.hid (Lat.trans HL8.out hb9)
    clear hb9
    have hs := sameErr_any 2 w9 (HG.out.keep HL9.out)
    rw [errv_pos (show (2 : Nat) ≠ 0 by omega)] at hs
    have HS := Lib.hid hs
    clear hs
    go_wp2_with fail
    refine HS.out.mono ?_
    rintro e w10 ⟨rfl, hb10⟩
    go_wp2_with fail
    go_ret
    exact ⟨rfl, Lat.trans HL9.out hb10⟩
end Go.Proofs.YtnnjijdpenifjaaDoor
