/- The walk of DropAdds: it returns true, whatever the blocks and the seed. -/
import Derived.Test.YtllnipmkoibagaaDropCheck
import Derived.StillTailTactics
import Derived.Deep.RegionHeld3
import Derived.Deep.DeepCutAuto
import Derived.Deep.CutBlock
namespace Go.Proofs.Ytllnipmkoibagaa
open Go.ChangeShapes Go.WideShapes Go.ChangeAt Go.RowKit

set_option maxHeartbeats 2000000 in
set_option maxRecDepth 100000 in
theorem walk_dropAdds (a1 : Option Addr) (n c1 : Nat) (aa : List ByteArray) (a2 : Option Addr) (m c2 : Nat) (bb : List ByteArray) (seed : Int) (w : World) (h1 : StrsAt w a1 n c1 aa) (h2 : StrsAt w a2 m c2 bb)
    (_ : (Lit.int .i64 seed).wf = true) :
    Calls Try.prog 14 #[.slice a1 n c1, .slice a2 m c2, .int .i64 seed] w fun e w' => e = .returned (.bool true) ∧ Lat w w' := by
  have hl := h1.len
  have hl2 := h2.len
  have H1 := Lib.hid h1
  have H2 := Lib.hid h2
  have HL := Lib.hid hl
  have HL2 := Lib.hid hl2
  clear h1 h2 hl hl2
  by_cases hc : chk aa = 0
  case neg =>
    have HC := Lib.hid hc
    clear hc
    go_enter Try.func14, Try.ntmps14
    go_wp2_with fail
    refine (set_73 _).mono ?_
    rintro e w1 ⟨b, o, cp, rfl, cf, hb1⟩
    go_wp2_with fail
    refine (make_chk a1 n c1 aa seed _ (H1.out.keep hb1) HC.out).mono ?_
    rintro e w2 ⟨rfl, hb2⟩
    go_wp2
    go_ret
    exact ⟨rfl, Lat.trans (Lat.trans hb1 hb2) (Lat.alloc _ _)⟩
  have hok := chk_ok hc
  have hn16 : n ≤ 16 := by have := hok.most; have := HL.out; omega
  have hn1 : 1 ≤ n := by have := hok.pos; have := HL.out; omega
  have HC := Lib.hid hc
  have HOK := Lib.hid hok
  clear hc hok
  by_cases hs : seed < 1 ∨ 10000 < seed
  · have HS := Lib.hid hs
    clear hs
    go_enter Try.func14, Try.ntmps14
    go_wp2_with fail
    refine (set_73 _).mono ?_
    rintro e w1 ⟨b, o, cp, rfl, cf, hb1⟩
    go_wp2_with fail
    refine (make_seed a1 n c1 aa seed _ (H1.out.keep hb1) HC.out HS.out).mono ?_
    rintro e w2 ⟨rfl, hb2⟩
    go_wp2
    go_ret
    exact ⟨rfl, Lat.trans (Lat.trans hb1 hb2) (Lat.alloc _ _)⟩
  obtain ⟨s, rfl⟩ := Int.eq_ofNat_of_zero_le (show 0 ≤ seed by omega)
  have s1 : 1 ≤ s := by omega
  have s2 : s ≤ 10000 := by omega
  clear hs
  obtain ⟨RA, hRA⟩ : ∃ r, r = S (sumTo aa (szAt aa 0) (setZ n s) (setZ n s).length) := ⟨_, rfl⟩
  obtain ⟨Z, hZ⟩ : ∃ z, z = setZ n s := ⟨_, rfl⟩
  have hzl := setZ_length n s hn1 hn16 s2
  have hzb := setZ_lt n s hn1 s1
  have hzr := setZ_next n s
  have hzs : RA.size = szAt aa 0 := by
    rw [hRA, S_size]
    exact sumTo_length aa _ _ _ (fun j hj => HOK.out.all _ (by have := hzb _ (getD_mem _ j hj); rw [HL.out]; omega))
  rw [← hZ] at hRA hzl hzb hzr
  obtain ⟨L, hL⟩ : ∃ x, x = Z.length := ⟨_, rfl⟩
  rw [← hL] at hzl hzr
  obtain ⟨z1, z2⟩ := hzl
  have q1 := HOK.out.one
  have q8 := HOK.out.eight
  obtain ⟨M, hM⟩ : ∃ x, x = szAt aa 0 := ⟨_, rfl⟩
  rw [← hM] at q1 q8 hzs
  have HRA := Lib.hid hRA
  have HZ := Lib.hid hZ
  have HZL := Lib.hid hL
  have HZB := Lib.hid hzb
  have HZR := Lib.hid hzr
  have HZS := Lib.hid hzs
  have HM := Lib.hid hM
  clear hRA hZ hL hzb hzr hzs hM
  have d1 : ((L : Int) < 1) = False := by rw [eq_iff_iff]; exact ⟨fun h => by omega, False.elim⟩
  clear d1
  have d1 : decide ((L : Int) < 1) = false := decide_eq_false (by omega)
  have d2 : decide ((n : Int) < (L : Int)) = false := decide_eq_false (by omega)
  have d2' : decide (n < L) = false := decide_eq_false (by omega)
  go_enter Try.func14, Try.ntmps14
  go_wp2_with fail
  refine (set_73 _).mono ?_
  rintro e w1 ⟨b, o, cp, rfl, cf, hb1⟩
  go_wp2_with fail
  refine (make_ok a1 n c1 aa s _ (H1.out.keep hb1) HC.out s1 s2).mono ?_
  rw [← HZ.out, ← HRA.out]
  rintro e w2 ⟨rfl, hb2⟩
  go_wp2_with fail
  refine (set_ok n s _ hn1 hn16 s1 s2).mono ?_
  rw [← HZ.out, ← HZL.out]
  rintro e w3 ⟨az, cz, rfl, hatz, hb3⟩
  obtain ⟨g, hg⟩ : ∃ g, g = w2.heap.size := ⟨_, rfl⟩
  have k0 : w3.cell? ⟨g, 0, none⟩ = some (.int .i64 s) := by rw [hg]; exact hb3.cell_at (by simp)
  have k1 : w3.cell? ⟨g, 1, none⟩ = some (.string RA) := by rw [hg]; exact hb3.cell_at (by simp)
  rw [← hg]
  have hb123 := Lat.trans (Lat.trans (Lat.trans hb1 hb2) (Lat.alloc _ _)) hb3
  have A1 := Lib.hid (H1.out.keep hb123)
  have AZ := Lib.hid hatz
  clear hatz hg
  obtain ⟨ba, oa, rfl, hca⟩ := A1.out.row.at_ (by omega)
  have c0 := hca 0 (by omega)
  obtain ⟨s0, hs0⟩ : ∃ s0, s0 = aa.getD 0 ByteArray.empty := ⟨_, rfl⟩
  have c0 : w3.cell? ⟨ba, oa, none⟩ = some (.string s0) := by rw [hs0]; exact c0
  have hs0M : s0.size = M := by rw [hs0, HM.out]; rfl
  have HS0 := Lib.hid hs0
  have HS0M := Lib.hid hs0M
  clear hca hs0 hs0M
  have dp : 0 < n := by omega
  have dq : (1 : Int) ≤ (n : Int) := by omega
  go_upto_region 8 with fail
  go_cut [85] (fun t wx => t = .bool false ∧ Hid (Lat w3 wx))
  case first =>
    go_still_tail 28, (by kernel_rfl)
    change wpList _ _ _ _ _ w3.drew
    have hdr : Lat w3 w3.drew := Lat.drewN w3 1
    have HDR := Lib.hid hdr
    clear hdr
    generalize w3.drew = w4 at *
    go_wp2_with fail
    refine (dchk_ok n s0.size s RA _ (by omega) (by omega) (by rw [HS0M.out]; omega) (by rw [HS0M.out]; omega) (by omega) (by omega) (by rw [HZS.out, HS0M.out])).mono ?_
    rintro e w5 ⟨rfl, hb5⟩
    go_wp2
    go_meet
    case rel => exact ⟨rfl, Lat.trans HDR.out hb5⟩
  case rest =>
  obtain ⟨rfl, hc4⟩ := hcut
  have hb4 := Lat.trans hb123 hc4.out
  have HB4 := Lib.hid (Lat.trans hb3 hc4.out)
  have k0' : wc.cell? ⟨g, 0, none⟩ = some (.int .i64 s) := hc4.out.cell_at k0
  have k1' : wc.cell? ⟨g, 1, none⟩ = some (.string RA) := hc4.out.cell_at k1
  have AZ4 := Lib.hid (AZ.out.keep hc4.out)
  clear k0 k1 c0 hc4 AZ A1 cf d1 d2 d2'
  generalize wc = w4 at *
  go_upto_block 0 with fail
  go_cut [] (fun wx => Hid (Lat w4 wx))
  case first =>
    go_wp2_with fail
    go_loopw [13] (fun i wr => ∃ j : Nat, j ≤ L ∧ i = .int .i64 j ∧ Hid (Lat w4 wr)) (fun i _ => L - (intOf i).toNat)
    case atStart => exact ⟨0, Nat.zero_le _, rfl, Lat.refl _⟩
    case round =>
      obtain ⟨j, hj, rfl, hrel⟩ := hrel
      by_cases hlt : j < L
      · have hat := AZ4.out.keep hrel.out
        obtain ⟨bz, oz, rfl, hcz⟩ := hat.row.at_ (by omega)
        have cj := hcz j hlt
        have hm := HZB.out _ (getD_mem Z j (by rw [← HZL.out]; exact hlt))
        obtain ⟨z, hz⟩ : ∃ z, z = Z.getD j 0 := ⟨_, rfl⟩
        rw [← hz] at cj hm
        have e1 : decide (z < 0) = false := decide_eq_false (by omega)
        have e2 : decide ((n : Int) ≤ z) = false := decide_eq_false (by omega)
        have i1 : (j : Int) < (L : Int) := by omega
        have i2 : (0 : Int) ≤ (j : Int) := by omega
        by_cases hj0 : j = 0
        · subst hj0
          have cj : wr.cell? ⟨bz, oz, none⟩ = some (.int .i64 z) := cj
          have i5 : (0 : Int) < (L : Int) := by omega
          have i6 : 0 < L := by omega
          clear hcz hm hat hz i1 i2
          go_wp2_with fail
          go_quiet (fail)
          go_wp2
          go_roundw
          case rel => exact ⟨0 + 1, by omega, by go_num, Lat.trans hrel.out (Lat.drewN _ _)⟩
          case measure => simp [intOf]; omega
        · obtain ⟨i, rfl⟩ : ∃ i, j = i + 1 := ⟨j - 1, by omega⟩
          have ci := hcz i (by omega)
          have hr := HZR.out i hlt
          rw [← hz] at hr
          obtain ⟨y, hy⟩ : ∃ y, y = Z.getD i 0 := ⟨_, rfl⟩
          rw [← hy] at ci hr
          have e3 : decide (z ≤ y) = false := decide_eq_false (by omega)
          have e4 : decide ((0 : Int) < ((i + 1 : Nat) : Int)) = true := decide_eq_true (by omega)
          have e5 : decide ((0 : Int) < (i : Int) + 1) = true := decide_eq_true (by omega)
          have i3 : (i : Int) < (L : Int) := by omega
          have i4 : (0 : Int) ≤ (i : Int) := by omega
          have e6 : IntKind.i64.wrap ((i : Int) + 1 - 1) = (i : Int) := by rw [show (i : Int) + 1 - 1 = (i : Int) by omega]; exact IntWalk.i64_in _ (by omega)
          clear hcz hm hat hz hy hr
          go_wp2_with fail
          go_quiet (fail)
          go_wp2
          go_roundw
          case rel => exact ⟨i + 1 + 1, by omega, by go_num, Lat.trans hrel.out (Lat.drewN _ _)⟩
          case measure => simp [intOf]; omega
      · obtain rfl : j = L := by omega
        go_wp2
        go_meet
        case rel => exact hrel.out
  case rest =>
  have hc5 := hcut
  have hb5 := Lat.trans hb4 hc5.out
  have j0 : wc.cell? ⟨g, 0, none⟩ = some (.int .i64 s) := hc5.out.cell_at k0'
  have j1 : wc.cell? ⟨g, 1, none⟩ = some (.string RA) := hc5.out.cell_at k1'
  clear k0' k1' hc5 hcut AZ4 hb4 HB4
  have A1 := Lib.hid (H1.out.keep hb5)
  have A2 := Lib.hid (H2.out.keep hb5)
  generalize wc = w5 at *
  by_cases hbk : chk bb = 0
  case neg =>
    have HBK := Lib.hid hbk
    clear hbk
    go_wp2_with fail
    refine (make_chk a2 m c2 bb s _ A2.out HBK.out).mono ?_
    rintro e w6 ⟨rfl, hb6⟩
    go_wp2_with fail
    go_quiet (fail)
    go_wp2
    go_ret
    exact ⟨rfl, Lat.trans (Lat.trans (Lat.trans hb5 hb6) (Lat.alloc _ _)) (Lat.drewN _ _)⟩
  have hbok := chk_ok hbk
  have hm16 : m ≤ 16 := by have := hbok.most; have := HL2.out; omega
  have hm1 : 1 ≤ m := by have := hbok.pos; have := HL2.out; omega
  obtain ⟨RB, hRB⟩ : ∃ r, r = S (sumTo bb (szAt bb 0) (setZ m s) (setZ m s).length) := ⟨_, rfl⟩
  have HRB := Lib.hid hRB
  have HBK := Lib.hid hbk
  have HBOK := Lib.hid hbok
  clear hRB hbk hbok
  go_wp2_with fail
  refine (make_ok a2 m c2 bb s _ A2.out HBK.out s1 s2).mono ?_
  rw [← HRB.out]
  rintro e w6 ⟨rfl, hb6⟩
  obtain ⟨gy, hgy⟩ : ∃ g, g = w6.heap.size := ⟨_, rfl⟩
  obtain ⟨w7, hw7⟩ : ∃ x, x = w6.alloc (.cells #[.int .i64 s, .string RB] 58) := ⟨_, rfl⟩
  have hb67 : Lat w5 w7 := by rw [hw7]; exact Lat.trans hb6 (Lat.alloc _ _)
  have l1 : w7.cell? ⟨gy, 1, none⟩ = some (.string RB) := by rw [hgy, hw7]; simp
  have j1' : w7.cell? ⟨g, 1, none⟩ = some (.string RA) := hb67.cell_at j1
  have hb7 := Lat.trans hb5 hb67
  have B1 := Lib.hid (H1.out.keep hb7)
  have B2 := Lib.hid (H2.out.keep hb7)
  go_wp2_with fail
  rw [← hgy, ← hw7]
  clear hw7 hgy hb67 j0 j1 A1 A2 hb5
  by_cases hnm : n = m
  case neg =>
    have d1 : ((n : Int) != (m : Int)) = true := by rw [bne_iff_ne]; omega
    clear hnm
    go_quiet (fail)
    go_wp2
    go_ret
    exact ⟨rfl, Lat.trans hb7 (Lat.drewN _ _)⟩
  subst hnm
  obtain ⟨b1, o1, ha1, hc1⟩ := B1.out.row.at_ (by omega)
  obtain ⟨b2, o2, ha2, hc2⟩ := B2.out.row.at_ (by omega)
  subst ha2
  injection ha1 with ha1
  injection ha1 with ha1 ha2 _
  subst ha1
  subst ha2
  have x0 : w7.cell? ⟨ba, oa, none⟩ = some (.string (aa.getD 0 ByteArray.empty)) := hc1 0 (by omega)
  rw [← HS0.out] at x0
  have y0 : w7.cell? ⟨b2, o2, none⟩ = some (.string (bb.getD 0 ByteArray.empty)) := hc2 0 (by omega)
  obtain ⟨t0, ht0⟩ : ∃ t0, t0 = bb.getD 0 ByteArray.empty := ⟨_, rfl⟩
  rw [← ht0] at y0
  have ht0M : t0.size = szAt bb 0 := by rw [ht0]; rfl
  have HT0 := Lib.hid ht0M
  clear hc1 hc2 ht0 ht0M
  have dn : (0 : Int) < (n : Int) := by omega
  by_cases hsz : s0.size = t0.size
  case neg =>
    have d1 : ((s0.size : Int) != (t0.size : Int)) = true := by rw [bne_iff_ne]; omega
    clear hsz
    go_quiet (fail)
    go_wp2
    go_ret
    exact ⟨rfl, Lat.trans hb7 (Lat.drewN _ _)⟩
  have d1 : ((s0.size : Int) != (t0.size : Int)) = false := by rw [bne_eq_false_iff_eq]; omega
  have HSZ := Lib.hid hsz
  clear hsz
  go_quiet (fail)
  go_wp2_with fail
  have hdr : Lat w7 (w7.drewN nq) := Lat.drewN _ _
  have hb8 := Lat.trans hb7 hdr
  have j8 := hdr.cell_at j1'
  have l8 := hdr.cell_at l1
  have D1 := Lib.hid (B1.out.keep hdr)
  have D2 := Lib.hid (B2.out.keep hdr)
  clear hb7 hdr j1' l1 B1 B2 x0 y0 d1 dn
  generalize w7.drewN nq = w8 at *
  have hMM : ∀ j, j < n → szAt aa j = M ∧ szAt bb j = M := fun j hj => by
    have e1 := HOK.out.all j (by rw [HL.out]; exact hj)
    have e2 := HBOK.out.all j (by rw [HL2.out]; exact hj)
    have e3 := HM.out
    have e4 := HSZ.out
    have e5 := HT0.out
    have e6 := HS0M.out
    omega
  have HMM := Lib.hid hMM
  clear hMM
  go_loopw [15, 16] (fun v i wr => ∃ j : Nat, j ≤ n ∧ i = .int .i64 j ∧ Hid (OwnStrs wr w8.heap.size v (overAll aa bb j) ∧ Lat w8 wr)) (fun _ i _ => n - (intOf i).toNat)
  case atStart => exact ⟨0, Nat.zero_le _, rfl, Own.nil _ _ _, Lat.refl _⟩
  case round =>
    obtain ⟨j, hj, rfl, hrel⟩ := hrel
    by_cases hlt : j < n
    · have h1 := D1.out.keep hrel.out.2
      have h2 := D2.out.keep hrel.out.2
      obtain ⟨b1, o1, ha1, hc1⟩ := h1.row.at_ (by omega)
      obtain ⟨b3, o3, ha2, hc2⟩ := h2.row.at_ (by omega)
      injection ha1 with ha1
      injection ha1 with ha1 ha3 _
      subst ha1
      subst ha3
      injection ha2 with ha2
      injection ha2 with ha2 ha3 _
      subst ha2
      subst ha3
      have x1 := hc1 j hlt
      have y1 := hc2 j hlt
      have mm := HMM.out j hlt
      obtain ⟨x, hx⟩ : ∃ x, x = aa.getD j ByteArray.empty := ⟨_, rfl⟩
      obtain ⟨y, hy⟩ : ∃ y, y = bb.getD j ByteArray.empty := ⟨_, rfl⟩
      have hxs : x.size = M := by rw [← mm.1, hx]; rfl
      have hys : y.size = M := by rw [← mm.2, hy]; rfl
      have hst : overAll aa bb (j + 1) = overAll aa bb j ++ [S (xorL x.data.toList y.data.toList)] := by rw [overAll_succ, hx, hy]; rfl
      have hlen : (overAll aa bb j).length < 1000000000000 := by rw [overAll_length]; omega
      rw [← hx] at x1
      rw [← hy] at y1
      have i1 : (j : Int) < (n : Int) := by omega
      have i2 : (0 : Int) ≤ (j : Int) := by omega
      have HXS := Lib.hid hxs
      have HYS := Lib.hid hys
      have HST := Lib.hid hst
      have HLEN := Lib.hid hlen
      clear hx hy hxs hys mm hst hlen h1 h2 hc1 hc2
      have hxy : x.size = y.size := by rw [HXS.out, HYS.out]
      have hx120 : x.size ≤ 120 := by rw [HXS.out]; omega
      have HXY := Lib.hid hxy
      have HX := Lib.hid hx120
      clear hxy hx120
      go_upto_region 22 with fail
      go_cut [17, 18] (fun s e wx => s = .string (S (xorL x.data.toList y.data.toList)) ∧ e = .nilIface ∧ Hid (Lat wr wx))
      case first =>
        go_region_with (go_at_call 15; refine (xor_ok x y _ HX.out HXY.out).mono ?_; rintro e w9 ⟨rfl, hb9⟩)
        all_goals
          go_wp2_with fail
          simp only [Act.put, List.getElem_toArray, List.getElem_cons_succ, List.getElem_cons_zero]
          go_simp
          go_meet
          case rel => exact ⟨rfl, rfl, Lat.trans (Lat.drewN wr 1) hb9⟩
      case rest =>
        obtain ⟨rfl, rfl, hc9⟩ := hcut
        have hrel9 : OwnStrs wc w8.heap.size u15 (overAll aa bb j) ∧ Lat w8 wc := ⟨Own.keep hrel.out.1 hc9.out, Lat.trans hrel.out.2 hc9.out⟩
        have HREL9 := Lib.hid hrel9
        clear hrel9 hrel
        go_wp2_with (at_builtin; refine app_str wc w8 _ rfl _ _ rfl _ _ (S (xorL x.data.toList y.data.toList)) rfl HREL9.out.1 rfl HLEN.out rfl HREL9.out.2 ?_; intro v' w2' hown' hb' _)
        go_roundw
        case rel => exact ⟨j + 1, by omega, by go_num, by rw [HST.out]; exact hown', hb'⟩
        case measure => simp [intOf]; omega
    · obtain rfl : j = n := by omega
      have hoo := overAll_ok aa bb HOK.out HBOK.out (by rw [HL.out, HL2.out]) (by have := HM.out; have := HS0M.out; have := HSZ.out; have := HT0.out; omega)
      rw [HL.out] at hoo
      have hlc : (overAll aa bb j).length = j := overAll_length aa bb j
      have hcs := OwnStrs.slice hrel.out.1 (fun z hz => by
        obtain ⟨i, hi, e⟩ := List.getElem_of_mem hz
        have h1 := hoo.1.all i hi
        have h2 := hoo.1.eight
        have h3 : szAt (overAll aa bb j) i = z.size := by unfold szAt; rw [List.getD_eq_getElem?_getD, List.getElem?_eq_getElem hi]; simp [e]
        unfold maxLen; omega)
      rw [hlc] at hcs
      obtain ⟨a3, c3, rfl, hat3⟩ := hcs
      have j9 := hrel.out.2.cell_at j8
      have l9 := hrel.out.2.cell_at l8
      have hb9 := Lat.trans hb8 hrel.out.2
      have hzz := setZ_lt j s hn1 s1
      have hzl := HZL.out
      have hM0 : szAt (overAll aa bb j) 0 = M := by rw [hoo.2, ← HM.out]
      have hbM : szAt bb 0 = M := (HMM.out 0 (by omega)).2
      have hsl : ∀ q, q ≤ Z.length → (sumTo aa M Z q).length = M ∧ (sumTo bb M Z q).length = M := fun q hq =>
        ⟨sumTo_length aa M Z q (fun i hi => (HMM.out _ (by have := HZB.out _ (getD_mem Z i (by omega)); omega)).1),
         sumTo_length bb M Z q (fun i hi => (HMM.out _ (by have := HZB.out _ (getD_mem Z i (by omega)); omega)).2)⟩
      have hso := sumTo_over aa bb j M Z HZB.out Z.length (Nat.le_refl _)
      have eRA : RA = S (sumTo aa M Z Z.length) := by rw [HRA.out, ← HM.out]
      have eRB : RB = S (sumTo bb M Z Z.length) := by rw [HRB.out, ← HZ.out, hbM]
      have hRC : S (sumTo (overAll aa bb j) (szAt (overAll aa bb j) 0) (setZ j s) (setZ j s).length) = S (xorL RA.data.toList RB.data.toList) := by
        rw [← HZ.out, hM0, hso, eRA, eRB]
      have hra : RA.size ≤ 120 := by rw [HZS.out]; omega
      have hrb : RA.size = RB.size := by rw [eRA, eRB, S_size, S_size, (hsl _ (Nat.le_refl _)).1, (hsl _ (Nat.le_refl _)).2]
      obtain ⟨RC, hRC2⟩ : ∃ r, r = S (xorL RA.data.toList RB.data.toList) := ⟨_, rfl⟩
      have hck := chk_of hoo.1
      have HRC := Lib.hid hRC
      have HRC2 := Lib.hid hRC2
      have HRA2 := Lib.hid hra
      have HRB2 := Lib.hid hrb
      have HCK := Lib.hid hck
      clear hoo hlc hzz hzl hM0 hbM hsl hso eRA eRB hRC hRC2 hra hrb hck hrel j8 l8 hb8
      go_wp2_with fail
      refine (make_ok a3 j c3 (overAll aa bb j) s _ hat3 HCK.out s1 s2).mono ?_
      rw [HRC.out, ← HRC2.out]
      rintro e w10 ⟨rfl, hb10⟩
      have j10 : (w10.alloc (.cells #[.int .i64 s, .string RC] 58)).cell? ⟨g, 1, none⟩ = some (.string RA) := (Lat.trans hb10 (Lat.alloc _ _)).cell_at j9
      have l10 : (w10.alloc (.cells #[.int .i64 s, .string RC] 58)).cell? ⟨gy, 1, none⟩ = some (.string RB) := (Lat.trans hb10 (Lat.alloc _ _)).cell_at l9
      have m10 : (w10.alloc (.cells #[.int .i64 s, .string RC] 58)).cell? ⟨w10.heap.size, 1, none⟩ = some (.string RC) := by simp
      go_wp2_with fail
      have hx := xor_ok RA RB (w10.alloc (.cells #[.int .i64 s, .string RC] 58)) HRA2.out HRB2.out
      rw [show (⟨(xorL RA.data.toList RB.data.toList).toArray⟩ : ByteArray) = RC from HRC2.out.symm] at hx
      refine hx.mono ?_
      rintro e w11 ⟨rfl, hb11⟩
      clear hx
      have m11 : w11.cell? ⟨w10.heap.size, 1, none⟩ = some (.string RC) := hb11.cell_at m10
      go_wp2
      go_ret
      exact ⟨rfl, Lat.trans (Lat.trans hb9 (Lat.trans hb10 (Lat.alloc _ _))) hb11⟩
end Go.Proofs.Ytllnipmkoibagaa
