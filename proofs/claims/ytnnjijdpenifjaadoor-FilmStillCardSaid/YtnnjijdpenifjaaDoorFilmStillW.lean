/- The walk of FilmStill: it returns true, whatever it is asked. -/
import Derived.Test.YtnnjijdpenifjaaDoorFilmEnc
import Derived.Test.YtnnjijdpenifjaaDoorFilmLaw
import Derived.Test.YtnnjijdpenifjaaDoorSame
import Derived.Test.YtnnjijdpenifjaaDoorPic
namespace Go.Proofs.YtnnjijdpenifjaaDoor
open Go.ChangeShapes Go.WideShapes Go.ChangeAt Go.RowKit

set_option maxHeartbeats 4000000 in
set_option maxRecDepth 100000 in
theorem walk_filmStill (d0 g0 : Int) (a0 : Option Addr) (n0 c0 : Nat) (z0 : List Int) (m ev : Int) (w : World) (hg : Hnd w) (h0 : PicAt w d0 g0 a0 n0 c0 z0) (_ : (Lit.int .i64 m).wf = true) (_ : (Lit.int .i64 ev).wf = true) :
    Calls Tryd.prog 9 #[picV d0 g0 a0 n0 c0, .int .i64 m, .int .i64 ev] w fun e w' => e = .returned (.bool true) ∧ Lat w w' := by
  obtain ⟨W0, hW0⟩ : ∃ W, W = w.alloc (.cells #[.int .i64 d0, .int .i64 g0, .slice a0 n0 c0] 24) := ⟨_, rfl⟩
  have hl0 : Lat w W0 := by rw [hW0]; exact Lat.alloc _ _
  have hp : Cells3 W0 w.heap.size 0 (.int .i64 d0) (.int .i64 g0) (.slice a0 n0 c0) := by rw [hW0]; exact cells3_new rfl rfl rfl rfl
  have H0 := Lib.hid h0
  have HP := Lib.hid hp
  have HL0 := Lib.hid hl0
  have HG := Lib.hid hg
  obtain ⟨C, hC⟩ : ∃ C, C = chkPic d0 g0 z0 := ⟨_, rfl⟩
  have hck := fun W (hW : Lat w W) => pchk_any d0 g0 a0 n0 c0 z0 W (h0.pix.keep hW)
  rw [← hC] at hck
  have HCK := Lib.hid hck
  have HC := Lib.hid hC
  have p0 := hp.c0
  have p1 := hp.c1
  have p2 := hp.c2
  have hd : (decide (m < 1) = true ∨ (decide (m < 1) = false ∧ decide (6 < m) = true) ∨ (decide (m < 1) = false ∧ decide (6 < m) = false ∧ C ≠ 0)) ∨ (decide (m < 1) = false ∧ decide (6 < m) = false ∧ C = 0) := by
    by_cases q1 : m < 1
    · exact .inl (.inl (decide_eq_true q1))
    by_cases q2 : 6 < m
    · exact .inl (.inr (.inl ⟨decide_eq_false q1, decide_eq_true q2⟩))
    by_cases q3 : C = 0
    · exact .inr ⟨decide_eq_false q1, decide_eq_false q2, q3⟩
    · exact .inl (.inr (.inr ⟨decide_eq_false q1, decide_eq_false q2, q3⟩))
  have HD := Lib.hid hd
  clear hl0 hp hg hC hck hd h0
  go_enter Tryd.func9, Tryd.ntmps9
  go_upto_region 1 with fail
  rw [← hW0]
  clear hW0
  have hnil := fun W => fencode_any none 0 0 [] 1 1 W (PicsAt.nil W)
  have hne : fenE (([] : List Pc).map Pc.pt) 1 1 = 5 := by decide
  rw [hne, show errv 5 = eno 5 from errv_pos (by omega)] at hnil
  have HN := Lib.hid hnil
  clear hnil hne
  rcases HD.out with (d1 | ⟨d1, d2⟩ | ⟨d1, d2, hC0⟩) | ⟨d1, d2, hC0⟩
  · go_wp2_with fail
    refine (HN.out _).mono ?_
    rintro e w1 ⟨va, vc, cs, rfl, _, _, hb1⟩
    have HB1 := Lib.hid (Lat.trans HL0.out hb1)
    clear hb1 p0 p1 p2
    go_wp2_with fail
    refine (sameErr_eno 5 _ (HG.out.keep HB1.out)).mono ?_
    rintro e w2 ⟨rfl, hb2⟩
    go_wp2_with fail
    go_ret
    exact ⟨rfl, Lat.trans HB1.out hb2⟩
  · go_wp2_with fail
    refine (HN.out _).mono ?_
    rintro e w1 ⟨va, vc, cs, rfl, _, _, hb1⟩
    have HB1 := Lib.hid (Lat.trans HL0.out hb1)
    clear hb1 p0 p1 p2
    go_wp2_with fail
    refine (sameErr_eno 5 _ (HG.out.keep HB1.out)).mono ?_
    rintro e w2 ⟨rfl, hb2⟩
    go_wp2_with fail
    go_ret
    exact ⟨rfl, Lat.trans HB1.out hb2⟩
  · have HC0 := Lib.hid hC0
    clear hC0
    go_wp2_with fail
    refine (HCK.out _ HL0.out).mono ?_
    rw [errv_pos HC0.out]
    rintro e w1 ⟨rfl, hb1⟩
    have HB1 := Lib.hid (Lat.trans HL0.out hb1)
    clear hb1 p0 p1 p2
    go_wp2_with fail
    refine (HN.out _).mono ?_
    rintro e w2 ⟨va, vc, cs, rfl, _, _, hb2⟩
    have HB2 := Lib.hid (Lat.trans HB1.out hb2)
    clear hb2
    go_wp2_with fail
    refine (sameErr_eno 5 _ (HG.out.keep HB2.out)).mono ?_
    rintro e w3 ⟨rfl, hb3⟩
    go_wp2_with fail
    go_ret
    exact ⟨rfl, Lat.trans HB2.out hb3⟩
  have hmb : 1 ≤ m ∧ m ≤ 6 := ⟨by have := of_decide_eq_false d1; omega, by have := of_decide_eq_false d2; omega⟩
  obtain ⟨n, rfl⟩ := Int.eq_ofNat_of_zero_le (show 0 ≤ m by omega)
  have hn1 : 1 ≤ n := by omega
  have hn6 : n ≤ 6 := by omega
  subst hC0
  have hok := chkPic_ok HC.out.symm
  have HOK := Lib.hid hok
  clear hok hmb HD
  go_wp2_with fail
  refine (HCK.out _ HL0.out).mono ?_
  rw [errv_zero rfl]
  rintro e w1 ⟨rfl, hb1⟩
  have HB1 := Lib.hid (Lat.trans HL0.out hb1)
  have x0 := hb1.cell_at p0
  have x1 := hb1.cell_at p1
  have x2 := hb1.cell_at p2
  clear hb1 p0 p1 p2 HN
  obtain ⟨P, hP⟩ : ∃ P : Pc, P = ⟨d0, g0, a0, n0, c0, z0⟩ := ⟨_, rfl⟩
  have hrow : P.row = [.int .i64 d0, .int .i64 g0, .slice a0 n0 c0] := by rw [hP]; rfl
  have HPP := Lib.hid hP
  have HROW := Lib.hid hrow
  clear hP hrow
  go_wp2_with fail
  go_loopw [9, 10] (fun v i wr => ∃ j : Nat, j ≤ n ∧ i = .int .i64 j ∧ Hid (OwnR wr w1.heap.size 24 3 v ((List.replicate j P).map Pc.row) ∧ Lat w1 wr)) (fun _ i _ => n - (intOf i).toNat)
  case atStart => exact ⟨0, Nat.zero_le _, rfl, OwnR.nil _ _ _ _, Lat.refl _⟩
  case round =>
    obtain ⟨j, hj, rfl, hrel⟩ := hrel
    have HO := Lib.hid hrel.out.1
    have HLw := Lib.hid hrel.out.2
    clear hrel
    by_cases hlt : j < n
    · have y0 := HLw.out.cell_at x0
      have y1 := HLw.out.cell_at x1
      have y2 := HLw.out.cell_at x2
      clear x0 x1 x2
      go_wp2_with (at_builtin; refine appR wr w1.heap.size rfl _ _ 77 rfl 24 _ 3 40 Tryd.underlying77 info_Picture rfl (by decide) (by decide) _ _ _ (by rfl) HO.out rfl (by rfl) (fun u hu => by simp at hu; rcases hu with rfl | rfl | rfl <;> rfl) (by rw [List.length_map, List.length_replicate]; omega) HLw.out.size ?_)
      intro v' w2 hown2 hb2 hstep2
      have ho2 : OwnR w2 w1.heap.size 24 3 v' ((List.replicate (j + 1) P).map Pc.row) := by
        rw [← HROW.out] at hown2
        rw [List.map_replicate]
        rw [List.replicate_succ']; exact hown2
      have HO2 := Lib.hid ho2
      have HB2 := Lib.hid (Below.trans HLw.out hb2)
      clear hown2 hb2 hstep2 ho2 y0 y1 y2
      go_wp2_with fail
      go_roundw
      case rel => exact ⟨j + 1, hlt, by go_num, HO2.out, HB2.out⟩
      case measure => simp [intOf]; omega
    · obtain rfl : n = j := by omega
      have HB := Lib.hid (Lat.trans HB1.out HLw.out)
      obtain ⟨va, vc, hv, hat⟩ := HO.out.slice (n := n) (by simp)
      have hps : PicsAt wr va n vc (List.replicate n P) := PicsAt.ofRows hat (fun p hp => by
        rw [List.eq_of_mem_replicate hp, HPP.out]; exact H0.out.keep HB.out)
      have hcall := fencode_any va n vc (List.replicate n P) ev 1 wr hps
      have hpt : (List.replicate n P).map Pc.pt = List.replicate n ⟨d0, g0, z0⟩ := by rw [List.map_replicate, HPP.out]; rfl
      rw [hpt] at hcall
      obtain ⟨E, hE⟩ : ∃ E, E = fenE (List.replicate n ⟨d0, g0, z0⟩) ev 1 := ⟨_, rfl⟩
      rw [← hE] at hcall
      have HE := Lib.hid hE
      have HCL := Lib.hid hcall
      have HV := Lib.hid hv
      subst hv
      clear hE hcall hps hat hpt x0 x1 x2 HO HCK
      go_wp2_with fail
      refine HCL.out.mono ?_
      rintro e w2 ⟨xa, xc, cs, rfl, hcs, hct, hb2⟩
      have HBB := Lib.hid (Lat.trans HB.out hb2)
      have HCS := Lib.hid hcs
      have HCT := Lib.hid hct
      clear hcs hct hb2
      have hE2 : E = if evB ev = false then 1 else 0 := by rw [HE.out]; exact fen_same (P := ⟨d0, g0, z0⟩) HC.out.symm hn1 hn6 ev
      by_cases hev : evB ev = false
      · rw [if_pos hev] at hE2
        have hev2 : decide (ev < 1) = true ∨ (decide (ev < 1) = false ∧ decide (6 < ev) = true) := by
          have := of_decide_eq_false hev
          by_cases q : ev < 1
          · exact .inl (decide_eq_true q)
          · exact .inr ⟨decide_eq_false q, decide_eq_true (by omega)⟩
        rw [hE2, show errv 1 = eno 1 from errv_pos (by omega)]
        clear hE2 hev
        rcases hev2 with q1 | ⟨q1, q2⟩
        all_goals
          go_wp2_with fail
          go_ret
          exact ⟨rfl, HBB.out⟩
      · rw [if_neg hev] at hE2
        subst hE2
        have hfok := fenE_ok HE.out.symm
        have hst := film_still hfok hn1
        have hct2 : cs.map Cd.c = (sht (List.replicate n ⟨d0, g0, z0⟩) ev 1 n).1 := by
          rw [HCT.out]; unfold fenL; rw [if_pos HE.out.symm, List.length_replicate]
        have hlen : cs.length = n := by have := congrArg List.length hct2; rw [List.length_map, sht_len] at this; exact this
        have hall : ∀ i, i < n → (cs.getD i default).c.al = decide ((i : Int) % ev = 0) ∧ ((i : Int) % ev ≠ 0 → (cs.getD i default).c.rs = List.replicate z0.length 0) := fun i hi => by
          rw [← cts_getD (by omega), hct2]; exact hst i hi
        rw [hlen] at HCS ⊢
        rw [errv_zero rfl]
        obtain ⟨b, o, rfl, hbw, hcc⟩ := cods_at HCS.out (by omega)
        have HALL := Lib.hid hall
        have HCC := Lib.hid hcc
        have dp : (0 : Int) < (n : Int) := by omega
        have dp2 : 0 < n := by omega
        clear hfok hst hct2 hlen hall hcc hev hbw
        go_wp2_with fail
        go_loop [13, 14] (fun i _ => ∃ k : Nat, k ≤ n ∧ i = .int .i64 k) (fun i _ => n - (intOf i).toNat)
        case atStart => exact ⟨0, Nat.zero_le _, rfl⟩
        case round =>
          obtain ⟨k, hk, rfl⟩ := hrel
          by_cases hlt : k < n
          · obtain ⟨q0, _, _, q3, q4⟩ := HCC.out k hlt
            obtain ⟨a1, a2⟩ := HALL.out k hlt
            obtain ⟨⟨⟨al, x, y, rs⟩, ra, rn, rc⟩, hq⟩ : ∃ q, q = cs.getD k default := ⟨_, rfl⟩
            rw [← hq] at q0 q3 q4 a1 a2
            change w2.cell? ⟨b, o + k * 4, none⟩ = some (.bool al) at q0
            change w2.cell? ⟨b, o + k * 4 + 3, none⟩ = some (.slice ra rn rc) at q3
            change IntsAt w2 ra rn rc rs at q4
            change al = decide ((k : Int) % ev = 0) at a1
            change (k : Int) % ev ≠ 0 → rs = List.replicate z0.length 0 at a2
            have hz : al = false → ∀ j, j < rn → rs.getD j 0 = 0 := fun h j hj => by
              have hne : (k : Int) % ev ≠ 0 := by rw [h] at a1; exact of_decide_eq_false a1.symm
              have hl := q4.len
              have e := a2 hne
              rw [e] at hl ⊢
              rw [List.length_replicate] at hl
              rw [List.getD_eq_getElem?_getD, List.getElem?_replicate, if_pos (by omega)]; rfl
            have HZ := Lib.hid hz
            have HQ := Lib.hid q4
            have hrc := q4.row.cap
            have hrl := q4.row.le
            unfold maxLen at hrc
            clear hq a1 a2 hz q4
            go_wp2_with fail
            go_loop [14] (fun i => ∃ j : Nat, j ≤ rn ∧ i = .int .i64 j) (fun i => rn - (intOf i).toNat)
            case atStart => exact ⟨0, Nat.zero_le _, rfl⟩
            case round =>
              obtain ⟨j, hj, rfl⟩ := hrel
              by_cases hlt2 : j < rn
              · obtain ⟨rb, ro, rfl, hrr⟩ := HQ.out.row.at_ (by omega)
                have r1 := hrr j hlt2
                clear hrr
                cases al with
                | true =>
                  go_wp2_with fail
                  go_round
                  case rel => exact ⟨j + 1, hlt2, by go_num⟩
                  case measure => simp [intOf]; omega
                | false =>
                  have hz := HZ.out rfl j hlt2
                  rw [hz] at r1
                  clear hz
                  go_wp2_with fail
                  go_round
                  case rel => exact ⟨j + 1, hlt2, by go_num⟩
                  case measure => simp [intOf]; omega
              · obtain rfl : rn = j := by omega
                go_wp2_with fail
                go_round
                case rel => exact ⟨k + 1, by omega, by go_num⟩
                case measure => simp [intOf]; omega
          · obtain rfl : n = k := by omega
            obtain ⟨q0, _⟩ := HCC.out 0 (by omega)
            obtain ⟨a1, _⟩ := HALL.out 0 (by omega)
            rw [a1, Nat.zero_mul, Nat.add_zero, decide_eq_true (show ((0 : Nat) : Int) % ev = 0 from Int.zero_emod ev)] at q0
            have t1 : ((n : Int) == (n : Int)) = true := beq_iff_eq.2 rfl
            clear a1
            go_wp2_with fail
            go_ret
            exact ⟨rfl, HBB.out⟩
end Go.Proofs.YtnnjijdpenifjaaDoor
