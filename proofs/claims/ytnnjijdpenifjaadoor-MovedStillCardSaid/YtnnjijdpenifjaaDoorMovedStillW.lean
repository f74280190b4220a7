/- The walk of MovedStill: it returns true, whatever it is asked. -/
import Derived.Test.YtnnjijdpenifjaaDoorMovedC
import Derived.Test.YtnnjijdpenifjaaDoorUnlike
import Derived.Test.YtnnjijdpenifjaaDoorOpenPic
import Derived.Test.YtnnjijdpenifjaaDoorSame
namespace Go.Proofs.YtnnjijdpenifjaaDoor
open Go.ChangeShapes Go.WideShapes Go.ChangeAt Go.RowKit

theorem ints_set {w : World} {g k : Nat} {a : Option Addr} {n cap : Nat} {L : List Int} (h : IntsAt w a n cap L) (hne : ∀ b o, a = some ⟨b, o, none⟩ → n ≠ 0 → b ≠ g) (x : Value) : IntsAt (w.setCell ⟨g, k, none⟩ x) a n cap L := by
  refine ⟨h.len, ⟨h.row.le, h.row.cap, fun hn => ?_⟩, h.wf⟩
  obtain ⟨b, o, ha, hc⟩ := h.row.at_ hn
  refine ⟨b, o, ha, fun j hj => ?_⟩
  have hb := hne b o ha hn
  rw [World.cell?_setCell_other _ _ _ _ (fun e => hb (by injection e with e _ _; exact e.symm))]
  exact hc j hj
theorem cell_set {w : World} {g k b j : Nat} {v x : Value} (h : w.cell? ⟨b, j, none⟩ = some v) (hne : b ≠ g ∨ j ≠ k) : (w.setCell ⟨g, k, none⟩ x).cell? ⟨b, j, none⟩ = some v := by
  rw [World.cell?_setCell_other _ _ _ _ (fun e => by injection e with e1 e2 _; omega)]; exact h
theorem IntsAt.lt {w : World} {a : Option Addr} {n cap : Nat} {L : List Int} (h : IntsAt w a n cap L) {b o : Nat} (ha : a = some ⟨b, o, none⟩) (hn : n ≠ 0) : b < w.heap.size := by
  obtain ⟨b', o', ha', hc⟩ := h.row.at_ hn
  rw [ha] at ha'
  injection ha' with ha'
  injection ha' with e1 e2 _
  subst e1 e2
  exact World.block_lt_of_cell? _ _ (hc 0 (by omega))

set_option maxHeartbeats 8000000 in
set_option maxRecDepth 100000 in
theorem walk_movedStill (d0 g0 : Int) (a0 : Option Addr) (n0 c0 : Nat) (z0 : List Int) (s : Int) (w : World) (hg : Hnd w) (h0 : PicAt w d0 g0 a0 n0 c0 z0) (_ : (Lit.int .i64 s).wf = true) :
    Calls Tryd.prog 5 #[picV d0 g0 a0 n0 c0, .int .i64 s] w fun e w' => e = .returned (.bool true) ∧ Lat w w' := by
  obtain ⟨W0, hW0⟩ : ∃ W, W = w.alloc (.cells #[.int .i64 d0, .int .i64 g0, .slice a0 n0 c0] 24) := ⟨_, rfl⟩
  have hl0 : Lat w W0 := by rw [hW0]; exact Lat.alloc _ _
  have hp : Cells3 W0 w.heap.size 0 (.int .i64 d0) (.int .i64 g0) (.slice a0 n0 c0) := by rw [hW0]; exact cells3_new rfl rfl rfl rfl
  have IW := Lib.hid h0.pix
  have I0 := Lib.hid (h0.pix.keep hl0)
  have HP := Lib.hid hp
  have HL0 := Lib.hid hl0
  have HG := Lib.hid hg
  clear h0 hl0 hp hg
  by_cases he : movE d0 g0 z0 d0 g0 z0 s = 0
  case neg =>
    have hE : alkE d0 g0 z0 d0 g0 z0 ≠ 0 ∨ (alkE d0 g0 z0 d0 g0 z0 = 0 ∧ (s < 1 ∨ 64 < s)) := by
      by_cases h1 : alkE d0 g0 z0 d0 g0 z0 = 0
      · right
        refine ⟨h1, ?_⟩
        rcases Int.lt_or_le s 1 with h2 | h2
        · exact .inl h2
        · rcases Int.lt_or_le 64 s with h3 | h3
          · exact .inr h3
          · exact absurd (movE_of h1 h2 h3) he
      · exact .inl h1
    have hm := mencode_bad d0 g0 a0 n0 c0 z0 d0 g0 a0 n0 c0 z0 s W0 I0.out I0.out he
    obtain ⟨E, hEE⟩ : ∃ E, E = movE d0 g0 z0 d0 g0 z0 s := ⟨_, rfl⟩
    obtain ⟨F, hFF⟩ : ∃ E, E = alkE d0 g0 z0 d0 g0 z0 := ⟨_, rfl⟩
    rw [← hEE] at hm
    rw [← hFF] at hE
    have HM := Lib.hid hm
    have HFF := Lib.hid hFF
    have HE := Lib.hid hE
    clear he hm hEE hFF hE
    go_enter Tryd.func5, Tryd.ntmps5
    go_upto_region 1 with fail
    rw [← hW0]
    clear hW0
    have p0 := HP.out.c0
    have p1 := HP.out.c1
    have p2 := HP.out.c2
    go_wp2_with fail
    refine HM.out.mono ?_
    rintro e w1 ⟨rfl, hb1⟩
    clear p0 p1 p2
    have hl1 := Lat.alloc w1 (.cells #[.bool false, .int .i64 0, .int .i64 0, .slice none 0 0] 53)
    have hp1 := HP.out.keep (Lat.trans hb1 hl1)
    have I1 := Lib.hid (I0.out.keep (Lat.trans hb1 hl1))
    have HL1 := Lib.hid (Lat.trans HL0.out (Lat.trans hb1 hl1))
    have p0 := hp1.c0
    have p1 := hp1.c1
    have p2 := hp1.c2
    clear hb1 hl1 hp1
    go_wp2_with fail
    refine (mbest_tot d0 g0 a0 n0 c0 z0 d0 g0 a0 n0 c0 z0 _ I1.out I1.out).mono ?_
    rw [← HFF.out]
    rintro e w2 ⟨rfl, hb2⟩
    have HL2 := Lib.hid (fun o => Lat.trans (Lat.trans HL1.out hb2) (Lat.alloc w2 o))
    clear hb2 p0 p1 p2
    rcases HE.out with h1 | ⟨h1, h2 | h2⟩
    · rw [errv_pos h1]
      clear h1 HE
      go_wp2
      go_ret
      exact ⟨rfl, HL2.out _⟩
    · rw [errv_zero h1]
      have d1 : decide (s < 1) = true := decide_eq_true h2
      clear h1 h2 HE
      go_wp2
      go_ret
      exact ⟨rfl, HL2.out _⟩
    · rw [errv_zero h1]
      have d1 : decide (s < 1) = false := decide_eq_false (by omega)
      have d2 : decide (64 < s) = true := decide_eq_true h2
      clear h1 h2 HE
      go_wp2
      go_ret
      exact ⟨rfl, HL2.out _⟩
  obtain ⟨ha, s1, s64⟩ := movE_zero he
  obtain ⟨hk0, _, _, _⟩ := alkE_zero.1 ha
  have ok0 := chkPic_ok hk0
  have hl := IW.out.len
  have hm36 : n0 ≤ 36 := by have := ok0.len_le; omega
  have hm1 : n0 ≠ 0 := by have := ok0.len_le; omega
  have hself : shf d0.toNat g0.toNat z0 0 0 z0.length = z0 := shf_none _ _ _ (by have := ok0.w1; omega) (by
    have h1 := ok0.len
    have h2 := ok0.w1
    have h3 := ok0.h1
    have e : ((d0.toNat * g0.toNat : Nat) : Int) = d0 * g0 := by rw [Int.natCast_mul, Int.toNat_of_nonneg (by omega), Int.toNat_of_nonneg (by omega)]
    omega)
  have hmoved : shI d0 g0 z0 (mvX (bI d0 g0 z0 z0)) (mvY (bI d0 g0 z0 z0)) = z0 := by
    have := bst_moved d0.toNat g0.toNat z0 0 0 (by omega) (by omega) (by omega) (by omega)
    rw [hself] at this
    exact this
  have hmv := mv_bd _ (bI_lt d0 g0 z0 z0)
  have HME := Lib.hid he
  have HMV := Lib.hid hmoved
  have HK0 := Lib.hid hk0
  have HPS := Lib.hid ok0.pix
  have HBM := Lib.hid hmv
  have HL := Lib.hid hl
  clear he ha hk0 ok0 hl hself hmoved hmv
  go_enter Tryd.func5, Tryd.ntmps5
  go_upto_region 1 with fail
  rw [← hW0]
  clear hW0
  have p0 := HP.out.c0
  have p1 := HP.out.c1
  have p2 := HP.out.c2
  go_wp2_with fail
  refine (mencode_tot d0 g0 a0 n0 c0 z0 d0 g0 a0 n0 c0 z0 s _ I0.out I0.out).mono ?_
  rw [HME.out, errv_zero rfl]
  rintro e w1 ⟨x, y, b, m, cb, L, rfl, hatL, hok, _, hfL, hb1⟩
  obtain ⟨_, _, _, ex, ey, rfl, eL⟩ := hok rfl
  rw [ex, ey, HMV.out, mrs_self z0 s s1] at eL
  subst eL
  clear hok p0 p1 p2
  have hbe : behE d0 g0 z0 false x y (List.replicate m 0) s = 0 := by
    rw [ex, ey]
    exact behE_of HK0.out s1 s64 HBM.out (rstE_of (by rw [List.length_replicate, HL.out]) (fun z hz => by rw [List.eq_of_mem_replicate hz]; omega))
  have hbe2 : behE d0 g0 z0 true x y (List.replicate m 0) s = 3 := by
    unfold behE
    rw [if_neg (by have := HK0.out; omega), if_neg (by simp [stepB, s1, s64]), if_pos rfl]
  have htl : mtl (shI d0 g0 z0 x y) (List.replicate m 0) s m = z0 := by rw [ex, ey, HMV.out]; exact mtl_none z0 s m m HPS.out
  obtain ⟨W2, hW2⟩ : ∃ W, W = w1.alloc (.cells #[.bool false, .int .i64 x, .int .i64 y, .slice b m cb] 53) := ⟨_, rfl⟩
  have hl2 : Lat w1 W2 := by rw [hW2]; exact Lat.alloc _ _
  have hC : Cells4 W2 w1.heap.size (.bool false) (.int .i64 x) (.int .i64 y) (.slice b m cb) := by rw [hW2]; exact cells4_new rfl rfl rfl rfl rfl
  have hCf : W2.frozen? ⟨w1.heap.size, 0, none⟩ = false := by rw [hW2]; exact free_new rfl
  have HC := Lib.hid hC
  have HCF := Lib.hid hCf
  have HBE := Lib.hid hbe
  have HBE2 := Lib.hid hbe2
  have HTL := Lib.hid htl
  have HP2 := Lib.hid (HP.out.keep (Lat.trans hb1 hl2))
  have I2 := Lib.hid (I0.out.keep (Lat.trans hb1 hl2))
  have HL2 := Lib.hid (Lat.trans HL0.out (Lat.trans hb1 hl2))
  have IL2 := Lib.hid (hatL.keep hl2)
  have NEL := Lib.hid (show ∀ b' o, b = some ⟨b', o, none⟩ → m ≠ 0 → b' ≠ w1.heap.size from fun b' o e hn => by have := hatL.lt e hn; omega)
  have GW : w.heap.size < w1.heap.size := Nat.lt_of_lt_of_le (World.block_lt_of_cell? _ _ HP.out.c0) hb1.size
  have LC : w1.heap.size < W2.heap.size := World.block_lt_of_cell? _ _ hC.c0
  clear hatL hfL ex ey hbe hbe2 htl hb1 hl2 hC hCf
  go_upto_region 2 with fail
  rw [← hW2]
  clear hW2
  have e3 := HC.out.c3
  go_wp2_with fail
  go_loop [9] (fun i => ∃ k : Nat, k ≤ m ∧ i = .int .i64 k) (fun i => m - (intOf i).toNat)
  case atStart => exact ⟨0, Nat.zero_le _, rfl⟩
  case round =>
    obtain ⟨k, hk, rfl⟩ := hrel
    by_cases hlt : k < m
    · obtain ⟨b1, o1, rfl, hc⟩ := IL2.out.row.at_ (by omega)
      have c1 := hc k hlt
      have ez : (List.replicate m (0 : Int)).getD k 0 = 0 := by rw [List.getD_eq_getElem?_getD, List.getElem?_replicate, if_pos hlt]; rfl
      rw [ez] at c1
      clear hc ez
      go_wp2
      go_round
      case rel => exact ⟨k + 1, by omega, by go_num⟩
      case measure => simp [intOf]; omega
    · obtain rfl : k = m := by omega
      have p0 := HP2.out.c0
      have p1 := HP2.out.c1
      have p2 := HP2.out.c2
      have e0 := HC.out.c0
      have e1 := HC.out.c1
      have e2 := HC.out.c2
      go_wp2_with fail
      refine (mdecode_tot d0 g0 a0 k c0 z0 false x y b k cb (List.replicate k 0) s _ I2.out IL2.out).mono ?_
      rw [HBE.out, errv_zero rfl]
      rintro e w3 ⟨u1, u2, u3, u4, u5, u6, rfl, hatq, hokq, _, hfq, hb3⟩
      obtain ⟨rfl, rfl, rfl, rfl⟩ := hokq rfl
      rw [HTL.out] at hatq
      have hp3 := HP2.out.keep hb3
      have hc3 := HC.out.keep hb3
      have hf3 := hb3.free_at LC HCF.out
      obtain ⟨W5, hW5⟩ : ∃ W, W = w3.setCell ⟨w1.heap.size, 0, none⟩ (.bool true) := ⟨_, rfl⟩
      have hsz5 : W5.heap.size = w3.heap.size := by rw [hW5]; simp [World.setCell]
      have hl5 := Lat.alloc W5 (.cells #[.int .i64 u1, .int .i64 u2, .slice u3 u4 u5] 24)
      obtain ⟨W4, hW4⟩ : ∃ W, W = W5.alloc (.cells #[.int .i64 u1, .int .i64 u2, .slice u3 u4 u5] 24) := ⟨_, rfl⟩
      have LC3 : w1.heap.size < w3.heap.size := Nat.lt_of_lt_of_le LC hb3.size
      have q : Cells3 W4 w3.heap.size 0 (.int .i64 u1) (.int .i64 u2) (.slice u3 u4 u5) := by rw [hW4]; exact cells3_new hsz5.symm rfl rfl rfl
      have q0 := q.c0
      have q1 := q.c1
      have q2 := q.c2
      rw [← hW4] at hl5
      have r0 : W4.cell? ⟨w.heap.size, 0, none⟩ = some (.int .i64 u1) := hl5.cell_at (by rw [hW5]; exact cell_set hp3.c0 (.inl (by omega)))
      have r1 : W4.cell? ⟨w.heap.size, 1, none⟩ = some (.int .i64 u2) := hl5.cell_at (by rw [hW5]; exact cell_set hp3.c1 (.inl (by omega)))
      have r2 : W4.cell? ⟨w.heap.size, 2, none⟩ = some (.slice a0 u4 c0) := hl5.cell_at (by rw [hW5]; exact cell_set hp3.c2 (.inl (by omega)))
      have t0 : W4.cell? ⟨w1.heap.size, 0, none⟩ = some (.bool true) := hl5.cell_at (by rw [hW5]; exact World.cell?_setCell_same _ _ _ hc3.c0)
      have t1 : W4.cell? ⟨w1.heap.size, 1, none⟩ = some (.int .i64 x) := hl5.cell_at (by rw [hW5]; exact cell_set hc3.c1 (.inr (by omega)))
      have t2 : W4.cell? ⟨w1.heap.size, 2, none⟩ = some (.int .i64 y) := hl5.cell_at (by rw [hW5]; exact cell_set hc3.c2 (.inr (by omega)))
      have t3 : W4.cell? ⟨w1.heap.size, 3, none⟩ = some (.slice b u4 cb) := hl5.cell_at (by rw [hW5]; exact cell_set hc3.c3 (.inr (by omega)))
      have J0 := Lib.hid (show IntsAt W4 a0 u4 c0 z0 from IntsAt.keep (by rw [hW5]; exact ints_set (I2.out.keep hb3) (fun b' o e hn => by have := IW.out.lt e hn; omega) _) hl5)
      have JL := Lib.hid (show IntsAt W4 b u4 cb (List.replicate u4 0) from IntsAt.keep (by rw [hW5]; exact ints_set (IL2.out.keep hb3) NEL.out _) hl5)
      have JQ := Lib.hid (show IntsAt W4 u3 u4 u5 z0 from IntsAt.keep (by rw [hW5]; exact ints_set hatq (hfq _ LC) _) hl5)
      have HL4 := Lib.hid (show Lat w W4 from Lat.trans (show Lat w W5 by rw [hW5]; exact Below.setCell (Lat.trans HL2.out hb3) (by simp; omega) _) hl5)
      rw [hW5] at hW4
      clear hW5 hl5 q hsz5
      have g0' := hc3.c0
      clear hokq hatq hfq hb3 hp3 hc3 p0 p1 p2 e0 e1 e2 e3
      go_upto_region 12 with fail
      rw [← hW4]
      clear hW4 g0' hf3
      go_wp2_with fail
      refine (mdecode_tot u1 u2 a0 u4 c0 z0 true x y b u4 cb (List.replicate u4 0) s W4 J0.out JL.out).mono ?_
      rw [HBE2.out, errv_pos (show (3 : Nat) ≠ 0 by omega)]
      rintro e w5 ⟨v1, v2, v3, v4, v5, v6, rfl, _, _, hz, _, hb5⟩
      obtain ⟨rfl, rfl, rfl, rfl⟩ := hz (by omega)
      have hl5 := Lat.alloc w5 (.cells #[.int .i64 0, .int .i64 0, .slice v3 0 v5] 24)
      have q0' := (Lat.trans hb5 hl5).cell_at q0
      have q1' := (Lat.trans hb5 hl5).cell_at q1
      have q2' := (Lat.trans hb5 hl5).cell_at q2
      have r0' := (Lat.trans hb5 hl5).cell_at r0
      have r1' := (Lat.trans hb5 hl5).cell_at r1
      have r2' := (Lat.trans hb5 hl5).cell_at r2
      have t3' := (Lat.trans hb5 hl5).cell_at t3
      have J05 := Lib.hid (J0.out.keep (Lat.trans hb5 hl5))
      have JQ5 := Lib.hid (JQ.out.keep (Lat.trans hb5 hl5))
      have HL5 := Lib.hid (Lat.trans HL4.out (Lat.trans hb5 hl5))
      have hsame : sameP u1 u2 z0 u1 u2 z0 = true := decide_eq_true ⟨rfl, rfl, rfl⟩
      have HSM := Lib.hid hsame
      clear hz hb5 hl5 q0 q1 q2 r0 r1 r2 t0 t1 t2 t3 hsame
      go_wp2_with fail
      refine (samePic_any u1 u2 u3 u4 u5 z0 u1 u2 a0 u4 c0 z0 _ JQ5.out J05.out).mono ?_
      rw [HSM.out]
      rintro e w6 ⟨rfl, hb6⟩
      have hb06 := Lat.trans HL5.out hb6
      have HB06 := Lib.hid hb06
      clear hb6 hb06 q0' q1' q2' r0' r1' r2' t3'
      go_wp2_with fail
      refine (sameErr_eno 3 w6 (HG.out.keep HB06.out)).mono ?_
      rintro e w7 ⟨rfl, hb7⟩
      go_wp2
      go_ret
      exact ⟨rfl, Lat.trans HB06.out hb7⟩
end Go.Proofs.YtnnjijdpenifjaaDoor
