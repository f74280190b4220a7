/- The walk of MovedNear: it returns true, whatever it is asked. -/
import Derived.Test.YtnnjijdpenifjaaMovedC
import Derived.Test.YtnnjijdpenifjaaUnlike
import Derived.Test.YtnnjijdpenifjaaOpenPic
import Derived.Test.YtnnjijdpenifjaaErrv
import Derived.Deep.DeepCutAuto
import Derived.Deep.CutBlock
namespace Go.Proofs.Ytnnjijdpenifjaa
open Go.ChangeShapes Go.WideShapes Go.ChangeAt Go.RowKit

structure NW (w W : World) (d0 g0 : Int) (a0 : Option Addr) (n0 c0 : Nat) (d1 g1 : Int) (a1 : Option Addr) (n1 c1 : Nat) (mx my : Int) : Prop where
  lat : Lat w W
  p : Cells3 W w.heap.size 0 (.int .i64 d0) (.int .i64 g0) (.slice a0 n0 c0)
  q : Cells3 W (w.heap.size + 1) 0 (.int .i64 d1) (.int .i64 g1) (.slice a1 n1 c1)
  m0 : W.cell? ⟨w.heap.size + 1 + 1, 0, none⟩ = some (.int .i64 mx)
  m1 : W.cell? ⟨w.heap.size + 1 + 1, 1, none⟩ = some (.int .i64 my)
  sz : w.heap.size + 1 + 1 < W.heap.size
section
variable {w W W' : World} {d0 g0 : Int} {a0 : Option Addr} {n0 c0 : Nat} {d1 g1 : Int} {a1 : Option Addr} {n1 c1 : Nat} {mx my : Int}
theorem NW.keep (h : NW w W d0 g0 a0 n0 c0 d1 g1 a1 n1 c1 mx my) (hb : Lat W W') : NW w W' d0 g0 a0 n0 c0 d1 g1 a1 n1 c1 mx my :=
  ⟨Lat.trans h.lat hb, h.p.keep hb, h.q.keep hb, hb.cell_at h.m0, hb.cell_at h.m1, Nat.lt_of_lt_of_le h.sz hb.size⟩
theorem cell_four {W : World} {b j g : Nat} {v x y z u : Value} (h : W.cell? ⟨b, j, none⟩ = some v) (hne : b ≠ g) : (four W g x y z u).cell? ⟨b, j, none⟩ = some v := by
  have nn : ∀ k, (⟨g, k, none⟩ : Addr) ≠ ⟨b, j, none⟩ := fun k e => hne (by injection e with e _ _; exact e.symm)
  unfold four
  rw [World.cell?_setCell_other _ _ _ _ (nn 3), World.cell?_setCell_other _ _ _ _ (nn 2), World.cell?_setCell_other _ _ _ _ (nn 1), World.cell?_setCell_other _ _ _ _ (nn 0)]; exact h
theorem cells3_four {W : World} {b o g : Nat} {v1 v2 v3 x y z u : Value} (h : Cells3 W b o v1 v2 v3) (hne : b ≠ g) : Cells3 (four W g x y z u) b o v1 v2 v3 := ⟨cell_four h.c0 hne, cell_four h.c1 hne, cell_four h.c2 hne⟩
end

set_option maxHeartbeats 8000000 in
set_option maxRecDepth 100000 in
theorem walk_movedNear (d0 g0 : Int) (a0 : Option Addr) (n0 c0 : Nat) (z0 : List Int) (d1 g1 : Int) (a1 : Option Addr) (n1 c1 : Nat) (z1 : List Int) (s : Int) (mx my : Int) (w : World)
    (h0 : PicAt w d0 g0 a0 n0 c0 z0) (h1 : PicAt w d1 g1 a1 n1 c1 z1) (_ : (Lit.int .i64 s).wf = true) (_ : MoveAt mx my) :
    Calls Try.prog 8 #[picV d0 g0 a0 n0 c0, picV d1 g1 a1 n1 c1, .int .i64 s, .agg #[.int .i64 mx, .int .i64 my]] w fun e w' => e = .returned (.bool true) ∧ Lat w w' := by
  obtain ⟨W0, hW0⟩ : ∃ W, W = (((w.alloc (.cells #[.int .i64 d0, .int .i64 g0, .slice a0 n0 c0] 24)).alloc (.cells #[.int .i64 d1, .int .i64 g1, .slice a1 n1 c1] 24)).alloc (.cells #[.int .i64 mx, .int .i64 my] 26)) := ⟨_, rfl⟩
  have ha : NW w W0 d0 g0 a0 n0 c0 d1 g1 a1 n1 c1 mx my := by
    rw [hW0]
    have l1 := Lat.alloc w (.cells #[.int .i64 d0, .int .i64 g0, .slice a0 n0 c0] 24)
    have l2 := Lat.alloc (w.alloc (.cells #[.int .i64 d0, .int .i64 g0, .slice a0 n0 c0] 24)) (.cells #[.int .i64 d1, .int .i64 g1, .slice a1 n1 c1] 24)
    have l3 := Lat.alloc ((w.alloc (.cells #[.int .i64 d0, .int .i64 g0, .slice a0 n0 c0] 24)).alloc (.cells #[.int .i64 d1, .int .i64 g1, .slice a1 n1 c1] 24)) (.cells #[.int .i64 mx, .int .i64 my] 26)
    exact ⟨Lat.trans l1 (Lat.trans l2 l3), (cells3_new rfl rfl rfl rfl).keep (Lat.trans l2 l3), (cells3_new (by simp) rfl rfl rfl).keep l3, cell_new (by simp) rfl, cell_new (by simp) rfl, by simp⟩
  have HA := Lib.hid ha
  have I0 := Lib.hid (h0.pix.keep ha.lat)
  have I1 := Lib.hid (h1.pix.keep ha.lat)
  have IW0 := Lib.hid h0.pix
  obtain ⟨E, hE⟩ : ∃ E, E = movE d0 g0 z0 d1 g1 z1 s := ⟨_, rfl⟩
  have HE := Lib.hid hE
  have hk : bX 2 1 [1, 9] 2 1 [9, 9] = -1 ∧ bY 2 1 [1, 9] 2 1 [9, 9] = -1 ∧ alkE 2 1 [1, 9] 2 1 [9, 9] = 0 := by decide
  have HK := Lib.hid hk
  obtain ⟨T, hT⟩ : ∃ t : Bool, t = decide (E = 0) := ⟨_, rfl⟩
  have heq := errv_eql E
  rw [← hT] at heq
  have HT := Lib.hid hT
  have hgd := fun op a => errv_guard op a E
  have HEQ := Lib.hid heq
  have HGD := Lib.hid hgd
  clear h0 h1 ha hE hk hT heq hgd
  go_enter Try.func8, Try.ntmps8
  go_upto_region 1 with fail
  rw [← hW0]
  clear hW0
  go_wp2_with fail
  have x1 : IntsAt (W0.alloc (.cells #[.int .i64 1, .int .i64 9] 3)) (some ⟨W0.heap.size, 0, none⟩) 2 2 [1, 9] := ints_new W0 [1, 9] 3 (by decide) (by decide)
  have x2 : IntsAt (((W0.alloc (.cells #[.int .i64 1, .int .i64 9] 3)).alloc (.cells #[.int .i64 2, .int .i64 1, .slice (some ⟨W0.heap.size, 0, none⟩) 2 2] 24)).alloc (.cells #[.int .i64 9, .int .i64 9] 3)) (some ⟨W0.heap.size + 1 + 1, 0, none⟩) 2 2 [9, 9] := by
    have := ints_new ((W0.alloc (.cells #[.int .i64 1, .int .i64 9] 3)).alloc (.cells #[.int .i64 2, .int .i64 1, .slice (some ⟨W0.heap.size, 0, none⟩) 2 2] 24)) [9, 9] 3 (by decide) (by decide)
    simpa using this
  have hl1 := Lat.alloc W0 (.cells #[.int .i64 1, .int .i64 9] 3)
  have hl2 := Lat.trans (Lat.alloc (W0.alloc (.cells #[.int .i64 1, .int .i64 9] 3)) (.cells #[.int .i64 2, .int .i64 1, .slice (some ⟨W0.heap.size, 0, none⟩) 2 2] 24)) (Lat.alloc ((W0.alloc (.cells #[.int .i64 1, .int .i64 9] 3)).alloc (.cells #[.int .i64 2, .int .i64 1, .slice (some ⟨W0.heap.size, 0, none⟩) 2 2] 24)) (.cells #[.int .i64 9, .int .i64 9] 3))
  refine (mbest_tot 2 1 _ 2 2 [1, 9] 2 1 _ 2 2 [9, 9] _ (x1.keep hl2) x2).mono ?_
  rw [HK.out.1, HK.out.2.1, HK.out.2.2, errv_zero rfl]
  rintro e w1 ⟨rfl, hb1⟩
  have hb := Lat.trans (Lat.trans hl1 hl2) (Lat.trans hb1 (Lat.alloc w1 (.cells #[.int .i64 (-1), .int .i64 (-1)] 26)))
  have ha1 := HA.out.keep hb
  have HA1 := Lib.hid ha1
  have I01 := Lib.hid (I0.out.keep hb)
  have I11 := Lib.hid (I1.out.keep hb)
  clear x1 x2 hl1 hl2 hb1 I0 I1 HA
  clear hb
  have p0 : (w1.alloc (.cells #[.int .i64 (-1), .int .i64 (-1)] 26)).cell? ⟨w.heap.size, 0, none⟩ = _ := ha1.p.c0
  have p1 : (w1.alloc (.cells #[.int .i64 (-1), .int .i64 (-1)] 26)).cell? ⟨w.heap.size, 1, none⟩ = _ := ha1.p.c1
  have p2 : (w1.alloc (.cells #[.int .i64 (-1), .int .i64 (-1)] 26)).cell? ⟨w.heap.size, 2, none⟩ = _ := ha1.p.c2
  have q0 : (w1.alloc (.cells #[.int .i64 (-1), .int .i64 (-1)] 26)).cell? ⟨w.heap.size + 1, 0, none⟩ = _ := ha1.q.c0
  have q1 : (w1.alloc (.cells #[.int .i64 (-1), .int .i64 (-1)] 26)).cell? ⟨w.heap.size + 1, 1, none⟩ = _ := ha1.q.c1
  have q2 : (w1.alloc (.cells #[.int .i64 (-1), .int .i64 (-1)] 26)).cell? ⟨w.heap.size + 1, 2, none⟩ = _ := ha1.q.c2
  clear ha1
  go_wp2_with fail
  refine (mencode_tot d0 g0 a0 n0 c0 z0 d1 g1 a1 n1 c1 z1 s _ I01.out I11.out).mono ?_
  rw [← HE.out]
  rintro e w2 ⟨x, y, c, k, cc, L, rfl, hatL, hok, hbad, _, hb2⟩
  clear p0 p1 p2 q0 q1 q2
  obtain ⟨W3, hW3⟩ : ∃ W, W = w2.alloc (.cells #[.bool false, .int .i64 x, .int .i64 y, .slice c k cc] 49) := ⟨_, rfl⟩
  have hl3 : Lat w2 W3 := by rw [hW3]; exact Lat.alloc _ _
  have hC : Cells4 W3 w2.heap.size (.bool false) (.int .i64 x) (.int .i64 y) (.slice c k cc) := by rw [hW3]; exact cells4_new rfl rfl rfl rfl rfl
  have hCf : ∀ j, W3.frozen? ⟨w2.heap.size, j, none⟩ = false := fun j => by rw [hW3]; exact free_new rfl
  have HC := Lib.hid hC
  have HCF := Lib.hid hCf
  have HA3 := Lib.hid (HA1.out.keep (Lat.trans hb2 hl3))
  have I03 := Lib.hid (I01.out.keep (Lat.trans hb2 hl3))
  have I13 := Lib.hid (I11.out.keep (Lat.trans hb2 hl3))
  have HL3 := Lib.hid (hatL.keep hl3)
  have HOK := Lib.hid hok
  have GC : w.heap.size + 1 + 1 < w2.heap.size := Nat.lt_of_lt_of_le HA1.out.sz hb2.size
  have LC : w2.heap.size < W3.heap.size := World.block_lt_of_cell? _ _ hC.c0
  clear hok hbad hatL hb2 hl3 hC hCf I01 I11 HA1
  have heq := HEQ.out
  have hgd := HGD.out
  go_upto_if 51 with fail
  rw [← hW3]
  clear hW3 heq hgd
  go_cut [16] (fun _ wx => Hid (Lat W3 wx))
  case first =>
    by_cases he : E = 0
    · obtain rfl : T = true := by rw [HT.out]; exact decide_eq_true he
      have hok := HOK.out he
      have hem := he
      rw [HE.out] at hem
      have htk := told_ok hem hok I03.out.len
      obtain ⟨_, s1, s64⟩ := movE_zero hem
      obtain ⟨ew, eh, em, ex, ey, ek, eL⟩ := hok
      subst ew eh em
      obtain ⟨t1, t2, t3⟩ := htk
      obtain ⟨U, hU⟩ : ∃ U, U = unl z1 (mtl (shI d1 g1 z0 x y) L s n1) n1 := ⟨_, rfl⟩
      rw [← hU] at t3
      have d1' : decide (s / 2 < U) = false := decide_eq_false (by omega)
      have HU := Lib.hid hU
      have T1 := Lib.hid t1
      have T2 := Lib.hid t2
      clear he hem ex ey ek eL hU t1 t2
      have p0 : W3.cell? ⟨w.heap.size, 0, none⟩ = _ := HA3.out.p.c0
      have p1 : W3.cell? ⟨w.heap.size, 1, none⟩ = _ := HA3.out.p.c1
      have p2 : W3.cell? ⟨w.heap.size, 2, none⟩ = _ := HA3.out.p.c2
      have e0 := HC.out.c0
      have e1 := HC.out.c1
      have e2 := HC.out.c2
      have e3 := HC.out.c3
      go_wp2_with fail
      refine (mdecode_tot d1 g1 a0 n1 c0 z0 false x y c k cc L s W3 I03.out HL3.out).mono ?_
      rw [T1.out, errv_zero rfl]
      rintro e w4 ⟨wd', hg', c', k', cc', L', rfl, hat', hokd, _, _, hb4⟩
      obtain ⟨rfl, rfl, rfl, rfl⟩ := hokd rfl
      clear hokd p0 p1 p2 e0 e1 e2 e3
      have hl4 := Lat.alloc w4 (.cells #[.int .i64 wd', .int .i64 hg', .slice c' k' cc'] 24)
      have HA4 := Lib.hid (HA3.out.keep (Lat.trans hb4 hl4))
      have I14 := Lib.hid (I13.out.keep (Lat.trans hb4 hl4))
      have HAT4 := Lib.hid (hat'.keep hl4)
      have HL4 := Lib.hid (Lat.trans hb4 hl4)
      have HC4 := Lib.hid (HC.out.keep (Lat.trans hb4 hl4))
      clear hat' hb4 hl4
      have q0 : (w4.alloc (.cells #[.int .i64 wd', .int .i64 hg', .slice c' k' cc'] 24)).cell? ⟨w.heap.size + 1, 0, none⟩ = _ := HA4.out.q.c0
      have q1 : (w4.alloc (.cells #[.int .i64 wd', .int .i64 hg', .slice c' k' cc'] 24)).cell? ⟨w.heap.size + 1, 1, none⟩ = _ := HA4.out.q.c1
      have q2 : (w4.alloc (.cells #[.int .i64 wd', .int .i64 hg', .slice c' k' cc'] 24)).cell? ⟨w.heap.size + 1, 2, none⟩ = _ := HA4.out.q.c2
      go_wp2_with fail
      refine (unlike_ok wd' hg' a1 k' c1 z1 wd' hg' c' k' cc' _ _ I14.out HAT4.out T2.out).mono ?_
      rw [← HU.out]
      rintro e w5 ⟨rfl, hb5⟩
      have e0 := hb5.cell_at HC4.out.c0
      have HL5 := Lib.hid (Lat.trans HL4.out hb5)
      clear hb5 q0 q1 q2
      go_wp2_with fail
      go_meet
      case rel => exact HL5.out
    · obtain rfl : T = false := by rw [HT.out]; exact decide_eq_false he
      clear he
      go_wp2_with fail
      go_meet
      case rel => exact Lat.refl _
  case rest =>
  have HL := hcut
  clear hcut HE HOK HL3 HEQ HGD HT HK
  have HA5 := Lib.hid (HA3.out.keep HL.out)
  have I05 := Lib.hid (I03.out.keep HL.out)
  have HC5 := Lib.hid (HC.out.keep HL.out)
  have F5 := Lib.hid (show ∀ j, wc.frozen? ⟨w2.heap.size, j, none⟩ = false from fun j => HL.out.free_at LC (HCF.out j))
  have LC5 : w2.heap.size < wc.heap.size := Nat.lt_of_lt_of_le LC HL.out.size
  clear HA3 I03 I13 HC HCF HL LC
  have m0 : wc.cell? ⟨w.heap.size + 1 + 1, 0, none⟩ = _ := HA5.out.m0
  have m1 : wc.cell? ⟨w.heap.size + 1 + 1, 1, none⟩ = _ := HA5.out.m1
  have hd : (decide (mx < -1) = true) ∨ (decide (mx < -1) = false ∧ decide (1 < mx) = true) ∨ (decide (mx < -1) = false ∧ decide (1 < mx) = false ∧ decide (my < -1) = true) ∨ (decide (mx < -1) = false ∧ decide (1 < mx) = false ∧ decide (my < -1) = false ∧ decide (1 < my) = true) ∨
      (decide (mx < -1) = false ∧ decide (1 < mx) = false ∧ decide (my < -1) = false ∧ decide (1 < my) = false ∧ decide (s < 1) = true) ∨ (decide (mx < -1) = false ∧ decide (1 < mx) = false ∧ decide (my < -1) = false ∧ decide (1 < my) = false ∧ decide (s < 1) = false ∧ decide (64 < s) = true) ∨
      (decide (mx < -1) = false ∧ decide (1 < mx) = false ∧ decide (my < -1) = false ∧ decide (1 < my) = false ∧ decide (s < 1) = false ∧ decide (64 < s) = false ∧ (-1 ≤ mx ∧ mx ≤ 1 ∧ -1 ≤ my ∧ my ≤ 1 ∧ 1 ≤ s ∧ s ≤ 64)) := by
    simp only [decide_eq_true_eq, decide_eq_false_iff_not]
    omega
  rcases hd with b1 | ⟨b1, b2⟩ | ⟨b1, b2, b3⟩ | ⟨b1, b2, b3, b4⟩ | ⟨b1, b2, b3, b4, b5⟩ | ⟨b1, b2, b3, b4, b5, b6⟩ | ⟨b1, b2, b3, b4, b5, b6, x1, x2, y1, y2, s1, s64⟩
  iterate 6
    · go_wp2
      go_ret
      exact ⟨rfl, HA5.out.lat⟩
  have p0 : wc.cell? ⟨w.heap.size, 0, none⟩ = _ := HA5.out.p.c0
  have p1 : wc.cell? ⟨w.heap.size, 1, none⟩ = _ := HA5.out.p.c1
  have p2 : wc.cell? ⟨w.heap.size, 2, none⟩ = _ := HA5.out.p.c2
  go_wp2_with fail
  refine (shift_totF d0 g0 a0 n0 c0 z0 mx my wc I05.out).mono ?_
  rintro e w6 ⟨wd', hg', c', k', cc', S, rfl, hatS, hoks, _, hfS, hb6⟩
  clear m0 m1 p0 p1 p2
  obtain ⟨SE, hSE⟩ : ∃ E, E = shE d0 g0 z0 mx my := ⟨_, rfl⟩
  rw [← hSE] at hoks ⊢
  have hl6 := Lat.alloc w6 (.cells #[.int .i64 wd', .int .i64 hg', .slice c' k' cc'] 24)
  by_cases hs0 : SE = 0
  case neg =>
    rw [errv_pos hs0]
    have HL6 := Lib.hid (Lat.trans HA5.out.lat (Lat.trans hb6 hl6))
    clear hs0 hoks hb6 hl6 hatS hSE hfS
    go_wp2
    go_ret
    exact ⟨rfl, HL6.out⟩
  obtain ⟨rfl, rfl, rfl, rfl⟩ := hoks hs0
  have hse := hSE.symm.trans hs0
  have hk0 := (shE_zero hse).1
  rw [errv_zero hs0]
  have ok0 := chkPic_ok hk0
  have hl0 := I05.out.len
  have hm36 : k' ≤ 36 := by have := ok0.len_le; omega
  obtain ⟨S, hS⟩ : ∃ S, S = shf wd'.toNat hg'.toNat z0 mx my k' := ⟨_, rfl⟩
  rw [← hS] at hatS
  have hpS : ∀ z ∈ S, 0 ≤ z ∧ z ≤ 255 := by rw [hS]; exact shf_mem ok0.pix
  have hlS : S.length = k' := by rw [hS]; exact shf_length _ _ _ _ _ _
  have hkS : chkPic wd' hg' S = 0 := chkPic_of ⟨ok0.w1, ok0.w6, ok0.h1, ok0.h6, by rw [hlS, ← hl0]; exact ok0.len, hpS⟩
  have hmE : movE wd' hg' z0 wd' hg' S s = 0 := movE_of (alkE_zero.2 ⟨hk0, hkS, rfl, rfl⟩) s1 s64
  have hmoved : shI wd' hg' z0 (mvX (bI wd' hg' z0 S)) (mvY (bI wd' hg' z0 S)) = S := by
    have := bst_moved wd'.toNat hg'.toNat z0 mx my x1 x2 y1 y2
    rw [hl0, ← hS] at this
    unfold shI bI
    rw [hl0]
    exact this
  have hmv := mv_bd _ (bI_lt wd' hg' z0 S)
  have HKS := Lib.hid hkS
  have HK0 := Lib.hid hk0
  have HME := Lib.hid hmE
  have HMV := Lib.hid hmoved
  have HPS := Lib.hid hpS
  have HLS := Lib.hid hlS
  have HBM := Lib.hid hmv
  have HL0 := Lib.hid hl0
  have HA7 := Lib.hid (HA5.out.keep (Lat.trans hb6 hl6))
  have I07 := Lib.hid (I05.out.keep (Lat.trans hb6 hl6))
  have HC7 := Lib.hid (HC5.out.keep (Lat.trans hb6 hl6))
  have F7 := Lib.hid (show ∀ j, (w6.alloc (.cells #[.int .i64 wd', .int .i64 hg', .slice c' k' cc'] 24)).frozen? ⟨w2.heap.size, j, none⟩ = false from fun j => (Lat.trans hb6 hl6).free_at LC5 (F5.out j))
  have LC7 : w2.heap.size < (w6.alloc (.cells #[.int .i64 wd', .int .i64 hg', .slice c' k' cc'] 24)).heap.size := Nat.lt_of_lt_of_le LC5 (Lat.trans hb6 hl6).size
  have NEC := Lib.hid (hfS _ LC5)
  have LC6 : w2.heap.size < w6.heap.size := Nat.lt_of_lt_of_le LC5 hb6.size
  have SP := Lib.hid (show Cells3 (w6.alloc (.cells #[.int .i64 wd', .int .i64 hg', .slice c' k' cc'] 24)) w6.heap.size 0 (.int .i64 wd') (.int .i64 hg') (.slice c' k' cc') from cells3_new rfl rfl rfl rfl)
  have IS7 := Lib.hid (hatS.keep hl6)
  clear hs0 hoks hb6 hl6 hatS hfS hSE hse hk0 ok0 hl0 hS hpS hlS hkS hmE hmoved hmv HA5 I05 HC5 F5 b1 b2 b3 b4 b5 b6
  have p0 : (w6.alloc (.cells #[.int .i64 wd', .int .i64 hg', .slice c' k' cc'] 24)).cell? ⟨w.heap.size, 0, none⟩ = _ := HA7.out.p.c0
  have p1 : (w6.alloc (.cells #[.int .i64 wd', .int .i64 hg', .slice c' k' cc'] 24)).cell? ⟨w.heap.size, 1, none⟩ = _ := HA7.out.p.c1
  have p2 : (w6.alloc (.cells #[.int .i64 wd', .int .i64 hg', .slice c' k' cc'] 24)).cell? ⟨w.heap.size, 2, none⟩ = _ := HA7.out.p.c2
  go_wp2_with fail
  refine (mencode_tot wd' hg' a0 k' c0 z0 wd' hg' c' k' cc' S s _ I07.out IS7.out).mono ?_
  rw [HME.out, errv_zero rfl]
  rintro e w8 ⟨x', y', b', m', cb', L', rfl, hatL, hok, _, hfL, hb8⟩
  obtain ⟨_, _, _, ex, ey, rfl, eL⟩ := hok rfl
  rw [ex, ey, HMV.out, mrs_self S s s1] at eL
  subst eL
  have HEX := Lib.hid ex
  have HEY := Lib.hid ey
  clear hok ex ey p0 p1 p2
  have hC8 := HC7.out.keep hb8
  have Q := four_set hC8 (.bool false) (.int .i64 x') (.int .i64 y') (.slice b' m' cb')
  have hb8' := hb8
  obtain ⟨W9, hW9⟩ : ∃ W, W = four w8 w2.heap.size (.bool false) (.int .i64 x') (.int .i64 y') (.slice b' m' cb') := ⟨_, rfl⟩
  have c0' := hC8.c0
  have c1' := hC8.c1
  have c2' := hC8.c2
  have c3' := hC8.c3
  have f0 := hb8.free_at LC7 (F7.out 0)
  have f1 := hb8.free_at LC7 (F7.out 1)
  have f2 := hb8.free_at LC7 (F7.out 2)
  have f3 := hb8.free_at LC7 (F7.out 3)
  rw [← hW9] at Q
  have p9 : Cells3 W9 w.heap.size 0 (.int .i64 wd') (.int .i64 hg') (.slice a0 m' c0) := by rw [hW9]; exact cells3_four (HA7.out.p.keep hb8) (by omega)
  have s9 : Cells3 W9 w6.heap.size 0 (.int .i64 wd') (.int .i64 hg') (.slice c' m' cc') := by rw [hW9]; exact cells3_four (SP.out.keep hb8) (by omega)
  have hlat9 : Lat w W9 := by rw [hW9]; exact lat_four (Lat.trans HA7.out.lat hb8) (by omega) _ _ _ _
  have i09 : IntsAt W9 a0 m' c0 z0 := by
    rw [hW9]
    refine ints_four (I07.out.keep hb8) (fun b o e hn => ?_) _ _ _ _
    obtain ⟨b2, o2, e2, hc2⟩ := IW0.out.row.at_ hn
    rw [e] at e2
    injection e2 with e2
    injection e2 with e2 e3 _
    subst e2 e3
    have hlt : b < w.heap.size := World.block_lt_of_cell? _ _ (hc2 0 (by omega))
    omega
  have iS9 : IntsAt W9 c' m' cc' S := by rw [hW9]; exact ints_four (IS7.out.keep hb8) NEC.out _ _ _ _
  have iL9 : IntsAt W9 b' m' cb' (List.replicate m' 0) := by rw [hW9]; exact ints_four hatL (hfL _ LC7) _ _ _ _
  have HP9 := Lib.hid p9
  have HS9 := Lib.hid s9
  have HL9 := Lib.hid hlat9
  have I09 := Lib.hid i09
  have IS9 := Lib.hid iS9
  have IL9 := Lib.hid iL9
  have HQ := Lib.hid Q
  unfold four at hW9
  clear hC8 p9 s9 hlat9 i09 iS9 iL9 Q hatL hfL hb8 hb8'
  go_upto_region 17 with fail
  rw [← hW9]
  clear hW9 c0' c1' c2' c3' f0 f1 f2 f3
  have e3 := HQ.out.c3
  go_wp2_with fail
  go_loop [20] (fun i => ∃ k : Nat, k ≤ m' ∧ i = .int .i64 k) (fun i => m' - (intOf i).toNat)
  case atStart => exact ⟨0, Nat.zero_le _, rfl⟩
  case round =>
    obtain ⟨k, hk, rfl⟩ := hrel
    by_cases hlt : k < m'
    · obtain ⟨b1, o1, rfl, hc⟩ := IL9.out.row.at_ (by omega)
      have c1 := hc k hlt
      have ez : (List.replicate m' (0 : Int)).getD k 0 = 0 := by rw [List.getD_eq_getElem?_getD, List.getElem?_replicate, if_pos hlt]; rfl
      rw [ez] at c1
      clear hc ez
      go_wp2
      go_round
      case rel => exact ⟨k + 1, by omega, by go_num⟩
      case measure => simp [intOf]; omega
    · obtain rfl : k = m' := by omega
      have p0 := HP9.out.c0
      have p1 := HP9.out.c1
      have p2 := HP9.out.c2
      have e0 := HQ.out.c0
      have e1 := HQ.out.c1
      have e2 := HQ.out.c2
      have hbe : behE wd' hg' z0 false x' y' (List.replicate k 0) s = 0 := by
        rw [HEX.out, HEY.out]
        exact behE_of HK0.out s1 s64 HBM.out (rstE_of (by rw [List.length_replicate, HL0.out]) (fun z hz => by rw [List.eq_of_mem_replicate hz]; omega))
      have htl : mtl (shI wd' hg' z0 x' y') (List.replicate k 0) s k = S := by rw [HEX.out, HEY.out, HMV.out]; exact mtl_none S s k k HPS.out
      have HBE := Lib.hid hbe
      have HTL := Lib.hid htl
      clear hbe htl
      go_wp2_with fail
      refine (mdecode_tot wd' hg' a0 k c0 z0 false x' y' b' k cb' (List.replicate k 0) s _ I09.out IL9.out).mono ?_
      rw [HBE.out, errv_zero rfl]
      rintro e w10 ⟨u1, u2, u3, u4, u5, u6, rfl, hatq, hokq, _, _, hb10⟩
      obtain ⟨rfl, rfl, rfl, rfl⟩ := hokq rfl
      rw [HTL.out] at hatq
      have hl10 := Lat.alloc w10 (.cells #[.int .i64 u1, .int .i64 u2, .slice u3 u4 u5] 24)
      have s10 := HS9.out.keep (Lat.trans hb10 hl10)
      have s0 := s10.c0
      have s1' := s10.c1
      have s2 := s10.c2
      have IQ := Lib.hid (hatq.keep hl10)
      have IS10 := Lib.hid (IS9.out.keep (Lat.trans hb10 hl10))
      have HL10 := Lib.hid (Lat.trans HL9.out (Lat.trans hb10 hl10))
      have hlt10 : w6.heap.size < w10.heap.size := World.block_lt_of_cell? _ _ (HS9.out.keep hb10).c0
      have hsame : sameP u1 u2 S u1 u2 S = true := decide_eq_true ⟨rfl, rfl, rfl⟩
      have HSM := Lib.hid hsame
      clear hokq hatq hb10 hl10 s10 p0 p1 p2 e0 e1 e2 e3 hsame
      go_wp2_with fail
      refine (samePic_any u1 u2 u3 u4 u5 S u1 u2 c' u4 cc' S _ IQ.out IS10.out).mono ?_
      rw [HSM.out]
      rintro e w11 ⟨rfl, hb11⟩
      go_wp2
      go_ret
      exact ⟨rfl, Lat.trans HL10.out hb11⟩
end Go.Proofs.Ytnnjijdpenifjaa
