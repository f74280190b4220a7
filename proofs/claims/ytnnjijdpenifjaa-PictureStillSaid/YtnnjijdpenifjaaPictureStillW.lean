/- The walk of PictureStill: it returns true, whatever it is asked. -/
import Derived.Test.YtnnjijdpenifjaaShiftC
import Derived.Test.YtnnjijdpenifjaaFlat
import Derived.Test.YtnnjijdpenifjaaAloneFlatW
namespace Go.Proofs.Ytnnjijdpenifjaa
open Go.ChangeShapes Go.WideShapes Go.ChangeAt Go.RowKit

set_option maxHeartbeats 4000000 in
set_option maxRecDepth 100000 in
theorem walk_pictureStill (wd hg : Int) (a : Option Addr) (n cap : Nat) (zs : List Int) (b1 b2 b3 mx my : Int) (w : World) (h : PicAt w wd hg a n cap zs) (_ : (Lit.int .i64 b1).wf = true) (_ : (Lit.int .i64 b2).wf = true) (_ : (Lit.int .i64 b3).wf = true) (_ : MoveAt mx my) :
    Calls Try.prog 4 #[picV wd hg a n cap, .int .i64 b1, .int .i64 b2, .int .i64 b3, .agg #[.int .i64 mx, .int .i64 my]] w fun e w' => e = .returned (.bool true) ∧ Lat w w' := by
  obtain ⟨W0, hW0⟩ : ∃ W, W = (w.alloc (.cells #[.int .i64 wd, .int .i64 hg, .slice a n cap] 24)).alloc (.cells #[.int .i64 mx, .int .i64 my] 26) := ⟨_, rfl⟩
  have l2 := Lat.alloc (w.alloc (.cells #[.int .i64 wd, .int .i64 hg, .slice a n cap] 24)) (.cells #[.int .i64 mx, .int .i64 my] 26)
  have l1 := Lat.alloc w (.cells #[.int .i64 wd, .int .i64 hg, .slice a n cap] 24)
  rw [← hW0] at l2
  have HL0 := Lib.hid (Lat.trans l1 l2)
  have HP := Lib.hid (Cells3.keep (cells3_new (w := w) (g := w.heap.size) (o := 0) (t := 24) (x := .int .i64 wd) (y := .int .i64 hg) (z := .slice a n cap) rfl rfl rfl rfl) l2)
  have HM := Lib.hid (show W0.cell? ⟨w.heap.size + 1, 0, none⟩ = some (.int .i64 mx) ∧ W0.cell? ⟨w.heap.size + 1, 1, none⟩ = some (.int .i64 my) by rw [hW0]; exact ⟨cell_new (by simp) rfl, cell_new (by simp) rfl⟩)
  have HAT := Lib.hid (h.pix.keep (Lat.trans l1 l2))
  obtain ⟨E, hE⟩ : ∃ E, E = shE wd hg zs 0 0 := ⟨_, rfl⟩
  have hsh := shift_tot wd hg a n cap zs 0 0 W0 HAT.out
  rw [← hE] at hsh
  have HSH := Lib.hid hsh
  have hSP : sameP wd hg zs wd hg zs = true := decide_eq_true ⟨rfl, rfl, rfl⟩
  have hSN : E = 0 → shf wd.toNat hg.toNat zs 0 0 n = zs := fun h0 => by
    rw [hE] at h0
    have hok := chkPic_ok (shE_zero h0).1
    have hl := h.pix.len
    have := shf_none wd.toNat hg.toNat zs (by have := hok.w1; omega) (by
      have h1 := hok.len
      have h2 := hok.w1
      have h3 := hok.h1
      have e : ((wd.toNat * hg.toNat : Nat) : Int) = wd * hg := by rw [Int.natCast_mul, Int.toNat_of_nonneg (by omega), Int.toNat_of_nonneg (by omega)]
      omega)
    rw [← hl]; exact this
  have SP := Lib.hid hSP
  clear l1 l2 hsh hE hSP h
  have hF : (Hid (flE b1 b2 b3 ≠ 0) ∧ decide (b1 < 1) = true) ∨ (Hid (flE b1 b2 b3 ≠ 0) ∧ decide (b1 < 1) = false ∧ decide (6 < b1) = true) ∨ (Hid (flE b1 b2 b3 ≠ 0) ∧ decide (b1 < 1) = false ∧ decide (6 < b1) = false ∧ decide (b2 < 1) = true) ∨
      (Hid (flE b1 b2 b3 ≠ 0) ∧ decide (b1 < 1) = false ∧ decide (6 < b1) = false ∧ decide (b2 < 1) = false ∧ decide (6 < b2) = true) ∨ (Hid (flE b1 b2 b3 ≠ 0) ∧ decide (b1 < 1) = false ∧ decide (6 < b1) = false ∧ decide (b2 < 1) = false ∧ decide (6 < b2) = false ∧ decide (b3 < 0) = true) ∨
      (Hid (flE b1 b2 b3 ≠ 0) ∧ decide (b1 < 1) = false ∧ decide (6 < b1) = false ∧ decide (b2 < 1) = false ∧ decide (6 < b2) = false ∧ decide (b3 < 0) = false ∧ decide (255 < b3) = true) ∨
      (Hid (flE b1 b2 b3 = 0) ∧ ∃ n2 : Nat, (n2 : Int) = b1 * b2 ∧ n2 ≤ 36) := by
    by_cases hf : flE b1 b2 b3 = 0
    · obtain ⟨n2, h1, h2⟩ := flE_prod hf
      exact .inr (.inr (.inr (.inr (.inr (.inr ⟨Lib.hid hf, n2, h1, h2⟩)))))
    · have h1 := flE_one hf
      have H := Lib.hid hf
      by_cases q1 : b1 < 1
      · exact .inl ⟨H, decide_eq_true q1⟩
      refine .inr ?_
      by_cases q2 : 6 < b1
      · exact .inl ⟨H, decide_eq_false q1, decide_eq_true q2⟩
      refine .inr ?_
      by_cases q3 : b2 < 1
      · exact .inl ⟨H, decide_eq_false q1, decide_eq_false q2, decide_eq_true q3⟩
      refine .inr ?_
      by_cases q4 : 6 < b2
      · exact .inl ⟨H, decide_eq_false q1, decide_eq_false q2, decide_eq_false q3, decide_eq_true q4⟩
      refine .inr ?_
      by_cases q5 : b3 < 0
      · exact .inl ⟨H, decide_eq_false q1, decide_eq_false q2, decide_eq_false q3, decide_eq_false q4, decide_eq_true q5⟩
      refine .inr (.inl ⟨H, decide_eq_false q1, decide_eq_false q2, decide_eq_false q3, decide_eq_false q4, decide_eq_false q5, decide_eq_true (by omega)⟩)
  have HFL : Hid (∀ n2 : Nat, (n2 : Int) = b1 * b2 → flE b1 b2 b3 = 0 → shf b1.toNat b2.toNat (List.replicate n2 b3) mx my n2 = List.replicate n2 b3) := Lib.hid fun n2 e h0 => by
    obtain ⟨q1, q2, q3, q4, _, _⟩ := flE_zero h0
    exact shf_flat _ _ _ _ _ _ _ (by omega) (by omega) (by
      have e2 : ((b1.toNat * b2.toNat : Nat) : Int) = b1 * b2 := by rw [Int.natCast_mul, Int.toNat_of_nonneg (by omega), Int.toNat_of_nonneg (by omega)]
      omega)
  by_cases hE0 : E = 0
  case pos =>
    have SN := Lib.hid (hSN hE0)
    have EZ := Lib.hid hE0
    clear hSN hE0
    go_enter Try.func4, Try.ntmps4
    go_upto_region 1 with fail
    rw [← hW0]
    clear hW0
    have c0 : W0.cell? ⟨w.heap.size, 0, none⟩ = _ := HP.out.c0
    have c1 : W0.cell? ⟨w.heap.size, 1, none⟩ = _ := HP.out.c1
    have c2 : W0.cell? ⟨w.heap.size, 2, none⟩ = _ := HP.out.c2
    go_wp2_with fail
    refine HSH.out.mono ?_
    rintro e w1 ⟨wd', hg', b, m, c, L, rfl, hat, hq, hb1⟩
    have p0 := hb1.cell_at c0
    have p1 := hb1.cell_at c1
    have p2 := hb1.cell_at c2
    have m0 := hb1.cell_at HM.out.1
    have m1 := hb1.cell_at HM.out.2
    have hlt1 : w.heap.size < w1.heap.size := World.block_lt_of_cell? _ _ p0
    have hlt2 : w.heap.size + 1 < w1.heap.size := World.block_lt_of_cell? _ _ m0
    have hl1 := Lat.alloc w1 (.cells #[.int .i64 wd', .int .i64 hg', .slice b m c] 24)
    have HB1 := Lib.hid (Lat.trans HL0.out (Lat.trans hb1 hl1))
    have HAT1 := Lib.hid (hat.keep hl1)
    have HAT0 := Lib.hid (HAT.out.keep (Lat.trans hb1 hl1))
    have HMW := Lib.hid (show _ ∧ _ from ⟨hl1.cell_at m0, hl1.cell_at m1⟩)
    clear c0 c1 c2 hb1 hl1 hat
    obtain ⟨rfl, rfl, rfl, rfl⟩ := hq EZ.out
    rw [EZ.out, errv_zero rfl]
    have HAT2 := Lib.hid (show IntsAt _ b m c zs by have := HAT1.out; rw [SN.out] at this; exact this)
    clear hq
    clear HAT1
    go_wp2_with fail
    refine (samePic_any wd' hg' b m c zs wd' hg' a m cap zs _ HAT2.out HAT0.out).mono ?_
    rw [SP.out]
    rintro e w2 ⟨rfl, hb2⟩
    have HB2 := Lib.hid (Lat.trans HB1.out hb2)
    have HM2 := Lib.hid (show _ ∧ _ from ⟨hb2.cell_at HMW.out.1, hb2.cell_at HMW.out.2⟩)
    clear m0 m1 p0 p1 p2 hb2
    go_wp2_with fail
    rcases hF with ⟨FE, d1⟩ | ⟨FE, d1, d2⟩ | ⟨FE, d1, d2, d3⟩ | ⟨FE, d1, d2, d3, d4⟩ | ⟨FE, d1, d2, d3, d4, d5⟩ | ⟨FE, d1, d2, d3, d4, d5, d6⟩ | ⟨FE, n2, hn2, hn36⟩
    case inr.inr.inr.inr.inr.inr =>
      have HN2 := Lib.hid hn2
      have hmul : b1 * b2 = (n2 : Int) := hn2.symm
      have hmul2 : (n2 : Int) = b1 * b2 := hn2
      clear hn2 hmul2
      refine (flat_ok b1 b2 b3 n2 _ FE.out HN2.out).mono ?_
      rintro e w3 ⟨b4, c4, rfl, hat3, hb3⟩
      have hl3 := Lat.alloc w3 (.cells #[.int .i64 b1, .int .i64 b2, .slice b4 n2 c4] 24)
      have HAT3 := Lib.hid (hat3.keep hl3)
      have m0' := (Lat.trans hb3 hl3).cell_at HM2.out.1
      have m1' := (Lat.trans hb3 hl3).cell_at HM2.out.2
      have m0 := hb3.cell_at HM2.out.1
      have m1 := hb3.cell_at HM2.out.2
      have hlt3 : w.heap.size + 1 < w3.heap.size := World.block_lt_of_cell? _ _ m0
      have HB3 := Lib.hid (Lat.trans HB2.out (Lat.trans hb3 hl3))
      clear hat3 hb3 hl3 m0' m1'
      go_wp2_with fail
      refine (shift_tot b1 b2 b4 n2 c4 _ mx my _ HAT3.out).mono ?_
      rintro e w4 ⟨wd5, hg5, b5, m5, c5, L5, rfl, hat5, hq5, hb4⟩
      have k0 : w4.cell? ⟨w3.heap.size, 0, none⟩ = some (.int .i64 b1) := hb4.cell_at (by simp)
      have k1 : w4.cell? ⟨w3.heap.size, 1, none⟩ = some (.int .i64 b2) := hb4.cell_at (by simp)
      have k2 : w4.cell? ⟨w3.heap.size, 2, none⟩ = some (.slice b4 n2 c4) := hb4.cell_at (by simp)
      have hlt4 : w3.heap.size < w4.heap.size := World.block_lt_of_cell? _ _ k0
      have hl4 := Lat.alloc w4 (.cells #[.int .i64 wd5, .int .i64 hg5, .slice b5 m5 c5] 24)
      have HAT5 := Lib.hid (hat5.keep hl4)
      have HAT4 := Lib.hid (HAT3.out.keep (Lat.trans hb4 hl4))
      have HB4 := Lib.hid (Lat.trans HB3.out (Lat.trans hb4 hl4))
      clear hat5 hb4 hl4 m0 m1
      by_cases h0 : shE b1 b2 (List.replicate n2 b3) mx my = 0
      case pos =>
        have hfl := HFL.out n2 HN2.out FE.out
        obtain ⟨rfl, rfl, rfl, rfl⟩ := hq5 h0
        rw [h0, errv_zero rfl]
        rw [hfl] at HAT5
        clear hq5 h0 hfl
        go_wp2_with fail
        refine (samePic_any _ _ b5 _ c5 _ _ _ b4 _ c4 _ _ HAT5.out HAT4.out).mono ?_
        rw [show sameP wd5 hg5 (List.replicate m5 b3) wd5 hg5 (List.replicate m5 b3) = true from decide_eq_true ⟨rfl, rfl, rfl⟩]
        rintro e w5 ⟨rfl, hb5⟩
        go_wp2
        go_ret
        exact ⟨rfl, Lat.trans HB4.out hb5⟩
      case neg =>
        rw [errv_pos h0]
        clear h0 hq5
        go_wp2
        go_ret
        exact ⟨rfl, HB4.out⟩
    all_goals
      refine (flat_bad b1 b2 b3 _ FE.out).mono ?_
      rintro e w3 ⟨rfl, hb3⟩
      have HB3 := Lib.hid (Lat.trans HB2.out (Lat.trans hb3 (Lat.alloc w3 (.cells #[.int .i64 0, .int .i64 0, .slice none 0 0] 24))))
      clear hb3
      go_wp2
      go_ret
      exact ⟨rfl, HB3.out⟩
  case neg =>
    have EN := Lib.hid hE0
    clear hSN hE0 SP
    go_enter Try.func4, Try.ntmps4
    go_upto_region 1 with fail
    rw [← hW0]
    clear hW0
    have c0 : W0.cell? ⟨w.heap.size, 0, none⟩ = _ := HP.out.c0
    have c1 : W0.cell? ⟨w.heap.size, 1, none⟩ = _ := HP.out.c1
    have c2 : W0.cell? ⟨w.heap.size, 2, none⟩ = _ := HP.out.c2
    go_wp2_with fail
    refine HSH.out.mono ?_
    rintro e w1 ⟨wd', hg', b, m, c, L, rfl, hat, hq, hb1⟩
    have p0 := hb1.cell_at c0
    have p1 := hb1.cell_at c1
    have p2 := hb1.cell_at c2
    have m0 := hb1.cell_at HM.out.1
    have m1 := hb1.cell_at HM.out.2
    have hlt1 : w.heap.size < w1.heap.size := World.block_lt_of_cell? _ _ p0
    have hlt2 : w.heap.size + 1 < w1.heap.size := World.block_lt_of_cell? _ _ m0
    have hl1 := Lat.alloc w1 (.cells #[.int .i64 wd', .int .i64 hg', .slice b m c] 24)
    have HB1 := Lib.hid (Lat.trans HL0.out (Lat.trans hb1 hl1))
    have HAT1 := Lib.hid (hat.keep hl1)
    have HAT0 := Lib.hid (HAT.out.keep (Lat.trans hb1 hl1))
    have HMW := Lib.hid (show _ ∧ _ from ⟨hl1.cell_at m0, hl1.cell_at m1⟩)
    clear c0 c1 c2 hb1 hl1 hat
    rw [errv_pos EN.out]
    clear hq
    clear m0 m1 p0 p1 p2
    go_wp2_with fail
    rcases hF with ⟨FE, d1⟩ | ⟨FE, d1, d2⟩ | ⟨FE, d1, d2, d3⟩ | ⟨FE, d1, d2, d3, d4⟩ | ⟨FE, d1, d2, d3, d4, d5⟩ | ⟨FE, d1, d2, d3, d4, d5, d6⟩ | ⟨FE, n2, hn2, hn36⟩
    case inr.inr.inr.inr.inr.inr =>
      have HN2 := Lib.hid hn2
      have hmul : b1 * b2 = (n2 : Int) := hn2.symm
      have hmul2 : (n2 : Int) = b1 * b2 := hn2
      clear hn2 hmul2
      refine (flat_ok b1 b2 b3 n2 _ FE.out HN2.out).mono ?_
      rintro e w3 ⟨b4, c4, rfl, hat3, hb3⟩
      have hl3 := Lat.alloc w3 (.cells #[.int .i64 b1, .int .i64 b2, .slice b4 n2 c4] 24)
      have HAT3 := Lib.hid (hat3.keep hl3)
      have m0' := (Lat.trans hb3 hl3).cell_at HMW.out.1
      have m1' := (Lat.trans hb3 hl3).cell_at HMW.out.2
      have m0 := hb3.cell_at HMW.out.1
      have m1 := hb3.cell_at HMW.out.2
      have hlt3 : w.heap.size + 1 < w3.heap.size := World.block_lt_of_cell? _ _ m0
      have HB3 := Lib.hid (Lat.trans HB1.out (Lat.trans hb3 hl3))
      clear hat3 hb3 hl3 m0' m1'
      go_wp2_with fail
      refine (shift_tot b1 b2 b4 n2 c4 _ mx my _ HAT3.out).mono ?_
      rintro e w4 ⟨wd5, hg5, b5, m5, c5, L5, rfl, hat5, hq5, hb4⟩
      have k0 : w4.cell? ⟨w3.heap.size, 0, none⟩ = some (.int .i64 b1) := hb4.cell_at (by simp)
      have k1 : w4.cell? ⟨w3.heap.size, 1, none⟩ = some (.int .i64 b2) := hb4.cell_at (by simp)
      have k2 : w4.cell? ⟨w3.heap.size, 2, none⟩ = some (.slice b4 n2 c4) := hb4.cell_at (by simp)
      have hlt4 : w3.heap.size < w4.heap.size := World.block_lt_of_cell? _ _ k0
      have hl4 := Lat.alloc w4 (.cells #[.int .i64 wd5, .int .i64 hg5, .slice b5 m5 c5] 24)
      have HAT5 := Lib.hid (hat5.keep hl4)
      have HAT4 := Lib.hid (HAT3.out.keep (Lat.trans hb4 hl4))
      have HB4 := Lib.hid (Lat.trans HB3.out (Lat.trans hb4 hl4))
      clear hat5 hb4 hl4 m0 m1
      by_cases h0 : shE b1 b2 (List.replicate n2 b3) mx my = 0
      case pos =>
        have hfl := HFL.out n2 HN2.out FE.out
        obtain ⟨rfl, rfl, rfl, rfl⟩ := hq5 h0
        rw [h0, errv_zero rfl]
        rw [hfl] at HAT5
        clear hq5 h0 hfl
        go_wp2_with fail
        refine (samePic_any _ _ b5 _ c5 _ _ _ b4 _ c4 _ _ HAT5.out HAT4.out).mono ?_
        rw [show sameP wd5 hg5 (List.replicate m5 b3) wd5 hg5 (List.replicate m5 b3) = true from decide_eq_true ⟨rfl, rfl, rfl⟩]
        rintro e w5 ⟨rfl, hb5⟩
        go_wp2
        go_ret
        exact ⟨rfl, Lat.trans HB4.out hb5⟩
      case neg =>
        rw [errv_pos h0]
        clear h0 hq5
        go_wp2
        go_ret
        exact ⟨rfl, HB4.out⟩
    all_goals
      refine (flat_bad b1 b2 b3 _ FE.out).mono ?_
      rintro e w3 ⟨rfl, hb3⟩
      have HB3 := Lib.hid (Lat.trans HB1.out (Lat.trans hb3 (Lat.alloc w3 (.cells #[.int .i64 0, .int .i64 0, .slice none 0 0] 24))))
      clear hb3
      go_wp2
      go_ret
      exact ⟨rfl, HB3.out⟩
end Go.Proofs.Ytnnjijdpenifjaa
