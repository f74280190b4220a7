/- The contracts of picture.Shift. -/
import Derived.Test.YtnnjijdpenifjaaDoorShift
namespace Go.Proofs.YtnnjijdpenifjaaDoor
open Go.ChangeShapes Go.WideShapes Go.ChangeAt Go.RowKit

def mvB (mx my : Int) : Bool := decide (-6 ≤ mx ∧ mx ≤ 6 ∧ -6 ≤ my ∧ my ≤ 6)
def shE (wd hg : Int) (zs : List Int) (mx my : Int) : Nat := if chkPic wd hg zs ≠ 0 then chkPic wd hg zs else if mvB mx my = false then 1 else 0
theorem shE_zero {wd hg : Int} {zs : List Int} {mx my : Int} (h : shE wd hg zs mx my = 0) : chkPic wd hg zs = 0 ∧ -6 ≤ mx ∧ mx ≤ 6 ∧ -6 ≤ my ∧ my ≤ 6 := by
  unfold shE at h
  split at h
  · rename_i h1; exact absurd h h1
  · rename_i h1
    split at h
    · omega
    · rename_i h2
      have h3 : mvB mx my = true := by cases hq : mvB mx my <;> simp_all
      simp only [mvB, decide_eq_true_eq] at h3
      omega
theorem shE_of {wd hg : Int} {zs : List Int} {mx my : Int} (h : chkPic wd hg zs = 0) (h1 : -6 ≤ mx) (h2 : mx ≤ 6) (h3 : -6 ≤ my) (h4 : my ≤ 6) : shE wd hg zs mx my = 0 := by
  unfold shE
  have : mvB mx my = true := decide_eq_true ⟨h1, h2, h3, h4⟩
  rw [if_neg (by omega), if_neg (by simp [this])]
/-- What stands behind the boxing. -/
structure ShW (w W : World) (wd hg : Int) (a : Option Addr) (n cap : Nat) (mx my : Int) : Prop where
  lat : Lat w W
  p : Cells3 W w.heap.size 0 (.int .i64 wd) (.int .i64 hg) (.slice a n cap)
  m0 : W.cell? ⟨w.heap.size + 1, 0, none⟩ = some (.int .i64 mx)
  m1 : W.cell? ⟨w.heap.size + 1, 1, none⟩ = some (.int .i64 my)
  r : Cells3 W (w.heap.size + 1 + 1) 0 (.int .i64 0) (.int .i64 0) (.slice none 0 0)
  rf0 : W.frozen? ⟨w.heap.size + 1 + 1, 0, none⟩ = false
  rf1 : W.frozen? ⟨w.heap.size + 1 + 1, 1, none⟩ = false
  rf2 : W.frozen? ⟨w.heap.size + 1 + 1, 2, none⟩ = false
  sz : w.heap.size + 1 + 1 < W.heap.size
theorem ShW.keep {w W W1 : World} {wd hg : Int} {a : Option Addr} {n cap : Nat} {mx my : Int} (h : ShW w W wd hg a n cap mx my) (hb : Lat W W1) : ShW w W1 wd hg a n cap mx my :=
  ⟨Lat.trans h.lat hb, h.p.keep hb, hb.cell_at h.m0, hb.cell_at h.m1, h.r.keep hb, hb.free_at h.sz h.rf0, hb.free_at h.sz h.rf1, hb.free_at h.sz h.rf2, Nat.lt_of_lt_of_le h.sz hb.size⟩
theorem sh_open (w : World) (wd hg : Int) (a : Option Addr) (n cap : Nat) (mx my : Int) : ShW w (((w.alloc (.cells #[.int .i64 wd, .int .i64 hg, .slice a n cap] 24)).alloc (.cells #[.int .i64 mx, .int .i64 my] 44)).alloc (.cells #[.int .i64 0, .int .i64 0, .slice none 0 0] 24)) wd hg a n cap mx my := by
  have l3 := Lat.alloc ((w.alloc (.cells #[.int .i64 wd, .int .i64 hg, .slice a n cap] 24)).alloc (.cells #[.int .i64 mx, .int .i64 my] 44)) (.cells #[.int .i64 0, .int .i64 0, .slice none 0 0] 24)
  have l2 := Lat.alloc (w.alloc (.cells #[.int .i64 wd, .int .i64 hg, .slice a n cap] 24)) (.cells #[.int .i64 mx, .int .i64 my] 44)
  have l1 := Lat.alloc w (.cells #[.int .i64 wd, .int .i64 hg, .slice a n cap] 24)
  exact ⟨Lat.trans l1 (Lat.trans l2 l3), (cells3_new rfl rfl rfl rfl).keep (Lat.trans l2 l3), l3.cell_at (cell_new (by simp) rfl), l3.cell_at (cell_new (by simp) rfl), cells3_new (by simp) rfl rfl rfl,
    free_new (by simp), free_new (by simp), free_new (by simp), by simp⟩
set_option maxHeartbeats 2000000 in
set_option maxRecDepth 100000 in
theorem shift_bad (wd hg : Int) (a : Option Addr) (n cap : Nat) (zs : List Int) (mx my : Int) (w : World) (h : IntsAt w a n cap zs) (he : shE wd hg zs mx my ≠ 0) :
    Calls Tryd.prog 26 #[picV wd hg a n cap, .agg #[.int .i64 mx, .int .i64 my]] w fun e w' => e = .returned (.tuple #[picV 0 0 none 0 0, errv (shE wd hg zs mx my)]) ∧ Lat w w' := by
  obtain ⟨W0, hW0⟩ : ∃ W, W = ((w.alloc (.cells #[.int .i64 wd, .int .i64 hg, .slice a n cap] 24)).alloc (.cells #[.int .i64 mx, .int .i64 my] 44)).alloc (.cells #[.int .i64 0, .int .i64 0, .slice none 0 0] 24) := ⟨_, rfl⟩
  have hs := sh_open w wd hg a n cap mx my
  rw [← hW0] at hs
  have HAT := Lib.hid (h.keep hs.lat)
  obtain ⟨C, hC⟩ : ∃ C, C = chkPic wd hg zs := ⟨_, rfl⟩
  obtain ⟨E, hE⟩ : ∃ E, E = shE wd hg zs mx my := ⟨_, rfl⟩
  have hchk := pchk_any wd hg a n cap zs W0 HAT.out
  rw [← hC] at hchk
  rw [← hE]
  have hd : (C ≠ 0 ∧ E = C) ∨ (C = 0 ∧ E = 1 ∧ (decide (mx < -6) = true ∨ (decide (mx < -6) = false ∧ decide (6 < mx) = true) ∨ (decide (mx < -6) = false ∧ decide (6 < mx) = false ∧ decide (my < -6) = true) ∨
      (decide (mx < -6) = false ∧ decide (6 < mx) = false ∧ decide (my < -6) = false ∧ decide (6 < my) = true))) := by
    unfold shE at hE
    rw [← hC] at hE
    by_cases hc : C = 0
    · rw [if_neg (by omega)] at hE
      by_cases hm : mvB mx my = false
      · rw [if_pos hm] at hE
        simp only [mvB, decide_eq_false_iff_not] at hm
        refine .inr ⟨hc, hE, ?_⟩
        by_cases q1 : mx < -6
        · exact .inl (decide_eq_true q1)
        · by_cases q2 : 6 < mx
          · exact .inr (.inl ⟨decide_eq_false q1, decide_eq_true q2⟩)
          · by_cases q3 : my < -6
            · exact .inr (.inr (.inl ⟨decide_eq_false q1, decide_eq_false q2, decide_eq_true q3⟩))
            · exact .inr (.inr (.inr ⟨decide_eq_false q1, decide_eq_false q2, decide_eq_false q3, decide_eq_true (by omega)⟩))
      · rw [if_neg hm] at hE
        exfalso
        apply he
        unfold shE
        rw [← hC, if_neg (by omega), if_neg hm]
    · rw [if_pos hc] at hE
      exact .inl ⟨hc, hE⟩
  have HS := Lib.hid hs
  have HCK := Lib.hid hchk
  have HE := Lib.hid hE
  clear h hs hchk he hE hC
  rcases hd with ⟨hc, he⟩ | ⟨hc, he, hd⟩
  case inl =>
    subst he
    rw [errv_pos hc]
    have HC := Lib.hid hc
    clear hc
    go_enter Tryd.func26, Tryd.ntmps26
    go_upto_region 1 with fail
    rw [← hW0]
    clear hW0
    have c0 : W0.cell? ⟨w.heap.size, 0, none⟩ = _ := HS.out.p.c0
    have c1 : W0.cell? ⟨w.heap.size, 1, none⟩ = _ := HS.out.p.c1
    have c2 : W0.cell? ⟨w.heap.size, 2, none⟩ = _ := HS.out.p.c2
    go_wp2_with fail
    refine HCK.out.mono ?_
    rw [errv_pos HC.out]
    rintro e w1 ⟨rfl, hb1⟩
    have h1 := HS.out.keep hb1
    have r0 : w1.cell? ⟨w.heap.size + 1 + 1, 0, none⟩ = _ := h1.r.c0
    have r1 : w1.cell? ⟨w.heap.size + 1 + 1, 1, none⟩ = _ := h1.r.c1
    have r2 : w1.cell? ⟨w.heap.size + 1 + 1, 2, none⟩ = _ := h1.r.c2
    have f0 := h1.rf0
    have f1 := h1.rf1
    have f2 := h1.rf2
    have Q := Lib.hid (three_set r0 r1 r2 (.int .i64 0) (.int .i64 0) (.slice none 0 0))
    have HL := Lib.hid (lat_three h1.lat (show w.heap.size ≤ w.heap.size + 1 + 1 by omega) (.int .i64 0) (.int .i64 0) (.slice none 0 0))
    clear h1 hb1 c0 c1 c2
    go_wp2
    exact bodyPost_ret (v := .tuple #[picV 0 0 none 0 0, eno E]) (by simp [results, Tryd.results26, go_sem, Q.out.1, Q.out.2.1, Q.out.2.2]) rfl ⟨rfl, HL.out⟩
  case inr =>
    subst he
    subst hc
    rcases hd with d1 | ⟨d1, d2⟩ | ⟨d1, d2, d3⟩ | ⟨d1, d2, d3, d4⟩
    all_goals
      go_enter Tryd.func26, Tryd.ntmps26
      go_upto_region 1 with fail
      rw [← hW0]
      clear hW0
      have c0 : W0.cell? ⟨w.heap.size, 0, none⟩ = _ := HS.out.p.c0
      have c1 : W0.cell? ⟨w.heap.size, 1, none⟩ = _ := HS.out.p.c1
      have c2 : W0.cell? ⟨w.heap.size, 2, none⟩ = _ := HS.out.p.c2
      go_wp2_with fail
      refine HCK.out.mono ?_
      rw [errv_zero rfl]
      rintro e w1 ⟨rfl, hb1⟩
      have h1 := HS.out.keep hb1
      have m0 : w1.cell? ⟨w.heap.size + 1, 0, none⟩ = _ := h1.m0
      have m1 : w1.cell? ⟨w.heap.size + 1, 1, none⟩ = _ := h1.m1
      have r0 : w1.cell? ⟨w.heap.size + 1 + 1, 0, none⟩ = _ := h1.r.c0
      have r1 : w1.cell? ⟨w.heap.size + 1 + 1, 1, none⟩ = _ := h1.r.c1
      have r2 : w1.cell? ⟨w.heap.size + 1 + 1, 2, none⟩ = _ := h1.r.c2
      have f0 := h1.rf0
      have f1 := h1.rf1
      have f2 := h1.rf2
      have Q := Lib.hid (three_set r0 r1 r2 (.int .i64 0) (.int .i64 0) (.slice none 0 0))
      have HL := Lib.hid (lat_three h1.lat (show w.heap.size ≤ w.heap.size + 1 + 1 by omega) (.int .i64 0) (.int .i64 0) (.slice none 0 0))
      clear h1 hb1 c0 c1 c2
      go_wp2
      exact bodyPost_ret (v := .tuple #[picV 0 0 none 0 0, errv 1]) (by simp [results, Tryd.results26, go_sem, Q.out.1, Q.out.2.1, Q.out.2.2, errv, eno]) rfl ⟨rfl, HL.out⟩

set_option maxHeartbeats 2000000 in
set_option maxRecDepth 100000 in
theorem shift_okF (wd hg : Nat) (a : Option Addr) (n cap : Nat) (zs : List Int) (mx my : Int) (w : World) (h : IntsAt w a n cap zs) (he : shE wd hg zs mx my = 0) :
    Calls Tryd.prog 26 #[picV wd hg a n cap, .agg #[.int .i64 mx, .int .i64 my]] w fun e w' => ∃ b c, e = .returned (.tuple #[picV wd hg b n c, .nilIface]) ∧ IntsAt w' b n c (shf wd hg zs mx my n) ∧ Fresh w b n ∧ Lat w w' := by
  obtain ⟨hc, x1, x2, y1, y2⟩ := shE_zero he
  have hok := chkPic_ok hc
  have hn : wd * hg = n := by
    have := hok.len
    rw [h.len, ← Int.natCast_mul] at this
    omega
  have w1 : 1 ≤ wd := by have := hok.w1; omega
  have w6 : wd ≤ 6 := by have := hok.w6; omega
  have g1 : 1 ≤ hg := by have := hok.h1; omega
  have g6 : hg ≤ 6 := by have := hok.h6; omega
  have hwf : ∀ z ∈ shf wd hg zs mx my n, -9223372036854775808 ≤ z ∧ z ≤ 9223372036854775807 := fun z hz => by have := shf_mem hok.pix z hz; omega
  obtain ⟨W0, hW0⟩ : ∃ W, W = ((w.alloc (.cells #[.int .i64 wd, .int .i64 hg, .slice a n cap] 24)).alloc (.cells #[.int .i64 mx, .int .i64 my] 44)).alloc (.cells #[.int .i64 0, .int .i64 0, .slice none 0 0] 24) := ⟨_, rfl⟩
  have hs := sh_open w wd hg a n cap mx my
  rw [← hW0] at hs
  have HAT := Lib.hid (h.keep hs.lat)
  have hchk := pchk_any wd hg a n cap zs W0 HAT.out
  rw [hc, errv_zero rfl] at hchk
  have HWF := Lib.hid hwf
  have HN := Lib.hid hn
  have HS := Lib.hid hs
  have HCK := Lib.hid hchk
  have d1 : decide (mx < -6) = false := decide_eq_false (by omega)
  have d2 : decide (6 < mx) = false := decide_eq_false (by omega)
  have d3 : decide (my < -6) = false := decide_eq_false (by omega)
  have d4 : decide (6 < my) = false := decide_eq_false (by omega)
  clear h hs hchk he hc hok hn hwf
  go_enter Tryd.func26, Tryd.ntmps26
  go_upto_region 1 with fail
  rw [← hW0]
  clear hW0
  have c0 : W0.cell? ⟨w.heap.size, 0, none⟩ = _ := HS.out.p.c0
  have c1 : W0.cell? ⟨w.heap.size, 1, none⟩ = _ := HS.out.p.c1
  have c2 : W0.cell? ⟨w.heap.size, 2, none⟩ = _ := HS.out.p.c2
  go_wp2_with fail
  refine HCK.out.mono ?_
  rintro e w2 ⟨rfl, hb1⟩
  have h1 := HS.out.keep hb1
  have HAT1 := Lib.hid (HAT.out.keep hb1)
  have HS1 := Lib.hid h1
  have m0 : w2.cell? ⟨w.heap.size + 1, 0, none⟩ = _ := h1.m0
  have m1 : w2.cell? ⟨w.heap.size + 1, 1, none⟩ = _ := h1.m1
  have p0 : w2.cell? ⟨w.heap.size, 0, none⟩ = _ := h1.p.c0
  have p1 : w2.cell? ⟨w.heap.size, 1, none⟩ = _ := h1.p.c1
  have p2 : w2.cell? ⟨w.heap.size, 2, none⟩ = _ := h1.p.c2
  clear h1 hb1 c0 c1 c2
  go_wp2_with fail
  refine (shifted_any wd hg a n cap zs mx my w2 HAT1.out HN.out w1 w6 g1 g6 x1 x2 y1 y2).mono ?_
  rintro e w3 ⟨v, rfl, hown, hb2⟩
  have h2 := HS1.out.keep hb2
  have hsz2 := HS1.out.sz
  obtain ⟨b, c, rfl, hat⟩ := OwnInts.sliceN hown HWF.out (shf_length _ _ _ _ _ _)
  have r0 : w3.cell? ⟨w.heap.size + 1 + 1, 0, none⟩ = _ := h2.r.c0
  have r1 : w3.cell? ⟨w.heap.size + 1 + 1, 1, none⟩ = _ := h2.r.c1
  have r2 : w3.cell? ⟨w.heap.size + 1 + 1, 2, none⟩ = _ := h2.r.c2
  have f0 := h2.rf0
  have f1 := h2.rf1
  have f2 := h2.rf2
  have Q := Lib.hid (three_set r0 r1 r2 (.int .i64 wd) (.int .i64 hg) (.slice b n c))
  have HL := Lib.hid (lat_three h2.lat (show w.heap.size ≤ w.heap.size + 1 + 1 by omega) (.int .i64 wd) (.int .i64 hg) (.slice b n c))
  have HI3 := Lib.hid (ints_three (g := w.heap.size + 1 + 1) hat (own_ne hown hsz2) (.int .i64 wd) (.int .i64 hg) (.slice b n c))
  have FR := Lib.hid (Fresh.of hown HS1.out.lat.size)
  clear h2 hb2 hown hat hsz2 m0 m1 p0 p1 p2
  go_wp2
  exact bodyPost_ret (v := .tuple #[picV wd hg b n c, .nilIface]) (by simp [results, Tryd.results26, go_sem, Q.out.1, Q.out.2.1, Q.out.2.2]) rfl ⟨_, _, rfl, HI3.out, FR.out, HL.out⟩
theorem shift_ok (wd hg : Nat) (a : Option Addr) (n cap : Nat) (zs : List Int) (mx my : Int) (w : World) (h : IntsAt w a n cap zs) (he : shE wd hg zs mx my = 0) :
    Calls Tryd.prog 26 #[picV wd hg a n cap, .agg #[.int .i64 mx, .int .i64 my]] w fun e w' => ∃ b c, e = .returned (.tuple #[picV wd hg b n c, .nilIface]) ∧ IntsAt w' b n c (shf wd hg zs mx my n) ∧ Lat w w' :=
  (shift_okF wd hg a n cap zs mx my w h he).mono fun _ _ ⟨b, c, h1, h2, _, h3⟩ => ⟨b, c, h1, h2, h3⟩
theorem shift_tot (wd hg : Int) (a : Option Addr) (n cap : Nat) (zs : List Int) (mx my : Int) (w : World) (h : IntsAt w a n cap zs) :
    Calls Tryd.prog 26 #[picV wd hg a n cap, .agg #[.int .i64 mx, .int .i64 my]] w fun e w' => ∃ wd' hg' b m c L, e = .returned (.tuple #[picV wd' hg' b m c, errv (shE wd hg zs mx my)]) ∧ IntsAt w' b m c L ∧
      (shE wd hg zs mx my = 0 → wd' = wd ∧ hg' = hg ∧ m = n ∧ L = shf wd.toNat hg.toNat zs mx my n) ∧ Lat w w' := by
  by_cases he : shE wd hg zs mx my = 0
  · have hok := chkPic_ok (shE_zero he).1
    obtain ⟨wd, rfl⟩ := Int.eq_ofNat_of_zero_le (show 0 ≤ wd by have := hok.w1; omega)
    obtain ⟨hg, rfl⟩ := Int.eq_ofNat_of_zero_le (show 0 ≤ hg by have := hok.h1; omega)
    refine (shift_ok wd hg a n cap zs mx my w h he).mono ?_
    rintro e w' ⟨b, c, rfl, hat, hb⟩
    exact ⟨wd, hg, b, n, c, _, by rw [he, errv_zero rfl], hat, fun _ => ⟨rfl, rfl, rfl, rfl⟩, hb⟩
  · refine (shift_bad wd hg a n cap zs mx my w h he).mono ?_
    rintro e w' ⟨rfl, hb⟩
    exact ⟨0, 0, none, 0, 0, [], rfl, IntsAt.nil _, fun h0 => absurd h0 he, hb⟩
theorem shift_totF (wd hg : Int) (a : Option Addr) (n cap : Nat) (zs : List Int) (mx my : Int) (w : World) (h : IntsAt w a n cap zs) :
    Calls Tryd.prog 26 #[picV wd hg a n cap, .agg #[.int .i64 mx, .int .i64 my]] w fun e w' => ∃ wd' hg' b m c L, e = .returned (.tuple #[picV wd' hg' b m c, errv (shE wd hg zs mx my)]) ∧ IntsAt w' b m c L ∧
      (shE wd hg zs mx my = 0 → wd' = wd ∧ hg' = hg ∧ m = n ∧ L = shf wd.toNat hg.toNat zs mx my n) ∧ (shE wd hg zs mx my ≠ 0 → wd' = 0 ∧ hg' = 0 ∧ m = 0 ∧ L = []) ∧ Fresh w b m ∧ Lat w w' := by
  by_cases he : shE wd hg zs mx my = 0
  · have hok := chkPic_ok (shE_zero he).1
    obtain ⟨wd, rfl⟩ := Int.eq_ofNat_of_zero_le (show 0 ≤ wd by have := hok.w1; omega)
    obtain ⟨hg, rfl⟩ := Int.eq_ofNat_of_zero_le (show 0 ≤ hg by have := hok.h1; omega)
    refine (shift_okF wd hg a n cap zs mx my w h he).mono ?_
    rintro e w' ⟨b, c, rfl, hat, hf, hb⟩
    exact ⟨wd, hg, b, n, c, _, by rw [he, errv_zero rfl], hat, fun _ => ⟨rfl, rfl, rfl, rfl⟩, fun h => absurd he h, hf, hb⟩
  · refine (shift_bad wd hg a n cap zs mx my w h he).mono ?_
    rintro e w' ⟨rfl, hb⟩
    exact ⟨0, 0, none, 0, 0, [], rfl, IntsAt.nil _, fun h0 => absurd h0 he, fun _ => ⟨rfl, rfl, rfl, rfl⟩, fun _ _ _ _ _ h => absurd rfl h, hb⟩
end Go.Proofs.YtnnjijdpenifjaaDoor
