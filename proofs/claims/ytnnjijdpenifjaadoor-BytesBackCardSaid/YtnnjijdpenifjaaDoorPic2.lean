/- The contracts of picture.Apart, inside, Alike, Unlike. -/
import Derived.Test.YtnnjijdpenifjaaDoorPic
namespace Go.Proofs.YtnnjijdpenifjaaDoor
open Go.ChangeShapes Go.WideShapes Go.ChangeAt Go.RowKit

theorem int_ret {k : IntKind} {a b : Int} (h : a = b) : Ending.returned (.int k a) = .returned (.int k b) := by rw [h]
theorem apart_any (a b : Int) (w : World) (h1 : -100000 ≤ a) (h2 : a ≤ 100000) (h3 : -100000 ≤ b) (h4 : b ≤ 100000) :
    Calls Tryd.prog 71 #[.int .i64 a, .int .i64 b] w fun e w' => e = .returned (.int .i64 (apt a b)) ∧ w = w' := by
  go_enter Tryd.func71, Tryd.ntmps71
  go_wp2
  all_goals
    go_ret
    exact ⟨int_ret (by unfold apt; omega), rfl⟩
theorem inside_any (n s : Int) (w : World) (h1 : -100000 ≤ n) (h2 : n ≤ 100000) (h3 : 0 ≤ s) (h4 : s ≤ 100000) :
    Calls Tryd.prog 90 #[.int .i64 n, .int .i64 s] w fun e w' => e = .returned (.int .i64 (insd n s)) ∧ w = w' := by
  go_enter Tryd.func90, Tryd.ntmps90
  go_wp2
  all_goals
    go_ret
    exact ⟨int_ret (by unfold insd; omega), rfl⟩

/-- Three cells in a row. -/
structure Cells3 (w : World) (g o : Nat) (x y z : Value) : Prop where
  c0 : w.cell? ⟨g, o, none⟩ = some x
  c1 : w.cell? ⟨g, o + 1, none⟩ = some y
  c2 : w.cell? ⟨g, o + 2, none⟩ = some z
theorem Cells3.keep {w w' : World} {g o : Nat} {x y z : Value} (h : Cells3 w g o x y z) (hb : Lat w w') : Cells3 w' g o x y z := ⟨hb.cell_at h.c0, hb.cell_at h.c1, hb.cell_at h.c2⟩

theorem cell_new {w : World} {cs : Array Value} {t : TypeId} {g j : Nat} {v : Value} (h : g = w.heap.size) (hv : cs[j]? = some v) : (w.alloc (.cells cs t)).cell? ⟨g, j, none⟩ = some v := by
  rw [World.cell?_alloc_at _ _ _ _ h]; exact hv

theorem cells3_new {w : World} {cs : Array Value} {t : TypeId} {g o : Nat} {x y z : Value} (h : g = w.heap.size) (h0 : cs[o]? = some x) (h1 : cs[o + 1]? = some y) (h2 : cs[o + 2]? = some z) : Cells3 (w.alloc (.cells cs t)) g o x y z :=
  ⟨cell_new h h0, cell_new h h1, cell_new h h2⟩

/-- what is wrong with two pictures -/
def alkE (wd hg : Int) (zs : List Int) (wd2 hg2 : Int) (ys : List Int) : Nat :=
  if chkPic wd hg zs ≠ 0 then chkPic wd hg zs else if chkPic wd2 hg2 ys ≠ 0 then chkPic wd2 hg2 ys else if wd ≠ wd2 ∨ hg ≠ hg2 then 3 else 0
theorem alkE_zero {wd hg wd2 hg2 : Int} {zs ys : List Int} : alkE wd hg zs wd2 hg2 ys = 0 ↔ chkPic wd hg zs = 0 ∧ chkPic wd2 hg2 ys = 0 ∧ wd = wd2 ∧ hg = hg2 := by
  unfold alkE
  constructor
  · intro h
    repeat' split at h
    all_goals first | omega | skip
    all_goals omega
  · rintro ⟨h1, h2, h3, h4⟩
    rw [if_neg (by omega), if_neg (by omega), if_neg (by omega)]

set_option maxHeartbeats 1000000 in
theorem alike_any (wd hg : Int) (a : Option Addr) (n cap : Nat) (zs : List Int) (wd2 hg2 : Int) (b : Option Addr) (m cap2 : Nat) (ys : List Int) (w : World) (h : IntsAt w a n cap zs) (h2 : IntsAt w b m cap2 ys) :
    Calls Tryd.prog 70 #[picV wd hg a n cap, picV wd2 hg2 b m cap2] w fun e w' => e = .returned (errv (alkE wd hg zs wd2 hg2 ys)) ∧ Lat w w' := by
  obtain ⟨E, hE⟩ : ∃ E, E = alkE wd hg zs wd2 hg2 ys := ⟨_, rfl⟩
  obtain ⟨C1, hC1⟩ : ∃ E, E = chkPic wd hg zs := ⟨_, rfl⟩
  obtain ⟨C2, hC2⟩ : ∃ E, E = chkPic wd2 hg2 ys := ⟨_, rfl⟩
  rw [← hE]
  unfold alkE at hE
  rw [← hC1, ← hC2] at hE
  have HE := Lib.hid hE
  have HC1 := Lib.hid hC1
  have HC2 := Lib.hid hC2
  have H := Lib.hid h
  have H2 := Lib.hid h2
  clear hE hC1 hC2 h h2
  go_enter Tryd.func70, Tryd.ntmps70
  go_wp2_with fail
  go_loopw [12] (fun i wr => (i = .int .i64 0 ∨ (i = .int .i64 1 ∧ Hid (C1 = 0)) ∨ (i = .int .i64 2 ∧ Hid (C1 = 0 ∧ C2 = 0))) ∧
    Hid (Lat w wr ∧ Cells3 wr w.heap.size 0 (.int .i64 wd) (.int .i64 hg) (.slice a n cap) ∧ Cells3 wr (w.heap.size + 1) 0 (.int .i64 wd2) (.int .i64 hg2) (.slice b m cap2) ∧
      Cells3 wr (w.heap.size + 1 + 1) 0 (.int .i64 wd) (.int .i64 hg) (.slice a n cap) ∧ Cells3 wr (w.heap.size + 1 + 1) 3 (.int .i64 wd2) (.int .i64 hg2) (.slice b m cap2))) (fun i _ => 2 - (intOf i).toNat)
  case atStart => 
    refine ⟨.inl rfl, Lat.trans (Lat.trans (Lat.alloc _ _) (Lat.alloc _ _)) (Lat.alloc _ _), ((cells3_new rfl rfl rfl rfl).keep (Lat.alloc _ _)).keep (Lat.alloc _ _), (cells3_new (by simp) rfl rfl rfl).keep (Lat.alloc _ _), cells3_new (by simp) rfl rfl rfl, cells3_new (by simp) rfl rfl rfl⟩
  case round =>
    obtain ⟨hi, hrel⟩ := hrel
    obtain ⟨hb, q1, q2, q3, q4⟩ := hrel.out
    have HB := Lib.hid hb
    have Q1 := Lib.hid q1
    have Q2 := Lib.hid q2
    have Q3 := Lib.hid q3
    have Q4 := Lib.hid q4
    rcases hi with rfl | ⟨rfl, h1⟩ | ⟨rfl, h1⟩
    · have c0 : wr.cell? ⟨w.heap.size + 1 + 1, 0, none⟩ = _ := q3.c0
      have c1 : wr.cell? ⟨w.heap.size + 1 + 1, 1, none⟩ = _ := q3.c1
      have c2 : wr.cell? ⟨w.heap.size + 1 + 1, 2, none⟩ = _ := q3.c2
      clear hb q1 q2 q3 q4 hrel
      have hc := pchk_any wd hg a n cap zs (wr.alloc (.cells #[.int .i64 wd, .int .i64 hg, .slice a n cap] 24)) ((H.out.keep HB.out).keep (Lat.alloc _ _))
      rw [← HC1.out] at hc
      by_cases hz : C1 = 0
      · rw [errv_zero hz] at hc
        have HCC := Lib.hid hc
        have HZ := Lib.hid hz
        clear hc hz
        go_wp2_with fail
        refine HCC.out.mono ?_
        rintro e w1 ⟨rfl, hb1⟩
        have hb2 := Lat.trans (Lat.alloc wr (.cells #[.int .i64 wd, .int .i64 hg, .slice a n cap] 24)) hb1
        have HB2 := Lib.hid hb2
        clear hb1 hb2
        go_wp2
        go_roundw
        case rel => exact ⟨.inr (.inl ⟨rfl, HZ.out⟩), Lat.trans HB.out HB2.out, Q1.out.keep HB2.out, Q2.out.keep HB2.out, Q3.out.keep HB2.out, Q4.out.keep HB2.out⟩
        case measure => simp [intOf]
      · rw [errv_pos hz] at hc
        have hfin : E = C1 := by rw [HE.out, if_pos hz]
        have HF := Lib.hid hfin
        have HCC := Lib.hid hc
        have HZ := Lib.hid hz
        clear hc hz hfin
        go_wp2_with fail
        refine HCC.out.mono ?_
        rintro e w1 ⟨rfl, hb1⟩
        go_wp2
        go_ret
        exact ⟨by rw [HF.out, errv_pos HZ.out]; rfl, Lat.trans HB.out (Lat.trans (Lat.alloc _ _) hb1)⟩
    · have c0 : wr.cell? ⟨w.heap.size + 1 + 1, 3, none⟩ = _ := q4.c0
      have c1 : wr.cell? ⟨w.heap.size + 1 + 1, 4, none⟩ = _ := q4.c1
      have c2 : wr.cell? ⟨w.heap.size + 1 + 1, 5, none⟩ = _ := q4.c2
      clear hb q1 q2 q3 q4 hrel
      have hc := pchk_any wd2 hg2 b m cap2 ys (wr.alloc (.cells #[.int .i64 wd2, .int .i64 hg2, .slice b m cap2] 24)) ((H2.out.keep HB.out).keep (Lat.alloc _ _))
      rw [← HC2.out] at hc
      by_cases hz : C2 = 0
      · rw [errv_zero hz] at hc
        have HCC := Lib.hid hc
        have HZ := Lib.hid hz
        clear hc hz
        go_wp2_with fail
        refine HCC.out.mono ?_
        rintro e w1 ⟨rfl, hb1⟩
        have hb2 := Lat.trans (Lat.alloc wr (.cells #[.int .i64 wd2, .int .i64 hg2, .slice b m cap2] 24)) hb1
        have HB2 := Lib.hid hb2
        clear hb1 hb2
        go_wp2
        go_roundw
        case rel => exact ⟨.inr (.inr ⟨rfl, h1.out, HZ.out⟩), Lat.trans HB.out HB2.out, Q1.out.keep HB2.out, Q2.out.keep HB2.out, Q3.out.keep HB2.out, Q4.out.keep HB2.out⟩
        case measure => simp [intOf]
      · rw [errv_pos hz] at hc
        have hfin : E = C2 := by rw [HE.out, if_neg (fun q => q h1.out), if_pos hz]
        have HF := Lib.hid hfin
        have HCC := Lib.hid hc
        have HZ := Lib.hid hz
        clear hc hz hfin
        go_wp2_with fail
        refine HCC.out.mono ?_
        rintro e w1 ⟨rfl, hb1⟩
        go_wp2
        go_ret
        exact ⟨by rw [HF.out, errv_pos HZ.out]; rfl, Lat.trans HB.out (Lat.trans (Lat.alloc _ _) hb1)⟩
    · have c0 : wr.cell? ⟨w.heap.size, 0, none⟩ = _ := q1.c0
      have c1 : wr.cell? ⟨w.heap.size, 1, none⟩ = _ := q1.c1
      have e0 : wr.cell? ⟨w.heap.size + 1, 0, none⟩ = _ := q2.c0
      have e1 : wr.cell? ⟨w.heap.size + 1, 1, none⟩ = _ := q2.c1
      clear hb q1 q2 q3 q4 hrel
      have hE2 : E = if wd ≠ wd2 ∨ hg ≠ hg2 then 3 else 0 := by rw [HE.out, if_neg (fun q => q h1.out.1), if_neg (fun q => q h1.out.2)]
      have HE2 := Lib.hid hE2
      clear hE2
      have hd : ((wd != wd2) = true ∧ E = 3) ∨ ((wd != wd2) = false ∧ (hg != hg2) = true ∧ E = 3) ∨ ((wd != wd2) = false ∧ (hg != hg2) = false ∧ E = 0) := by
        by_cases p1 : wd = wd2
        · by_cases p2 : hg = hg2
          · exact .inr (.inr ⟨by simp [p1], by simp [p2], by rw [HE2.out, if_neg (by simp [p1, p2])]⟩)
          · exact .inr (.inl ⟨by simp [p1], by simp [p2], by rw [HE2.out, if_pos (.inr p2)]⟩)
        · exact .inl ⟨by simp [p1], by rw [HE2.out, if_pos (.inl p1)]⟩
      rcases hd with ⟨d1, d2⟩ | ⟨d1, d2, d3⟩ | ⟨d1, d2, d3⟩
      · have D := Lib.hid d2
        clear d2
        go_wp2
        go_ret
        exact ⟨by rw [D.out]; rfl, HB.out⟩
      · have D := Lib.hid d3
        clear d3
        go_wp2
        go_ret
        exact ⟨by rw [D.out]; rfl, HB.out⟩
      · have D := Lib.hid d3
        clear d3
        go_wp2
        go_ret
        exact ⟨by rw [D.out]; rfl, HB.out⟩
end Go.Proofs.YtnnjijdpenifjaaDoor
