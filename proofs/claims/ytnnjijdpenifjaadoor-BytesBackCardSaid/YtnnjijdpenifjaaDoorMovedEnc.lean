/- The contract of moved.Encode. -/
import Derived.Test.YtnnjijdpenifjaaDoorMoved
import Derived.Test.YtnnjijdpenifjaaDoorAcc
namespace Go.Proofs.YtnnjijdpenifjaaDoor
open Go.ChangeShapes Go.WideShapes Go.ChangeAt Go.RowKit

/-- A coded picture, as a value. -/
abbrev codV (al : Bool) (x y : Int) (a : Option Addr) (n cap : Nat) : Value := .agg #[.bool al, .int .i64 x, .int .i64 y, .slice a n cap]
def movE (wd hg : Int) (zs : List Int) (wd2 hg2 : Int) (ys : List Int) (s : Int) : Nat := if alkE wd hg zs wd2 hg2 ys ≠ 0 then alkE wd hg zs wd2 hg2 ys else if stepB s = false then 1 else 0
theorem movE_zero {wd hg : Int} {zs : List Int} {wd2 hg2 : Int} {ys : List Int} {s : Int} (h : movE wd hg zs wd2 hg2 ys s = 0) : alkE wd hg zs wd2 hg2 ys = 0 ∧ 1 ≤ s ∧ s ≤ 64 := by
  unfold movE at h
  split at h
  · omega
  · rename_i h1
    split at h
    · omega
    · rename_i h2
      have a1 : stepB s = true := by cases hq : stepB s <;> simp_all
      simp only [stepB, decide_eq_true_eq] at a1
      exact ⟨by omega, a1.1, a1.2⟩
theorem movE_of {wd hg : Int} {zs : List Int} {wd2 hg2 : Int} {ys : List Int} {s : Int} (h : alkE wd hg zs wd2 hg2 ys = 0) (h1 : 1 ≤ s) (h2 : s ≤ 64) : movE wd hg zs wd2 hg2 ys s = 0 := by
  unfold movE
  rw [if_neg (by omega), if_neg (by simp [stepB, h1, h2])]
/-- Four cells in a row. -/
structure Cells4 (w : World) (g : Nat) (x y z u : Value) : Prop where
  c0 : w.cell? ⟨g, 0, none⟩ = some x
  c1 : w.cell? ⟨g, 1, none⟩ = some y
  c2 : w.cell? ⟨g, 2, none⟩ = some z
  c3 : w.cell? ⟨g, 3, none⟩ = some u
theorem Cells4.keep {w w' : World} {g : Nat} {x y z u : Value} (h : Cells4 w g x y z u) (hb : Lat w w') : Cells4 w' g x y z u := ⟨hb.cell_at h.c0, hb.cell_at h.c1, hb.cell_at h.c2, hb.cell_at h.c3⟩
theorem cells4_new {w : World} {cs : Array Value} {t : TypeId} {g : Nat} {x y z u : Value} (h : g = w.heap.size) (h0 : cs[0]? = some x) (h1 : cs[1]? = some y) (h2 : cs[2]? = some z) (h3 : cs[3]? = some u) : Cells4 (w.alloc (.cells cs t)) g x y z u :=
  ⟨cell_new h h0, cell_new h h1, cell_new h h2, cell_new h h3⟩
def four (w : World) (g : Nat) (x y z u : Value) : World := (((w.setCell ⟨g, 0, none⟩ x).setCell ⟨g, 1, none⟩ y).setCell ⟨g, 2, none⟩ z).setCell ⟨g, 3, none⟩ u
theorem four_set {w : World} {g : Nat} {a b c d : Value} (h : Cells4 w g a b c d) (x y z u : Value) : Cells4 (four w g x y z u) g x y z u := by
  unfold four
  refine ⟨?_, ?_, ?_, ?_⟩
  · rw [World.cell?_setCell_other _ _ _ _ (by simp), World.cell?_setCell_other _ _ _ _ (by simp), World.cell?_setCell_other _ _ _ _ (by simp)]; exact World.cell?_setCell_same _ _ _ h.c0
  · rw [World.cell?_setCell_other _ _ _ _ (by simp), World.cell?_setCell_other _ _ _ _ (by simp)]; exact World.cell?_setCell_same _ _ _ ((World.cell?_setCell_other _ _ _ _ (by simp)).trans h.c1)
  · rw [World.cell?_setCell_other _ _ _ _ (by simp)]; exact World.cell?_setCell_same _ _ _ ((World.cell?_setCell_other _ _ _ _ (by simp)).trans ((World.cell?_setCell_other _ _ _ _ (by simp)).trans h.c2))
  · exact World.cell?_setCell_same _ _ _ ((World.cell?_setCell_other _ _ _ _ (by simp)).trans ((World.cell?_setCell_other _ _ _ _ (by simp)).trans ((World.cell?_setCell_other _ _ _ _ (by simp)).trans h.c3)))
theorem lat_four {w w1 : World} {g : Nat} (hb : Lat w w1) (hg : w.heap.size ≤ g) (x y z u : Value) : Lat w (four w1 g x y z u) := Below.setCell (Below.setCell (Below.setCell (Below.setCell hb hg x) hg y) hg z) hg u
theorem ints_four {w : World} {g : Nat} {a : Option Addr} {n cap : Nat} {L : List Int} (h : IntsAt w a n cap L) (hne : ∀ b o, a = some ⟨b, o, none⟩ → n ≠ 0 → b ≠ g) (x y z u : Value) : IntsAt (four w g x y z u) a n cap L := by
  refine ⟨h.len, ⟨h.row.le, h.row.cap, fun hn => ?_⟩, h.wf⟩
  obtain ⟨b, o, ha, hc⟩ := h.row.at_ hn
  refine ⟨b, o, ha, fun j hj => ?_⟩
  have hb := hne b o ha hn
  have nn : ∀ k, (⟨g, k, none⟩ : Addr) ≠ ⟨b, o + j, none⟩ := fun k e => hb (by injection e with e _ _; exact e.symm)
  unfold four
  rw [World.cell?_setCell_other _ _ _ _ (nn 3), World.cell?_setCell_other _ _ _ _ (nn 2), World.cell?_setCell_other _ _ _ _ (nn 1), World.cell?_setCell_other _ _ _ _ (nn 0)]
  exact hc j hj
/-- What the call lays first: the two pictures, and the result's cells. -/
structure EW (w W : World) (wd hg : Int) (a : Option Addr) (n cap : Nat) (wd2 hg2 : Int) (b : Option Addr) (m cap2 : Nat) : Prop where
  lat : Lat w W
  p : Cells3 W w.heap.size 0 (.int .i64 wd) (.int .i64 hg) (.slice a n cap)
  q : Cells3 W (w.heap.size + 1) 0 (.int .i64 wd2) (.int .i64 hg2) (.slice b m cap2)
  r : Cells4 W (w.heap.size + 1 + 1) (.bool false) (.int .i64 0) (.int .i64 0) (.slice none 0 0)
  f : ∀ k, k < 4 → W.frozen? ⟨w.heap.size + 1 + 1, k, none⟩ = false
  sz : w.heap.size + 1 + 1 < W.heap.size
theorem EW.keep {w W W' : World} {wd hg : Int} {a : Option Addr} {n cap : Nat} {wd2 hg2 : Int} {b : Option Addr} {m cap2 : Nat} (h : EW w W wd hg a n cap wd2 hg2 b m cap2) (hb : Lat W W') : EW w W' wd hg a n cap wd2 hg2 b m cap2 :=
  ⟨Lat.trans h.lat hb, h.p.keep hb, h.q.keep hb, h.r.keep hb, fun k hk => hb.free_at h.sz (h.f k hk), Nat.lt_of_lt_of_le h.sz hb.size⟩
theorem ew_open (w : World) (wd hg : Int) (a : Option Addr) (n cap : Nat) (wd2 hg2 : Int) (b : Option Addr) (m cap2 : Nat) :
    EW w (((w.alloc (.cells #[.int .i64 wd, .int .i64 hg, .slice a n cap] 24)).alloc (.cells #[.int .i64 wd2, .int .i64 hg2, .slice b m cap2] 24)).alloc (.cells #[.bool false, .int .i64 0, .int .i64 0, .slice none 0 0] 53)) wd hg a n cap wd2 hg2 b m cap2 := by
  have l3 := Lat.alloc ((w.alloc (.cells #[.int .i64 wd, .int .i64 hg, .slice a n cap] 24)).alloc (.cells #[.int .i64 wd2, .int .i64 hg2, .slice b m cap2] 24)) (.cells #[.bool false, .int .i64 0, .int .i64 0, .slice none 0 0] 53)
  have l2 := Lat.alloc (w.alloc (.cells #[.int .i64 wd, .int .i64 hg, .slice a n cap] 24)) (.cells #[.int .i64 wd2, .int .i64 hg2, .slice b m cap2] 24)
  have l1 := Lat.alloc w (.cells #[.int .i64 wd, .int .i64 hg, .slice a n cap] 24)
  exact ⟨Lat.trans l1 (Lat.trans l2 l3), (cells3_new rfl rfl rfl rfl).keep (Lat.trans l2 l3), (cells3_new (by simp) rfl rfl rfl).keep l3, cells4_new (by simp) rfl rfl rfl rfl, fun k _ => free_new (by simp), by simp⟩

set_option maxHeartbeats 2000000 in
theorem mencode_bad (wd hg : Int) (a : Option Addr) (n cap : Nat) (zs : List Int) (wd2 hg2 : Int) (b : Option Addr) (m cap2 : Nat) (ys : List Int) (s : Int) (w : World) (h : IntsAt w a n cap zs) (h2 : IntsAt w b m cap2 ys) (he : movE wd hg zs wd2 hg2 ys s ≠ 0) :
    Calls Tryd.prog 31 #[picV wd hg a n cap, picV wd2 hg2 b m cap2, .int .i64 s] w fun e w' => e = .returned (.tuple #[codV false 0 0 none 0 0, eno (movE wd hg zs wd2 hg2 ys s)]) ∧ Lat w w' := by
  obtain ⟨W0, hW0⟩ : ∃ W, W = ((w.alloc (.cells #[.int .i64 wd, .int .i64 hg, .slice a n cap] 24)).alloc (.cells #[.int .i64 wd2, .int .i64 hg2, .slice b m cap2] 24)).alloc (.cells #[.bool false, .int .i64 0, .int .i64 0, .slice none 0 0] 53) := ⟨_, rfl⟩
  have hs := ew_open w wd hg a n cap wd2 hg2 b m cap2
  rw [← hW0] at hs
  have hc := alike_any wd hg a n cap zs wd2 hg2 b m cap2 ys W0 (h.keep hs.lat) (h2.keep hs.lat)
  obtain ⟨E, hE⟩ : ∃ E, E = movE wd hg zs wd2 hg2 ys s := ⟨_, rfl⟩
  rw [← hE] at he ⊢
  have HS := Lib.hid hs
  by_cases h1 : alkE wd hg zs wd2 hg2 ys = 0
  · have h3 : stepB s = false := by
      cases hq : stepB s
      · rfl
      · exact absurd (show E = 0 by rw [hE]; unfold movE; rw [if_neg (by omega), if_neg (by simp [hq])]) he
    have e1 : E = 1 := by rw [hE]; unfold movE; rw [if_neg (by omega), if_pos h3]
    rw [h1, errv_zero rfl] at hc
    rw [e1]
    have HC := Lib.hid hc
    clear hc h h2 he h1 e1 hE hs
    go_enter Tryd.func31, Tryd.ntmps31
    go_upto_region 1 with fail
    rw [← hW0]
    clear hW0
    have p0 : W0.cell? ⟨w.heap.size, 0, none⟩ = _ := HS.out.p.c0
    have p1 : W0.cell? ⟨w.heap.size, 1, none⟩ = _ := HS.out.p.c1
    have p2 : W0.cell? ⟨w.heap.size, 2, none⟩ = _ := HS.out.p.c2
    have q0 : W0.cell? ⟨w.heap.size + 1, 0, none⟩ = _ := HS.out.q.c0
    have q1 : W0.cell? ⟨w.heap.size + 1, 1, none⟩ = _ := HS.out.q.c1
    have q2 : W0.cell? ⟨w.heap.size + 1, 2, none⟩ = _ := HS.out.q.c2
    go_wp2_with fail
    refine HC.out.mono ?_
    rintro e w1 ⟨rfl, hb1⟩
    clear p0 p1 p2 q0 q1 q2
    have hs1 := HS.out.keep hb1
    go_wp2_with fail
    refine (step_any s _).mono ?_
    rw [h3]
    clear h3
    rintro e w' ⟨rfl, rfl⟩
    have r0 := hs1.r.c0
    have r1 := hs1.r.c1
    have r2 := hs1.r.c2
    have r3 := hs1.r.c3
    have f0 := hs1.f 0 (by omega)
    have f1 := hs1.f 1 (by omega)
    have f2 := hs1.f 2 (by omega)
    have f3 := hs1.f 3 (by omega)
    have Q := four_set hs1.r (.bool false) (.int .i64 0) (.int .i64 0) (.slice none 0 0)
    have HL := Lib.hid (lat_four hs1.lat (show w.heap.size ≤ w.heap.size + 1 + 1 by omega) (.bool false) (.int .i64 0) (.int .i64 0) (.slice none 0 0))
    unfold four at Q HL
    have Q := Lib.hid Q
    clear hs1 hb1
    go_wp2
    exact bodyPost_ret (v := .tuple #[codV false 0 0 none 0 0, eno 1]) (by simp [results, Tryd.results31, go_sem, Q.out.c0, Q.out.c1, Q.out.c2, Q.out.c3]) rfl ⟨rfl, HL.out⟩
  · have e1 : E = alkE wd hg zs wd2 hg2 ys := by rw [hE]; unfold movE; rw [if_pos h1]
    rw [← e1, errv_pos he] at hc
    have HC := Lib.hid hc
    clear hc h h2 he h1 e1 hE hs
    go_enter Tryd.func31, Tryd.ntmps31
    go_upto_region 1 with fail
    rw [← hW0]
    clear hW0
    have p0 : W0.cell? ⟨w.heap.size, 0, none⟩ = _ := HS.out.p.c0
    have p1 : W0.cell? ⟨w.heap.size, 1, none⟩ = _ := HS.out.p.c1
    have p2 : W0.cell? ⟨w.heap.size, 2, none⟩ = _ := HS.out.p.c2
    have q0 : W0.cell? ⟨w.heap.size + 1, 0, none⟩ = _ := HS.out.q.c0
    have q1 : W0.cell? ⟨w.heap.size + 1, 1, none⟩ = _ := HS.out.q.c1
    have q2 : W0.cell? ⟨w.heap.size + 1, 2, none⟩ = _ := HS.out.q.c2
    go_wp2_with fail
    refine HC.out.mono ?_
    rintro e w1 ⟨rfl, hb1⟩
    clear p0 p1 p2 q0 q1 q2
    have hs1 := HS.out.keep hb1
    have r0 := hs1.r.c0
    have r1 := hs1.r.c1
    have r2 := hs1.r.c2
    have r3 := hs1.r.c3
    have f0 := hs1.f 0 (by omega)
    have f1 := hs1.f 1 (by omega)
    have f2 := hs1.f 2 (by omega)
    have f3 := hs1.f 3 (by omega)
    have Q := four_set hs1.r (.bool false) (.int .i64 0) (.int .i64 0) (.slice none 0 0)
    have HL := Lib.hid (lat_four hs1.lat (show w.heap.size ≤ w.heap.size + 1 + 1 by omega) (.bool false) (.int .i64 0) (.int .i64 0) (.slice none 0 0))
    unfold four at Q HL
    have Q := Lib.hid Q
    clear hs1 hb1
    go_wp2
    exact bodyPost_ret (v := .tuple #[codV false 0 0 none 0 0, eno E]) (by simp [results, Tryd.results31, go_sem, Q.out.c0, Q.out.c1, Q.out.c2, Q.out.c3]) rfl ⟨rfl, HL.out⟩

set_option maxHeartbeats 8000000 in
set_option maxRecDepth 100000 in
theorem mencode_ok (wd hg : Nat) (a : Option Addr) (n cap : Nat) (zs : List Int) (b : Option Addr) (cap2 : Nat) (ys : List Int) (s : Int) (w : World) (h : IntsAt w a n cap zs) (h2 : IntsAt w b n cap2 ys) (he : movE wd hg zs wd hg ys s = 0) (I : Nat) (hI : I = bst wd hg zs ys 9) :
    Calls Tryd.prog 31 #[picV wd hg a n cap, picV wd hg b n cap2, .int .i64 s] w fun e w' => ∃ c cc, e = .returned (.tuple #[codV false (mvX I) (mvY I) c n cc, .nilIface]) ∧ IntsAt w' c n cc (mrs (shf wd hg zs (mvX I) (mvY I) n) ys s n) ∧ Fresh w c n ∧ Lat w w' := by
  obtain ⟨ha, s1, s64⟩ := movE_zero he
  obtain ⟨ka, kb, _, _⟩ := alkE_zero.1 ha
  have oa := chkPic_ok ka
  have ob := chkPic_ok kb
  have hn : wd * hg = n := by
    have := oa.len
    rw [h.len, ← Int.natCast_mul] at this
    omega
  have w1 : 1 ≤ wd := by have := oa.w1; omega
  have w6 : wd ≤ 6 := by have := oa.w6; omega
  have g1 : 1 ≤ hg := by have := oa.h1; omega
  have g6 : hg ≤ 6 := by have := oa.h6; omega
  have hn36 : n ≤ 36 := by rw [← hn]; exact Nat.mul_le_mul w6 g6
  have h3 : stepB s = true := by simp [stepB, s1, s64]
  obtain ⟨W0, hW0⟩ : ∃ W, W = ((w.alloc (.cells #[.int .i64 wd, .int .i64 hg, .slice a n cap] 24)).alloc (.cells #[.int .i64 wd, .int .i64 hg, .slice b n cap2] 24)).alloc (.cells #[.bool false, .int .i64 0, .int .i64 0, .slice none 0 0] 53) := ⟨_, rfl⟩
  have hs := ew_open w wd hg a n cap wd hg b n cap2
  rw [← hW0] at hs
  have hc := alike_any wd hg a n cap zs wd hg b n cap2 ys W0 (h.keep hs.lat) (h2.keep hs.lat)
  rw [ha, errv_zero rfl] at hc
  have pa := oa.pix
  have pb := ob.pix
  have hib : I < 9 := by have := bst_lt wd hg zs ys 9; omega
  have hmv := mv_bd I hib
  obtain ⟨X, hX⟩ : ∃ X, X = mvX I := ⟨_, rfl⟩
  obtain ⟨Y, hY⟩ : ∃ Y, Y = mvY I := ⟨_, rfl⟩
  have hbest : ∀ W, Lat w W → Calls Tryd.prog 73 #[picV wd hg a n cap, picV wd hg b n cap2] W fun e w' => e = .returned (.agg #[.int .i64 X, .int .i64 Y]) ∧ Lat W w' := fun W hW => by
    have := best_any wd hg a n cap zs b cap2 ys W (h.keep hW) (h2.keep hW) hn w1 w6 g1 g6 pa pb
    rw [← hI, ← hX, ← hY] at this
    exact this
  rw [← hX, ← hY] at hmv ⊢
  obtain ⟨x1, x2, y1, y2⟩ := hmv
  have hshf : ∀ W, Lat w W → Calls Tryd.prog 69 #[picV wd hg a n cap, .agg #[.int .i64 X, .int .i64 Y]] W fun e w' => ∃ va vc, e = .returned (.agg #[.int .i64 wd, .int .i64 hg, .slice va n vc]) ∧ IntsAt w' va n vc (shf wd hg zs X Y n) ∧ (∀ g, g < W.heap.size → ∀ b o, va = some ⟨b, o, none⟩ → n ≠ 0 → b ≠ g) ∧ Lat W w' := fun W hW => by
    refine (shifted_any wd hg a n cap zs X Y W (h.keep hW) hn w1 w6 g1 g6 (by omega) (by omega) (by omega) (by omega)).mono ?_
    rintro e w1 ⟨v, rfl, hown, hb1⟩
    obtain ⟨va, vc, rfl, hat⟩ := OwnInts.sliceN hown (wf_pix (shf_mem pa)) (shf_length _ _ _ _ _ _)
    exact ⟨va, vc, rfl, hat, fun g hg => own_ne hown hg, hb1⟩
  obtain ⟨SS, hSS⟩ : ∃ S, S = shf wd hg zs X Y n := ⟨_, rfl⟩
  have pS : ∀ z ∈ SS, 0 ≤ z ∧ z ≤ 255 := by rw [hSS]; exact shf_mem pa
  rw [← hSS] at hshf ⊢
  have hwf : ∀ z ∈ mrs SS ys s n, -9223372036854775808 ≤ z ∧ z ≤ 9223372036854775807 := wf_small (mrs_bd s1 pS pb n)
  have HWF := Lib.hid hwf
  have PS := Lib.hid pS
  have PB := Lib.hid pb
  have HSHF := Lib.hid hshf
  have HBEST := Lib.hid hbest
  have HC := Lib.hid hc
  have HS := Lib.hid hs
  have H2 := Lib.hid h2
  clear h h2 he hI ha ka kb oa ob hn hs hc pa pb hib hX hY hbest hshf hSS pS hwf
  go_enter Tryd.func31, Tryd.ntmps31
  go_upto_region 1 with fail
  rw [← hW0]
  clear hW0
  have p0 : W0.cell? ⟨w.heap.size, 0, none⟩ = _ := HS.out.p.c0
  have p1 : W0.cell? ⟨w.heap.size, 1, none⟩ = _ := HS.out.p.c1
  have p2 : W0.cell? ⟨w.heap.size, 2, none⟩ = _ := HS.out.p.c2
  have q0 : W0.cell? ⟨w.heap.size + 1, 0, none⟩ = _ := HS.out.q.c0
  have q1 : W0.cell? ⟨w.heap.size + 1, 1, none⟩ = _ := HS.out.q.c1
  have q2 : W0.cell? ⟨w.heap.size + 1, 2, none⟩ = _ := HS.out.q.c2
  go_wp2_with fail
  refine HC.out.mono ?_
  rintro e W1 ⟨rfl, hb1⟩
  clear p0 p1 p2 q0 q1 q2
  have HS1 := Lib.hid (HS.out.keep hb1)
  clear hb1
  go_wp2_with fail
  refine (step_any s _).mono ?_
  rw [h3]
  clear h3
  rintro e w' ⟨rfl, rfl⟩
  have p0 : W1.cell? ⟨w.heap.size, 0, none⟩ = _ := HS1.out.p.c0
  have p1 : W1.cell? ⟨w.heap.size, 1, none⟩ = _ := HS1.out.p.c1
  have p2 : W1.cell? ⟨w.heap.size, 2, none⟩ = _ := HS1.out.p.c2
  have q0 : W1.cell? ⟨w.heap.size + 1, 0, none⟩ = _ := HS1.out.q.c0
  have q1 : W1.cell? ⟨w.heap.size + 1, 1, none⟩ = _ := HS1.out.q.c1
  have q2 : W1.cell? ⟨w.heap.size + 1, 2, none⟩ = _ := HS1.out.q.c2
  go_wp2_with fail
  refine (HBEST.out _ HS1.out.lat).mono ?_
  rintro e W2 ⟨rfl, hb2⟩
  clear p0 p1 p2 q0 q1 q2
  have hs2 := HS1.out.keep hb2
  have hl2 := Lat.alloc W2 (.cells #[.bool false, .int .i64 X, .int .i64 Y, .slice none 0 0] 53)
  have HS2 := Lib.hid (hs2.keep hl2)
  have p0 : W2.cell? ⟨w.heap.size, 0, none⟩ = _ := hs2.p.c0
  have p1 : W2.cell? ⟨w.heap.size, 1, none⟩ = _ := hs2.p.c1
  have p2 : W2.cell? ⟨w.heap.size, 2, none⟩ = _ := hs2.p.c2
  have hlt : w.heap.size < W2.heap.size := World.block_lt_of_cell? _ _ p0
  have hC2 := Lib.hid (cells4_new (w := W2) (cs := #[.bool false, .int .i64 X, .int .i64 Y, .slice none 0 0]) (t := 53) rfl rfl rfl rfl rfl)
  have FC2 := Lib.hid (show ∀ k, (W2.alloc (.cells #[.bool false, .int .i64 X, .int .i64 Y, .slice none 0 0] 53)).frozen? ⟨W2.heap.size, k, none⟩ = false from fun k => free_new rfl)
  have LC2 := Lib.hid (show W2.heap.size < (W2.alloc (.cells #[.bool false, .int .i64 X, .int .i64 Y, .slice none 0 0] 53)).heap.size by simp)
  have GC0 : w.heap.size + 1 + 1 < W2.heap.size := hs2.sz
  clear hs2 hl2 hb2
  go_wp2_with fail
  refine (HSHF.out _ HS2.out.lat).mono ?_
  rintro e W3 ⟨va, vc, rfl, hat, hne, hb3⟩
  have hl4 := Lat.alloc W3 (.cells #[.int .i64 wd, .int .i64 hg, .slice va n vc] 24)
  obtain ⟨W4, hW4⟩ : ∃ W, W = W3.alloc (.cells #[.int .i64 wd, .int .i64 hg, .slice va n vc] 24) := ⟨_, rfl⟩
  rw [← hW4] at hl4
  have HS4 := Lib.hid (HS2.out.keep (Lat.trans hb3 hl4))
  have C4 := Lib.hid (hC2.out.keep (Lat.trans hb3 hl4))
  have FRC := Lib.hid ((Lat.trans hb3 hl4).free_at LC2.out (FC2.out 3))
  have SC := Lib.hid (show Cells3 W4 W3.heap.size 0 (.int .i64 wd) (.int .i64 hg) (.slice va n vc) by rw [hW4]; exact cells3_new rfl rfl rfl rfl)
  have HAT := Lib.hid (hat.keep hl4)
  have HB4 := Lib.hid (H2.out.keep (Lat.trans HS2.out.lat (Lat.trans hb3 hl4)))
  have NE := Lib.hid (hne _ LC2.out)
  have NS : W3.heap.size ≠ W2.heap.size := by have := hb3.size; have := LC2.out; omega
  have LS : W3.heap.size < W4.heap.size := World.block_lt_of_cell? _ _ SC.out.c0
  have q2 : W4.cell? ⟨w.heap.size + 1, 2, none⟩ = _ := HS4.out.q.c2
  clear p0 p1 p2 hlt hat hne hb3 hl4 hC2 FC2 LC2 HS2
  go_upto_region 8 with fail
  rw [← hW4]
  clear hW4
  go_wp2_with fail
  go_loopw [36] (fun i wr => ∃ k : Nat, k ≤ n ∧ i = .int .i64 k ∧ Hid (AccSome w.heap.size W4 wr W2.heap.size 3 (mrs SS ys s k))) (fun i _ => n - (intOf i).toNat)
  case atStart => exact ⟨0, Nat.zero_le _, rfl, _, AccInv.start (by omega) C4.out.c3⟩
  case round =>
    clear q2
    obtain ⟨k, hk, rfl, hrel⟩ := hrel
    obtain ⟨v, hI⟩ := hrel.out
    by_cases hlt : k < n
    · obtain ⟨bs, os, rfl, hcs⟩ := HAT.out.row.at_ (by omega)
      have NB : bs ≠ W2.heap.size := NE.out bs os rfl (by omega)
      obtain ⟨bb, ob, rfl, hcb⟩ := HB4.out.row.at_ (by omega)
      obtain ⟨b', o', hb', hcw⟩ := H2.out.row.at_ (by omega)
      injection hb' with hb'
      injection hb' with hb1 hb2 _
      subst hb1 hb2
      have hbw : bb < w.heap.size := World.block_lt_of_cell? _ _ (hcw k hlt)
      have c1 := hI.same _ _ (by intro e; injection e with e _ _; omega) (hcb k hlt)
      have LB : bs < W4.heap.size := World.block_lt_of_cell? _ _ (hcs k hlt)
      have hF0 := hI.same _ _ (by intro e; injection e with e _ _; exact NS e) SC.out.c2
      have hF1 := hI.same _ _ (by intro e; injection e with e _ _; exact NB e) (hcs k hlt)
      have hz := getD_pix PS.out k
      have hy := getD_pix PB.out k
      have hst := mrs_succ SS ys s k
      have hlen : (mrs SS ys s k).length ≤ 10000 := by rw [mrs_length]; omega
      obtain ⟨z, hzd⟩ : ∃ z, z = SS.getD k 0 := ⟨_, rfl⟩
      obtain ⟨y, hyd⟩ : ∃ z, z = ys.getD k 0 := ⟨_, rfl⟩
      obtain ⟨L, hL⟩ : ∃ L, L = mrs SS ys s k := ⟨_, rfl⟩
      rw [← hzd] at hF1 hz hst
      rw [← hyd] at c1 hy hst
      rw [← hL] at hI hst hlen
      obtain ⟨r, hr⟩ : ∃ r, r = near (y - z) s := ⟨_, rfl⟩
      rw [← hr] at hst
      have hnr : ∀ W, Calls Tryd.prog 65 #[.int .i64 (y - z), .int .i64 s] W fun e w' => e = .returned (.int .i64 r) ∧ w' = W := fun W => by
        rw [hr]; exact (near_any (y - z) s W (by omega) (by omega) s1 s64).mono fun _ _ ⟨x, y⟩ => ⟨x, y.symm⟩
      have HNR := Lib.hid hnr
      have HST := Lib.hid hst
      have HLEN := Lib.hid hlen
      have HI := Lib.hid hI
      have HF0 := Lib.hid hF0
      have HF1 := Lib.hid hF1
      have HG0 := Lib.hid hI.at_
      have e1 : IntKind.i64.wrap (y - z) = y - z := IntWalk.i64_in _ (by omega)
      have i1 : (0 : Int) ≤ (k : Int) := by omega
      have i2 : (k : Int) < (n : Int) := by omega
      clear hcs hcb hcw hzd hyd hL hr hnr hst hlen hI hrel hF0 hF1
      go_upto_region 11 with fail
      have hF : wr.drew.cell? ⟨W3.heap.size, 2, none⟩ = some (.slice (some ⟨bs, os, none⟩) n vc) ∧ wr.drew.cell? ⟨bs, os + k, none⟩ = some (.int .i64 z) := ⟨HF0.out, HF1.out⟩
      have hG : wr.drew.cell? ⟨W2.heap.size, 3, none⟩ = some v := HG0.out
      clear c1
      refine wp_region_gate (fun w' => w'.cell? ⟨W3.heap.size, 2, none⟩ = some (.slice (some ⟨bs, os, none⟩) n vc) ∧ w'.cell? ⟨bs, os + k, none⟩ = some (.int .i64 z)) (fun w' => w'.cell? ⟨W2.heap.size, 3, none⟩ = some v) 12 (by kernel_rfl) ?_
      refine gate_takeF (i := 0) (v := ?_) rfl (by kernel_rfl) (by kernel_rfl) (by kernel_rfl) (fun _ _ _ h => h) (by decide) ⟨hF, fun _ => hG⟩ (Or.inl ⟨by rfl, ?_⟩) ?_
      rotate_left
      · intro wq hSw; obtain ⟨s0, s1⟩ := hSw; go_simp; rfl
      simp only [Act.put]
      refine gate_takeG (i := 1) (v := ?_) rfl (by kernel_rfl) (by kernel_rfl) (by kernel_rfl) (fun _ _ _ h => h) (by decide) (by kernel_rfl) (by kernel_rfl) ⟨hF, fun _ => hG⟩ (Or.inl ⟨by rfl, ?_⟩) ?_
      rotate_left
      · intro wq hSw; obtain ⟨⟨s0, s1⟩, s2⟩ := hSw; go_simp; rfl
      simp only [Act.put]
      refine gate_takeF (i := 2) (v := ?_) rfl (by kernel_rfl) (by kernel_rfl) (by kernel_rfl) (fun _ _ _ h => h) (by decide) ⟨hF, fun _ => hG⟩ (Or.inl ⟨by rfl, ?_⟩) ?_
      rotate_left
      · intro wq hSw; obtain ⟨s0, s1⟩ := hSw; go_simp; rfl
      simp only [Act.put]
      refine gate_takeF (i := 3) (v := ?_) rfl (by kernel_rfl) (by kernel_rfl) (by kernel_rfl) (fun _ _ _ h => h) (by decide) ⟨hF, fun _ => hG⟩ (Or.inl ⟨by rfl, ?_⟩) ?_
      rotate_left
      · intro wq hSw; obtain ⟨s0, s1⟩ := hSw; go_simp; rfl
      simp only [Act.put]
      refine gate_takeF (i := 4) (v := ?_) rfl (by kernel_rfl) (by kernel_rfl) (by kernel_rfl) (fun _ _ _ h => h) (by decide) ⟨hF, fun _ => hG⟩ (Or.inl ⟨by rfl, ?_⟩) ?_
      rotate_left
      · intro wq hSw; obtain ⟨s0, s1⟩ := hSw; go_simp; rfl
      simp only [Act.put]
      refine gate_takeF (i := 5) (v := ?_) rfl (by kernel_rfl) (by kernel_rfl) (by kernel_rfl) (fun _ _ _ h => h) (by decide) ⟨hF, fun _ => hG⟩ (Or.inl ⟨by rfl, ?_⟩) ?_
      rotate_left
      · intro wq hSw; obtain ⟨s0, s1⟩ := hSw; go_simp; rfl
      simp only [Act.put]
      refine gate_takeF (i := 6) (v := ?_) rfl (by kernel_rfl) (by kernel_rfl) (by kernel_rfl) (fun _ _ _ h => h) (by decide) ⟨hF, fun _ => hG⟩ (Or.inl ⟨by rfl, ?_⟩) ?_
      rotate_left
      · intro wq hSw; obtain ⟨s0, s1⟩ := hSw; go_simp; rfl
      simp only [Act.put]
      refine gate_takeF (i := 7) (v := ?_) rfl (by kernel_rfl) (by kernel_rfl) (by kernel_rfl) (fun _ _ _ h => h) (by decide) ⟨hF, fun _ => hG⟩ (Or.inl ⟨by rfl, ?_⟩) ?_
      rotate_left
      · intro wq hSw; obtain ⟨s0, s1⟩ := hSw; go_simp; rfl
      simp only [Act.put]
      refine gate_takeF (i := 8) (v := ?_) rfl (by kernel_rfl) (by kernel_rfl) (by kernel_rfl) (fun _ _ _ h => h) (by decide) ⟨hF, fun _ => hG⟩ (Or.inl ⟨by rfl, ?_⟩) ?_
      rotate_left
      · intro wq hSw; obtain ⟨s0, s1⟩ := hSw; go_simp; rfl
      simp only [Act.put]
      refine gate_takeF (i := 9) (v := ?_) rfl (by kernel_rfl) (by kernel_rfl) (by kernel_rfl) (fun _ _ _ h => h) (by decide) ⟨hF, fun _ => hG⟩ (Or.inl ⟨by rfl, ?_⟩) ?_
      rotate_left
      · intro wq hSw; obtain ⟨s0, s1⟩ := hSw; go_simp; rfl
      simp only [Act.put]
      refine gate_one (i := 10) (by kernel_rfl) rfl (fun K hK => ?_)
      go_simp
      refine (HNR.out _).mono ?_
      rintro e w' ⟨rfl, rfl⟩
      refine hK _ _ ⟨hF, fun _ => hG⟩ ?_
      clear hK K
      refine gate_one (i := 11) (by kernel_rfl) rfl (fun K hK => ?_)
      go_simp
      refine hK _ _ ⟨⟨(Lat.alloc _ _).cell_at hF.1, (Lat.alloc _ _).cell_at hF.2⟩, fun _ => (Lat.alloc _ _).cell_at hG⟩ ?_
      clear hK K
      refine gate_one (i := 12) (by kernel_rfl) rfl (fun K hK => ?_)
      obtain ⟨i0, hi0, hz0, hz1, hz2⟩ := info_int_parts
      have hsl : L.length ≤ 10000 := HLEN.out
      have hszd := HI.out.size
      refine step_append_lies (wr.drew.alloc (.cells #[.int .i64 r] 3)) rfl (.tmp 42) (.tmp 52) 22 rfl W4.heap.size 3 i0 (.int .i64 0) 1 8 Tryd.underlying22 hi0 hz0 hz1 hz2 rfl (by decide) v L.length (L.map (Value.int .i64)) rfl
        (by have := Own.alloc (Own.drew HI.out.own) (.cells #[.int .i64 r] 3); unfold Own at this; rwa [List.length_map] at this) ⟨wr.heap.size, 0, none⟩ 1 1 [.int .i64 r] rfl rfl ?_ ?_ (by decide) ?_ ?_ ?_ _ rfl ?_
      · intro q u' hq
        match q, hq with
        | 0, hq =>
          simp at hq; subst hq
          rw [Addr.add_lit]; exact cell_new (by simp) rfl
      · intro u' hu'; simp at hu'; subst hu'; rfl
      · unfold maxLen; omega
      · omega
      · simp; omega
      intro g c w1' hown hgrow hat hlt'
      have HI2 := HI.out.drewN 1
      have hstep := HI2.step (o := .cells #[.int .i64 r] 3) hgrow hown
      have cc : ∀ (b' i' : Nat) (x : Value), b' < W4.heap.size → wr.drew.cell? ⟨b', i', none⟩ = some x → w1'.cell? ⟨b', i', none⟩ = some x := fun b' i' x hb hx => grown_cell hgrow ((Lat.alloc _ _).cell_at hx) (Own.not HI2.own hb)
      have so : ∀ (b' i' : Nat) (x : Value), b' ≠ W2.heap.size → w1'.cell? ⟨b', i', none⟩ = some x → (w1'.setCell ⟨W2.heap.size, 3, none⟩ (.slice (some ⟨g, 0, none⟩) (L.length + 1) c)).cell? ⟨b', i', none⟩ = some x := fun b' i' x hb hx => by
        rw [World.cell?_setCell_other _ _ _ _ (by intro e; injection e with e1 e2 _; exact hb e1.symm)]; exact hx
      have hcC := cc _ _ _ HI2.hi hG
      have hfC : w1'.frozen? ⟨W2.heap.size, 3, none⟩ = false := grown_free hgrow (Nat.lt_of_lt_of_le HI2.hi (Nat.le_trans HI2.size (Lat.alloc _ _).size)) ((Lat.alloc _ _).free_at (Nat.lt_of_lt_of_le HI2.hi HI2.size) (HI2.free _ HI2.hi FRC.out)) (Own.not HI2.own HI2.hi)
      have f0 := cc _ _ _ LS hF.1
      have f1 := cc _ _ _ LB hF.2
      refine hK _ _ (FG.past (by kernel_rfl) ⟨f0, f1⟩) ?_
      clear hK K
      refine gate_takeF (i := 13) (v := ?_) rfl (by kernel_rfl) (by kernel_rfl) (by kernel_rfl) (fun _ _ _ h => h) (by decide) (FG.past (by kernel_rfl) ⟨f0, f1⟩) (Or.inl ⟨by rfl, ?_⟩) ?_
      rotate_left
      · intro wq hSw; go_simp; rfl
      simp only [Act.put]
      refine gate_one (i := 14) (by kernel_rfl) rfl (fun K hK => ?_)
      have HH := Lib.hid hstep
      clear hstep
      go_simp
      refine hK _ _ (FG.past (by kernel_rfl) ⟨so _ _ _ NS f0, so _ _ _ NB f1⟩) ?_
      clear hK K
      refine gate_done (by kernel_rfl) ?_ _
      clear hF hG cc so hcC hfC f0 f1 hgrow hown HI2 hsl
      go_wp2
      go_roundw
      case rel =>
        refine ⟨k + 1, by omega, by go_num, ?_⟩
        show AccSome _ _ _ _ _ (mrs SS ys s (k + 1))
        rw [HST.out]; exact ⟨_, HH.out⟩
      case measure => simp [intOf]; omega
    · obtain rfl : k = n := by omega
      have hEW := HS4.out
      have hne2 := fun (i : Nat) => hI.same ⟨w.heap.size + 1 + 1, i, none⟩
      have r0 := hne2 0 _ (by intro e; injection e with e _ _; omega) hEW.r.c0
      have r1 := hne2 1 _ (by intro e; injection e with e _ _; omega) hEW.r.c1
      have r2 := hne2 2 _ (by intro e; injection e with e _ _; omega) hEW.r.c2
      have r3 := hne2 3 _ (by intro e; injection e with e _ _; omega) hEW.r.c3
      have f0 := hI.free ⟨w.heap.size + 1 + 1, 0, none⟩ hEW.sz (hEW.f 0 (by omega))
      have f1 := hI.free ⟨w.heap.size + 1 + 1, 1, none⟩ hEW.sz (hEW.f 1 (by omega))
      have f2 := hI.free ⟨w.heap.size + 1 + 1, 2, none⟩ hEW.sz (hEW.f 2 (by omega))
      have f3 := hI.free ⟨w.heap.size + 1 + 1, 3, none⟩ hEW.sz (hEW.f 3 (by omega))
      obtain ⟨ra, rc, rfl, hrat⟩ := OwnInts.sliceN hI.own HWF.out (mrs_length _ _ _ _)
      have c0 := hI.same ⟨W2.heap.size, 0, none⟩ _ (by simp) C4.out.c0
      have c1 := hI.same ⟨W2.heap.size, 1, none⟩ _ (by simp) C4.out.c1
      have c2 := hI.same ⟨W2.heap.size, 2, none⟩ _ (by simp) C4.out.c2
      have c3 := hI.at_
      have Q := four_set ⟨r0, r1, r2, r3⟩ (.bool false) (.int .i64 X) (.int .i64 Y) (.slice ra k rc)
      have hlat := lat_four (hI.lat hEW.lat) (show w.heap.size ≤ w.heap.size + 1 + 1 by omega) (.bool false) (.int .i64 X) (.int .i64 Y) (.slice ra k rc)
      have hii := ints_four (g := w.heap.size + 1 + 1) hrat (own_ne hI.own (show w.heap.size + 1 + 1 < W4.heap.size from hEW.sz)) (.bool false) (.int .i64 X) (.int .i64 Y) (.slice ra k rc)
      unfold four at Q hlat hii
      have HL := Lib.hid hlat
      have HII := Lib.hid hii
      have Q := Lib.hid Q
      have FR := Lib.hid (Fresh.of hI.own hEW.lat.size)
      clear hrel hI hEW hne2 hrat hlat hii
      go_wp2
      exact bodyPost_ret (v := .tuple #[codV false X Y ra k rc, .nilIface]) (by simp [results, Tryd.results31, go_sem, Q.out.c0, Q.out.c1, Q.out.c2, Q.out.c3]) rfl ⟨ra, rc, rfl, HII.out, FR.out, HL.out⟩
end Go.Proofs.YtnnjijdpenifjaaDoor
