/- The contracts of dropref2.Moved and Behind. -/
import Derived.Test.YtooepflfofgnnaaDoorRefBest
import Derived.Test.YtooepflfofgnnaaDoorMovedC
namespace Go.Proofs.YtooepflfofgnnaaDoor
open Go.ChangeShapes Go.WideShapes Go.ChangeAt Go.RowKit

set_option maxHeartbeats 4000000 in
set_option maxRecDepth 100000 in
theorem refBehind_bad (wd hg : Int) (a : Option Addr) (n cap : Nat) (zs : List Int) (al : Bool) (x y : Int) (b : Option Addr) (m cap2 : Nat) (rs : List Int) (s : Int) (w : World) (h : IntsAt w a n cap zs) (h2 : IntsAt w b m cap2 rs) (he : behE wd hg zs al x y rs s ≠ 0) :
    Calls Tryd.prog 89 #[picV wd hg a n cap, codV al x y b m cap2, .int .i64 s] w fun e w' => e = .returned (.tuple #[picV 0 0 none 0 0, .int .i64 (behE wd hg zs al x y rs s)]) ∧ Lat w w' := by
  obtain ⟨W0, hW0⟩ : ∃ W, W = ((w.alloc (.cells #[.int .i64 wd, .int .i64 hg, .slice a n cap] 132)).alloc (.cells #[.bool al, .int .i64 x, .int .i64 y, .slice b m cap2] 110)).alloc (.cells #[.int .i64 0, .int .i64 0, .slice none 0 0] 132) := ⟨_, rfl⟩
  have hs := dw_open w wd hg a n cap al x y b m cap2
  rw [← hW0] at hs
  have hc := refPic wd hg a n cap zs W0 (h.keep hs.lat)
  obtain ⟨E, hE⟩ : ∃ E, E = behE wd hg zs al x y rs s := ⟨_, rfl⟩
  rw [← hE] at he ⊢
  have HS := Lib.hid hs
  have hlz := h.len
  have H2 := Lib.hid h2
  by_cases h1 : chkPic wd hg zs = 0
  case neg =>
    have e1 : E = chkPic wd hg zs := by rw [hE]; unfold behE; rw [if_pos h1]
    rw [← e1] at hc
    have d1 : ((E : Int) == 0) = false := by rw [beq_eq_false_iff_ne]; omega
    have d2 : ((E : Int) != 0) = true := by rw [bne_iff_ne]; omega
    have HC := Lib.hid hc
    clear hc h h2 he h1 e1 hE hs hlz
    go_enter Tryd.func89, Tryd.ntmps89
    go_upto_region 1 with fail
    rw [← hW0]
    clear hW0
    have p0 : W0.cell? ⟨w.heap.size, 0, none⟩ = _ := HS.out.p.c0
    have p1 : W0.cell? ⟨w.heap.size, 1, none⟩ = _ := HS.out.p.c1
    have p2 : W0.cell? ⟨w.heap.size, 2, none⟩ = _ := HS.out.p.c2
    go_wp2_with fail
    refine HC.out.mono ?_
    rintro e w1 ⟨rfl, hb1⟩
    have hs1 := HS.out.keep hb1
    clear p0 p1 p2 hb1
    have r0 := hs1.r.c0
    have r1 := hs1.r.c1
    have r2 := hs1.r.c2
    have f0 := hs1.f 0 (by omega)
    have f1 := hs1.f 1 (by omega)
    have f2 := hs1.f 2 (by omega)
    have Q := Lib.hid (three_set r0 r1 r2 (.int .i64 0) (.int .i64 0) (.slice none 0 0))
    have HL := Lib.hid (lat_three hs1.lat (show w.heap.size ≤ w.heap.size + 1 + 1 by omega) (.int .i64 0) (.int .i64 0) (.slice none 0 0))
    clear hs1
    go_wp2
    exact bodyPost_ret (v := .tuple #[picV 0 0 none 0 0, .int .i64 E]) (by simp [results, Tryd.results89, go_sem, Q.out.1, Q.out.2.1, Q.out.2.2]) rfl ⟨rfl, HL.out⟩
  rw [h1] at hc
  have HC := Lib.hid hc
  have hd : (decide (s < 1) = true ∧ E = 1) ∨ (decide (s < 1) = false ∧ decide (64 < s) = true ∧ E = 1) ∨ (decide (s < 1) = false ∧ decide (64 < s) = false ∧ 1 ≤ s ∧ s ≤ 64) := by
    have hb : stepB s = false → E = 1 := fun q => by rw [hE]; unfold behE; rw [if_neg (by omega), if_pos q]
    by_cases p1 : s < 1
    · exact .inl ⟨decide_eq_true p1, hb (by simp [stepB]; omega)⟩
    by_cases p2 : 64 < s
    · exact .inr (.inl ⟨decide_eq_false p1, decide_eq_true p2, hb (by simp [stepB]; omega)⟩)
    · exact .inr (.inr ⟨decide_eq_false p1, decide_eq_false p2, by omega, by omega⟩)
  rcases hd with ⟨b1, e1⟩ | ⟨b1, b2, e1⟩ | ⟨b1, b2, s1, s64⟩
  iterate 2
    · rw [e1]
      clear hc h h2 he h1 e1 hE hs hlz
      go_enter Tryd.func89, Tryd.ntmps89
      go_upto_region 1 with fail
      rw [← hW0]
      clear hW0
      have p0 : W0.cell? ⟨w.heap.size, 0, none⟩ = _ := HS.out.p.c0
      have p1 : W0.cell? ⟨w.heap.size, 1, none⟩ = _ := HS.out.p.c1
      have p2 : W0.cell? ⟨w.heap.size, 2, none⟩ = _ := HS.out.p.c2
      go_wp2_with fail
      refine HC.out.mono ?_
      rintro e w1 ⟨rfl, hb1⟩
      have hs1 := HS.out.keep hb1
      clear p0 p1 p2 hb1
      have r0 := hs1.r.c0
      have r1 := hs1.r.c1
      have r2 := hs1.r.c2
      have f0 := hs1.f 0 (by omega)
      have f1 := hs1.f 1 (by omega)
      have f2 := hs1.f 2 (by omega)
      have Q := Lib.hid (three_set r0 r1 r2 (.int .i64 0) (.int .i64 0) (.slice none 0 0))
      have HL := Lib.hid (lat_three hs1.lat (show w.heap.size ≤ w.heap.size + 1 + 1 by omega) (.int .i64 0) (.int .i64 0) (.slice none 0 0))
      clear hs1
      go_wp2
      exact bodyPost_ret (v := .tuple #[picV 0 0 none 0 0, .int .i64 1]) (by simp [results, Tryd.results89, go_sem, Q.out.1, Q.out.2.1, Q.out.2.2]) rfl ⟨rfl, HL.out⟩
  cases h4 : al with
  | true =>
    have e1 : E = 3 := by rw [hE]; unfold behE; rw [if_neg (by omega), if_neg (by simp [stepB, s1, s64]), if_pos h4]
    rw [e1]
    subst h4
    clear hc h h2 he h1 e1 hE hs hlz
    go_enter Tryd.func89, Tryd.ntmps89
    go_upto_region 1 with fail
    rw [← hW0]
    clear hW0
    have p0 : W0.cell? ⟨w.heap.size, 0, none⟩ = _ := HS.out.p.c0
    have p1 : W0.cell? ⟨w.heap.size, 1, none⟩ = _ := HS.out.p.c1
    have p2 : W0.cell? ⟨w.heap.size, 2, none⟩ = _ := HS.out.p.c2
    go_wp2_with fail
    refine HC.out.mono ?_
    rintro e w1 ⟨rfl, hb1⟩
    have hs1 := HS.out.keep hb1
    clear p0 p1 p2 hb1
    have q0 := hs1.q.c0
    have r0 := hs1.r.c0
    have r1 := hs1.r.c1
    have r2 := hs1.r.c2
    have f0 := hs1.f 0 (by omega)
    have f1 := hs1.f 1 (by omega)
    have f2 := hs1.f 2 (by omega)
    have Q := Lib.hid (three_set r0 r1 r2 (.int .i64 0) (.int .i64 0) (.slice none 0 0))
    have HL := Lib.hid (lat_three hs1.lat (show w.heap.size ≤ w.heap.size + 1 + 1 by omega) (.int .i64 0) (.int .i64 0) (.slice none 0 0))
    clear hs1
    go_wp2
    exact bodyPost_ret (v := .tuple #[picV 0 0 none 0 0, .int .i64 3]) (by simp [results, Tryd.results89, go_sem, Q.out.1, Q.out.2.1, Q.out.2.2]) rfl ⟨rfl, HL.out⟩
  | false =>
  subst h4
  cases h5 : oneB x y with
  | false =>
    have e1 : E = 1 := by rw [hE]; unfold behE; rw [if_neg (by omega), if_neg (by simp [stepB, s1, s64]), if_neg (by simp), if_pos h5]
    rw [e1]
    have hd : (decide (x < -1) = true) ∨ (decide (x < -1) = false ∧ decide (1 < x) = true) ∨ (decide (x < -1) = false ∧ decide (1 < x) = false ∧ decide (y < -1) = true) ∨ (decide (x < -1) = false ∧ decide (1 < x) = false ∧ decide (y < -1) = false ∧ decide (1 < y) = true) := by
      simp only [oneB, decide_eq_false_iff_not] at h5
      simp only [decide_eq_true_eq, decide_eq_false_iff_not]
      omega
    clear hc h h2 he h1 e1 hE hs hlz h5
    rcases hd with d1 | ⟨d1, d2⟩ | ⟨d1, d2, d3⟩ | ⟨d1, d2, d3, d4⟩
    all_goals
      go_enter Tryd.func89, Tryd.ntmps89
      go_upto_region 1 with fail
      rw [← hW0]
      clear hW0
      have p0 : W0.cell? ⟨w.heap.size, 0, none⟩ = _ := HS.out.p.c0
      have p1 : W0.cell? ⟨w.heap.size, 1, none⟩ = _ := HS.out.p.c1
      have p2 : W0.cell? ⟨w.heap.size, 2, none⟩ = _ := HS.out.p.c2
      go_wp2_with fail
      refine HC.out.mono ?_
      rintro e w1 ⟨rfl, hb1⟩
      have hs1 := HS.out.keep hb1
      clear p0 p1 p2 hb1
      have q0 := hs1.q.c0
      have q1 := hs1.q.c1
      have q2 := hs1.q.c2
      have r0 := hs1.r.c0
      have r1 := hs1.r.c1
      have r2 := hs1.r.c2
      have f0 := hs1.f 0 (by omega)
      have f1 := hs1.f 1 (by omega)
      have f2 := hs1.f 2 (by omega)
      have Q := Lib.hid (three_set r0 r1 r2 (.int .i64 0) (.int .i64 0) (.slice none 0 0))
      have HL := Lib.hid (lat_three hs1.lat (show w.heap.size ≤ w.heap.size + 1 + 1 by omega) (.int .i64 0) (.int .i64 0) (.slice none 0 0))
      clear hs1
      go_wp2
      exact bodyPost_ret (v := .tuple #[picV 0 0 none 0 0, .int .i64 1]) (by simp [results, Tryd.results89, go_sem, Q.out.1, Q.out.2.1, Q.out.2.2]) rfl ⟨rfl, HL.out⟩
  | true =>
  have e1 : E = rstE rs n := by rw [hE]; unfold behE; rw [if_neg (by omega), if_neg (by simp [stepB, s1, s64]), if_neg (by simp), if_neg (by simp [h5]), hlz]
  have hrc := fun W hW => refRests b m cap2 rs (n : Int) W (H2.out.keep hW)
  rw [← e1] at hrc
  have HRC := Lib.hid hrc
  have d2 : ((E : Int) != 0) = true := by rw [bne_iff_ne]; omega
  have d3 : ((E : Int) == 0) = false := by rw [beq_eq_false_iff_ne]; omega
  simp only [oneB, decide_eq_true_eq] at h5
  obtain ⟨x1, x2, y1, y2⟩ := h5
  have c1 : decide (x < -1) = false := decide_eq_false (by omega)
  have c2 : decide (1 < x) = false := decide_eq_false (by omega)
  have c3 : decide (y < -1) = false := decide_eq_false (by omega)
  have c4 : decide (1 < y) = false := decide_eq_false (by omega)
  clear hc h h2 he h1 e1 hE hs hlz hrc
  go_enter Tryd.func89, Tryd.ntmps89
  go_upto_region 1 with fail
  rw [← hW0]
  clear hW0
  have p0 : W0.cell? ⟨w.heap.size, 0, none⟩ = _ := HS.out.p.c0
  have p1 : W0.cell? ⟨w.heap.size, 1, none⟩ = _ := HS.out.p.c1
  have p2 : W0.cell? ⟨w.heap.size, 2, none⟩ = _ := HS.out.p.c2
  go_wp2_with fail
  refine HC.out.mono ?_
  rintro e w1 ⟨rfl, hb1⟩
  have hs1 := HS.out.keep hb1
  clear p0 p1 p2 hb1
  have q0 := hs1.q.c0
  have q1 := hs1.q.c1
  have q2 := hs1.q.c2
  have q3 := hs1.q.c3
  have p2 := hs1.p.c2
  go_wp2_with fail
  refine (HRC.out _ hs1.lat).mono ?_
  rintro e w' ⟨rfl, rfl⟩
  have r0 := hs1.r.c0
  have r1 := hs1.r.c1
  have r2 := hs1.r.c2
  have f0 := hs1.f 0 (by omega)
  have f1 := hs1.f 1 (by omega)
  have f2 := hs1.f 2 (by omega)
  have Q := Lib.hid (three_set r0 r1 r2 (.int .i64 0) (.int .i64 0) (.slice none 0 0))
  have HL := Lib.hid (lat_three hs1.lat (show w.heap.size ≤ w.heap.size + 1 + 1 by omega) (.int .i64 0) (.int .i64 0) (.slice none 0 0))
  clear hs1
  go_wp2
  exact bodyPost_ret (v := .tuple #[picV 0 0 none 0 0, .int .i64 E]) (by simp [results, Tryd.results89, go_sem, Q.out.1, Q.out.2.1, Q.out.2.2]) rfl ⟨rfl, HL.out⟩

theorem mtl_take (ss rs : List Int) (s : Int) (k n : Nat) (hn : n = ss.length) (hk : k < n) : (mtl ss rs s n).take (k + 1) = (mtl ss rs s n).take k ++ [clamp (ss.getD k 0 + rs.getD k 0 * s)] := by
  have hl : k < (mtl ss rs s n).length := by rw [mtl_length]; omega
  rw [List.take_add_one, List.getElem?_eq_getElem hl]
  have := mtl_getD ss rs s n k (by omega)
  rw [if_pos hk, List.getD_eq_getElem?_getD, List.getElem?_eq_getElem hl, Option.getD_some] at this
  rw [this]; rfl
set_option maxHeartbeats 8000000 in
set_option maxRecDepth 100000 in
theorem refBehind_ok (wd hg : Nat) (a : Option Addr) (n cap : Nat) (zs : List Int) (x y : Int) (b : Option Addr) (m cap2 : Nat) (rs : List Int) (s : Int) (w : World) (h : IntsAt w a n cap zs) (h2 : IntsAt w b m cap2 rs) (he : behE wd hg zs false x y rs s = 0) :
    Calls Tryd.prog 89 #[picV wd hg a n cap, codV false x y b m cap2, .int .i64 s] w fun e w' => ∃ c cc, e = .returned (.tuple #[picV wd hg c n cc, .int .i64 0]) ∧ IntsAt w' c n cc (mtl (shf wd hg zs x y n) rs s n) ∧ Fresh w c n ∧ Lat w w' := by
  obtain ⟨hk, s1, s64, _, ⟨x1, x2, y1, y2⟩, hre⟩ := behE_zero he
  have oa := chkPic_ok hk
  have hlz := h.len
  rw [hlz] at hre
  have hn : wd * hg = n := by
    have := oa.len
    rw [h.len, ← Int.natCast_mul] at this
    omega
  have w1 : 1 ≤ wd := by have := oa.w1; omega
  have w6 : wd ≤ 6 := by have := oa.w6; omega
  have g1 : 1 ≤ hg := by have := oa.h1; omega
  have g6 : hg ≤ 6 := by have := oa.h6; omega
  have hn36 : n ≤ 36 := by rw [← hn]; exact Nat.mul_le_mul w6 g6
  obtain ⟨hml, hrs⟩ := rstE_zero hre
  have hmn : n = m := by have := h2.len; omega
  subst hmn
  obtain ⟨W0, hW0⟩ : ∃ W, W = ((w.alloc (.cells #[.int .i64 wd, .int .i64 hg, .slice a n cap] 132)).alloc (.cells #[.bool false, .int .i64 x, .int .i64 y, .slice b n cap2] 110)).alloc (.cells #[.int .i64 0, .int .i64 0, .slice none 0 0] 132) := ⟨_, rfl⟩
  have hs := dw_open w wd hg a n cap false x y b n cap2
  rw [← hW0] at hs
  have hc := refPic wd hg a n cap zs W0 (h.keep hs.lat)
  rw [hk] at hc
  have hrc : ∀ W, Lat w W → Calls Tryd.prog 106 #[.slice b n cap2, .int .i64 n] W fun e w' => e = .returned (.int .i64 0) ∧ W = w' := fun W hW => by
    have := refRests b n cap2 rs (n : Int) W (h2.keep hW)
    rw [hre] at this
    exact this
  have hshf : ∀ W, Lat w W → Calls Tryd.prog 110 #[picV wd hg a n cap, .agg #[.int .i64 x, .int .i64 y]] W fun e w' => ∃ va vc, e = .returned (picV wd hg va n vc) ∧ IntsAt w' va n vc (shf wd hg zs x y n) ∧ Fresh W va n ∧ Lat W w' := fun W hW =>
    refShift wd hg a n cap zs x y W (h.keep hW) hn w1 w6 g1 g6 (by omega) (by omega) (by omega) (by omega) oa.pix
  obtain ⟨SS, hSS⟩ : ∃ S, S = shf wd hg zs x y n := ⟨_, rfl⟩
  have pS : ∀ z ∈ SS, 0 ≤ z ∧ z ≤ 255 := by rw [hSS]; exact shf_mem oa.pix
  have lS : SS.length = n := by rw [hSS]; exact shf_length _ _ _ _ _ _
  rw [← hSS] at hshf ⊢
  obtain ⟨T, hT⟩ : ∃ T, T = mtl SS rs s n := ⟨_, rfl⟩
  have hwf := wf_pix (mtl_pix (ss := SS) (rs := rs) (s := s) (k := n) pS)
  have hstp : ∀ k, k < n → T.take (k + 1) = T.take k ++ [clamp (SS.getD k 0 + rs.getD k 0 * s)] := fun k hk => by rw [hT]; exact mtl_take SS rs s k n lS.symm hk
  have hTl : T.length = n := by rw [hT, mtl_length, lS]
  rw [← hT] at hwf ⊢
  have HTL := Lib.hid hTl
  have HSTP := Lib.hid hstp
  have LSS := Lib.hid lS
  have HWF := Lib.hid hwf
  have PS := Lib.hid pS
  have HRS := Lib.hid hrs
  have HSHF := Lib.hid hshf
  have HRC := Lib.hid hrc
  have HC := Lib.hid hc
  have HS := Lib.hid hs
  have H2 := Lib.hid h2
  have b1 : decide (s < 1) = false := decide_eq_false (by omega)
  have b2 : decide (64 < s) = false := decide_eq_false (by omega)
  have c1 : decide (x < -1) = false := decide_eq_false (by omega)
  have c2 : decide (1 < x) = false := decide_eq_false (by omega)
  have c3 : decide (y < -1) = false := decide_eq_false (by omega)
  have c4 : decide (1 < y) = false := decide_eq_false (by omega)
  clear h h2 he hk oa hlz hre hn hml hrs hs hc hrc hshf hSS pS lS hT hwf hstp hTl
  go_enter Tryd.func89, Tryd.ntmps89
  go_upto_region 1 with fail
  rw [← hW0]
  clear hW0
  have p0 : W0.cell? ⟨w.heap.size, 0, none⟩ = _ := HS.out.p.c0
  have p1 : W0.cell? ⟨w.heap.size, 1, none⟩ = _ := HS.out.p.c1
  have p2 : W0.cell? ⟨w.heap.size, 2, none⟩ = _ := HS.out.p.c2
  go_wp2_with fail
  refine HC.out.mono ?_
  rintro e w1 ⟨rfl, hb1⟩
  have HS1 := Lib.hid (HS.out.keep hb1)
  clear p0 p1 p2 hb1
  have q0 : w1.cell? ⟨w.heap.size + 1, 0, none⟩ = _ := HS1.out.q.c0
  have q1 : w1.cell? ⟨w.heap.size + 1, 1, none⟩ = _ := HS1.out.q.c1
  have q2 : w1.cell? ⟨w.heap.size + 1, 2, none⟩ = _ := HS1.out.q.c2
  have q3 : w1.cell? ⟨w.heap.size + 1, 3, none⟩ = _ := HS1.out.q.c3
  have p0 : w1.cell? ⟨w.heap.size, 0, none⟩ = _ := HS1.out.p.c0
  have p1 : w1.cell? ⟨w.heap.size, 1, none⟩ = _ := HS1.out.p.c1
  have p2 : w1.cell? ⟨w.heap.size, 2, none⟩ = _ := HS1.out.p.c2
  go_wp2_with fail
  refine (HRC.out _ HS1.out.lat).mono ?_
  rintro e w' ⟨rfl, rfl⟩
  go_wp2_with fail
  refine (HSHF.out _ HS1.out.lat).mono ?_
  rintro e w2 ⟨va, vc, rfl, hat, _, hb3⟩
  obtain ⟨gS, hgS⟩ : ∃ g, g = w2.heap.size := ⟨_, rfl⟩
  have hl4 := Lat.alloc w2 (.cells #[.int .i64 wd, .int .i64 hg, .slice va n vc] 132)
  obtain ⟨W3, hW3⟩ : ∃ W, W = w2.alloc (.cells #[.int .i64 wd, .int .i64 hg, .slice va n vc] 132) := ⟨_, rfl⟩
  rw [← hW3] at hl4
  have hs4 := HS1.out.keep (Lat.trans hb3 hl4)
  have HS4 := Lib.hid hs4
  have HAT := Lib.hid (hat.keep hl4)
  have H24 := Lib.hid (H2.out.keep hs4.lat)
  have hsp : W3.cell? ⟨gS, 2, none⟩ = some (.slice va n vc) := by rw [hW3, hgS]; exact cell_new rfl rfl
  have SP0 := Lib.hid hsp
  have QP0 := Lib.hid hs4.q.c3
  clear p0 p1 p2 q0 q1 q2 q3 hat hb3 hl4 hs4 hsp HS1
  go_upto_region 13 with fail
  rw [← hW3, ← hgS]
  clear hW3 hgS
  go_wp2_with fail
  go_loopw [10, 11] (fun v i wr => ∃ k : Nat, k ≤ n ∧ i = .int .i64 k ∧ Hid (OwnInts wr W3.heap.size v (T.take k) ∧ Lat W3 wr)) (fun _ i _ => n - (intOf i).toNat)
  case atStart => exact ⟨0, Nat.zero_le _, rfl, Own.nil _ _ _, Lat.refl _⟩
  case round =>
    obtain ⟨k, hk, rfl, hrel⟩ := hrel
    obtain ⟨ho, hb⟩ := hrel.out
    have c5 := hb.cell_at SP0.out
    by_cases hlt : k < n
    · obtain ⟨b1', o1, rfl, hc1⟩ := HAT.out.row.at_ (by omega)
      obtain ⟨b2', o2, rfl, hc2⟩ := H24.out.row.at_ (by omega)
      have z1 := hc1 k hlt
      have z2 := hc2 k hlt
      have hz := getD_pix PS.out k
      have hr := HRS.out _ (mem_getD rs k (by rw [H2.out.len]; exact hlt))
      have hst := HSTP.out k hlt
      obtain ⟨z, hzd⟩ : ∃ z, z = SS.getD k 0 := ⟨_, rfl⟩
      obtain ⟨r, hrd⟩ : ∃ z, z = rs.getD k 0 := ⟨_, rfl⟩
      rw [← hzd] at z1 hz hst
      rw [← hrd] at z2 hr hst
      have hm := mul_bd r s hr.1 hr.2 s1 s64
      obtain ⟨t, ht⟩ : ∃ t, t = clamp (z + r * s) := ⟨_, rfl⟩
      obtain ⟨L, hL⟩ : ∃ L, L = T.take k := ⟨_, rfl⟩
      have hlen : L.length ≤ 10000 := by rw [hL, List.length_take]; omega
      rw [← ht] at hst
      rw [← hL] at hst ho
      have hcl : ∀ W, Calls Tryd.prog 108 #[.int .i64 (z + r * s), .int .i64 255] W fun e w' => e = .returned (.int .i64 t) ∧ W = w' := fun W => by rw [ht]; exact refWithin (z + r * s) 255 W (by omega)
      have HCL := Lib.hid hcl
      have HST := Lib.hid hst
      have HLEN := Lib.hid hlen
      have HO := Lib.hid ho
      have HB := Lib.hid hb
      have SP := Lib.hid SP0.out
      have QP := Lib.hid QP0.out
      have CZ1 := Lib.hid z1
      have CZ2 := Lib.hid z2
      have e1 : IntKind.i64.wrap (r * s) = r * s := IntWalk.i64_in _ (by omega)
      have e2 : IntKind.i64.wrap (z + r * s) = z + r * s := IntWalk.i64_in _ (by omega)
      have i1 : (0 : Int) ≤ (k : Int) := by omega
      have i2 : (k : Int) < (n : Int) := by omega
      clear hc1 hc2 hzd hrd ht hL hcl hst hlen ho hb hrel z1 z2
      go_upto_region 17 with fail
      have hF : wr.drew.cell? ⟨gS, 2, none⟩ = some (.slice (some ⟨b1', o1, none⟩) n vc) ∧ wr.drew.cell? ⟨b1', o1 + k, none⟩ = some (.int .i64 z) ∧ wr.drew.cell? ⟨w.heap.size + 1, 3, none⟩ = some (.slice (some ⟨b2', o2, none⟩) n cap2) ∧ wr.drew.cell? ⟨b2', o2 + k, none⟩ = some (.int .i64 r) := ⟨HB.out.cell_at SP.out, HB.out.cell_at CZ1.out, HB.out.cell_at QP.out, HB.out.cell_at CZ2.out⟩
      clear c5
      refine wp_region_gate (fun w' => w'.cell? ⟨gS, 2, none⟩ = some (.slice (some ⟨b1', o1, none⟩) n vc) ∧ w'.cell? ⟨b1', o1 + k, none⟩ = some (.int .i64 z) ∧ w'.cell? ⟨w.heap.size + 1, 3, none⟩ = some (.slice (some ⟨b2', o2, none⟩) n cap2) ∧ w'.cell? ⟨b2', o2 + k, none⟩ = some (.int .i64 r)) (fun _ => True) 1000 (by kernel_rfl) ?_
      refine gate_takeF (i := 0) (v := ?_) rfl (by kernel_rfl) (by kernel_rfl) (by kernel_rfl) (fun _ _ _ h => h) (by decide) ⟨hF, fun _ => trivial⟩ (Or.inl ⟨by rfl, ?_⟩) ?_
      rotate_left
      · intro wq hSw; obtain ⟨s0, s1, s2, s3⟩ := hSw; go_simp; rfl
      simp only [Act.put]
      refine gate_takeF (i := 1) (v := ?_) rfl (by kernel_rfl) (by kernel_rfl) (by kernel_rfl) (fun _ _ _ h => h) (by decide) ⟨hF, fun _ => trivial⟩ (Or.inl ⟨by rfl, ?_⟩) ?_
      rotate_left
      · intro wq hSw; obtain ⟨s0, s1, s2, s3⟩ := hSw; go_simp; rfl
      simp only [Act.put]
      refine gate_takeF (i := 2) (v := ?_) rfl (by kernel_rfl) (by kernel_rfl) (by kernel_rfl) (fun _ _ _ h => h) (by decide) ⟨hF, fun _ => trivial⟩ (Or.inl ⟨by rfl, ?_⟩) ?_
      rotate_left
      · intro wq hSw; obtain ⟨s0, s1, s2, s3⟩ := hSw; go_simp; rfl
      simp only [Act.put]
      refine gate_takeF (i := 3) (v := ?_) rfl (by kernel_rfl) (by kernel_rfl) (by kernel_rfl) (fun _ _ _ h => h) (by decide) ⟨hF, fun _ => trivial⟩ (Or.inl ⟨by rfl, ?_⟩) ?_
      rotate_left
      · intro wq hSw; obtain ⟨s0, s1, s2, s3⟩ := hSw; go_simp; rfl
      simp only [Act.put]
      refine gate_takeF (i := 4) (v := ?_) rfl (by kernel_rfl) (by kernel_rfl) (by kernel_rfl) (fun _ _ _ h => h) (by decide) ⟨hF, fun _ => trivial⟩ (Or.inl ⟨by rfl, ?_⟩) ?_
      rotate_left
      · intro wq hSw; obtain ⟨s0, s1, s2, s3⟩ := hSw; go_simp; rfl
      simp only [Act.put]
      refine gate_takeF (i := 5) (v := ?_) rfl (by kernel_rfl) (by kernel_rfl) (by kernel_rfl) (fun _ _ _ h => h) (by decide) ⟨hF, fun _ => trivial⟩ (Or.inl ⟨by rfl, ?_⟩) ?_
      rotate_left
      · intro wq hSw; obtain ⟨s0, s1, s2, s3⟩ := hSw; go_simp; rfl
      simp only [Act.put]
      refine gate_takeF (i := 6) (v := ?_) rfl (by kernel_rfl) (by kernel_rfl) (by kernel_rfl) (fun _ _ _ h => h) (by decide) ⟨hF, fun _ => trivial⟩ (Or.inl ⟨by rfl, ?_⟩) ?_
      rotate_left
      · intro wq hSw; obtain ⟨s0, s1, s2, s3⟩ := hSw; go_simp; rfl
      simp only [Act.put]
      refine gate_takeF (i := 7) (v := ?_) rfl (by kernel_rfl) (by kernel_rfl) (by kernel_rfl) (fun _ _ _ h => h) (by decide) ⟨hF, fun _ => trivial⟩ (Or.inl ⟨by rfl, ?_⟩) ?_
      rotate_left
      · intro wq hSw; obtain ⟨s0, s1, s2, s3⟩ := hSw; go_simp; rfl
      simp only [Act.put]
      refine gate_takeF (i := 8) (v := ?_) rfl (by kernel_rfl) (by kernel_rfl) (by kernel_rfl) (fun _ _ _ h => h) (by decide) ⟨hF, fun _ => trivial⟩ (Or.inl ⟨by rfl, ?_⟩) ?_
      rotate_left
      · intro wq hSw; obtain ⟨s0, s1, s2, s3⟩ := hSw; go_simp; rfl
      simp only [Act.put]
      refine gate_takeF (i := 9) (v := ?_) rfl (by kernel_rfl) (by kernel_rfl) (by kernel_rfl) (fun _ _ _ h => h) (by decide) ⟨hF, fun _ => trivial⟩ (Or.inl ⟨by rfl, ?_⟩) ?_
      rotate_left
      · intro wq hSw; obtain ⟨s0, s1, s2, s3⟩ := hSw; go_simp; rfl
      simp only [Act.put]
      refine gate_takeF (i := 10) (v := ?_) rfl (by kernel_rfl) (by kernel_rfl) (by kernel_rfl) (fun _ _ _ h => h) (by decide) ⟨hF, fun _ => trivial⟩ (Or.inl ⟨by rfl, ?_⟩) ?_
      rotate_left
      · intro wq hSw; obtain ⟨s0, s1, s2, s3⟩ := hSw; go_simp; rfl
      simp only [Act.put]
      refine gate_takeF (i := 11) (v := ?_) rfl (by kernel_rfl) (by kernel_rfl) (by kernel_rfl) (fun _ _ _ h => h) (by decide) ⟨hF, fun _ => trivial⟩ (Or.inl ⟨by rfl, ?_⟩) ?_
      rotate_left
      · intro wq hSw; obtain ⟨s0, s1, s2, s3⟩ := hSw; go_simp; rfl
      simp only [Act.put]
      refine gate_takeF (i := 12) (v := ?_) rfl (by kernel_rfl) (by kernel_rfl) (by kernel_rfl) (fun _ _ _ h => h) (by decide) ⟨hF, fun _ => trivial⟩ (Or.inl ⟨by rfl, ?_⟩) ?_
      rotate_left
      · intro wq hSw; obtain ⟨s0, s1, s2, s3⟩ := hSw; go_simp; rfl
      simp only [Act.put]
      refine gate_takeF (i := 13) (v := ?_) rfl (by kernel_rfl) (by kernel_rfl) (by kernel_rfl) (fun _ _ _ h => h) (by decide) ⟨hF, fun _ => trivial⟩ (Or.inl ⟨by rfl, ?_⟩) ?_
      rotate_left
      · intro wq hSw; obtain ⟨s0, s1, s2, s3⟩ := hSw; go_simp; rfl
      simp only [Act.put]
      refine gate_one (i := 14) (by kernel_rfl) rfl (fun K hK => ?_)
      go_simp
      refine (HCL.out _).mono ?_
      rintro e w' ⟨rfl, rfl⟩
      refine hK _ _ ⟨hF, fun _ => trivial⟩ ?_
      clear hK K
      refine gate_one (i := 15) (by kernel_rfl) rfl (fun K hK => ?_)
      go_simp
      refine hK _ _ ⟨⟨(Lat.alloc _ _).cell_at hF.1, (Lat.alloc _ _).cell_at hF.2.1, (Lat.alloc _ _).cell_at hF.2.2.1, (Lat.alloc _ _).cell_at hF.2.2.2⟩, fun _ => trivial⟩ ?_
      clear hK K
      refine gate_one (i := 16) (by kernel_rfl) rfl (fun K hK => ?_)
      obtain ⟨i0, hi0, hz0, hz1, hz2⟩ := info_int_parts
      have hsl : L.length ≤ 10000 := HLEN.out
      have hszd : W3.heap.size ≤ wr.heap.size := HB.out.size
      refine step_append_lies (wr.drew.alloc (.cells #[.int .i64 t] 3)) rfl (.tmp 79) (.tmp 94) 25 rfl W3.heap.size 3 i0 (.int .i64 0) 1 8 Tryd.underlying25 hi0 hz0 hz1 hz2 rfl (by decide) u10 L.length (L.map (Value.int .i64)) rfl
        (by have := Own.alloc (Own.drew HO.out) (.cells #[.int .i64 t] 3); unfold Own at this; rwa [List.length_map] at this) ⟨wr.heap.size, 0, none⟩ 1 1 [.int .i64 t] rfl rfl ?_ ?_ (by decide) ?_ ?_ ?_ _ rfl ?_
      · intro q u' hq
        match q, hq with
        | 0, hq =>
          simp at hq; subst hq
          rw [Addr.add_lit]; exact cell_new (by simp) rfl
      · intro u' hu'; simp at hu'; subst hu'; rfl
      · unfold maxLen; omega
      · omega
      · simp; omega
      intro g c w1' hown hgrow hat hlt'
      have hlat : Lat W3 w1' := lat_grown (Lat.trans HB.out (Lat.trans (Lat.drew wr) (Lat.alloc _ _))) hgrow (fun j hj => (Own.lt HO.out j hj).1)
      have ho1 : OwnInts w1' W3.heap.size (.slice (some ⟨g, 0, none⟩) (L.length + 1) c) (L ++ [t]) := by
        unfold OwnInts Own
        rw [List.length_map, List.length_append, List.length_singleton, List.map_append]
        exact hown
      have HLAT := Lib.hid hlat
      have HO1 := Lib.hid ho1
      have f0 := hlat.cell_at SP.out
      have f1 := hlat.cell_at CZ1.out
      have f2 := hlat.cell_at QP.out
      have f3 := hlat.cell_at CZ2.out
      clear hown hgrow hlat ho1
      refine hK _ _ ⟨⟨f0, f1, f2, f3⟩, fun _ => trivial⟩ ?_
      clear hK K
      refine gate_takeF (i := 17) (v := ?_) rfl (by kernel_rfl) (by kernel_rfl) (by kernel_rfl) (fun _ _ _ h => h) (by decide) ⟨⟨f0, f1, f2, f3⟩, fun _ => trivial⟩ (Or.inl ⟨by rfl, ?_⟩) ?_
      rotate_left
      · intro wq hSw; go_simp; rfl
      simp only [Act.put]
      refine gate_done (by kernel_rfl) ?_ _
      clear hF f0 f1 f2 f3 hsl
      go_wp2
      go_roundw
      case rel => exact ⟨k + 1, by omega, by go_num, by rw [HST.out]; exact HO1.out, HLAT.out⟩
      case measure => simp [intOf]; omega
    · obtain rfl : k = n := by omega
      rw [List.take_of_length_le (by rw [HTL.out]; exact Nat.le_refl _)] at ho
      obtain ⟨ra, rc, rfl, hrat⟩ := OwnInts.sliceN ho HWF.out HTL.out
      have hs5 := HS4.out.keep hb
      have r0 := hs5.r.c0
      have r1 := hs5.r.c1
      have r2 := hs5.r.c2
      have f0 := hs5.f 0 (by omega)
      have f1 := hs5.f 1 (by omega)
      have f2 := hs5.f 2 (by omega)
      have q0 := hs5.p.c0
      have q1 := hs5.p.c1
      have Q := Lib.hid (three_set r0 r1 r2 (.int .i64 wd) (.int .i64 hg) (.slice ra k rc))
      have HII := Lib.hid (ints_three (g := w.heap.size + 1 + 1) hrat (own_ne ho HS4.out.sz) (.int .i64 wd) (.int .i64 hg) (.slice ra k rc))
      have HL := Lib.hid (lat_three hs5.lat (show w.heap.size ≤ w.heap.size + 1 + 1 by omega) (.int .i64 wd) (.int .i64 hg) (.slice ra k rc))
      have HFR := Lib.hid (Fresh.of ho HS4.out.lat.size)
      clear hrel ho hb hrat hs5
      go_wp2
      exact bodyPost_ret (v := .tuple #[picV wd hg ra k rc, .int .i64 0]) (by simp [results, Tryd.results89, go_sem, Q.out.1, Q.out.2.1, Q.out.2.2]) rfl ⟨_, _, rfl, HII.out, HFR.out, HL.out⟩
end Go.Proofs.YtooepflfofgnnaaDoor
