/- The contracts of moved.Best, Encode, Decode: one answer for every input. -/
import Derived.Test.YtnnjijdpenifjaaDoorMovedDec
namespace Go.Proofs.YtnnjijdpenifjaaDoor
open Go.ChangeShapes Go.WideShapes Go.ChangeAt Go.RowKit

/-- What Best lays first. -/
structure BB (w W : World) (wd hg : Int) (a : Option Addr) (n cap : Nat) (wd2 hg2 : Int) (b : Option Addr) (m cap2 : Nat) : Prop where
  lat : Lat w W
  p : Cells3 W w.heap.size 0 (.int .i64 wd) (.int .i64 hg) (.slice a n cap)
  q : Cells3 W (w.heap.size + 1) 0 (.int .i64 wd2) (.int .i64 hg2) (.slice b m cap2)
  r0 : W.cell? ⟨w.heap.size + 1 + 1, 0, none⟩ = some (.int .i64 0)
  r1 : W.cell? ⟨w.heap.size + 1 + 1, 1, none⟩ = some (.int .i64 0)
  f0 : W.frozen? ⟨w.heap.size + 1 + 1, 0, none⟩ = false
  f1 : W.frozen? ⟨w.heap.size + 1 + 1, 1, none⟩ = false
  sz : w.heap.size + 1 + 1 < W.heap.size
theorem BB.keep {w W W' : World} {wd hg : Int} {a : Option Addr} {n cap : Nat} {wd2 hg2 : Int} {b : Option Addr} {m cap2 : Nat} (h : BB w W wd hg a n cap wd2 hg2 b m cap2) (hb : Lat W W') : BB w W' wd hg a n cap wd2 hg2 b m cap2 :=
  ⟨Lat.trans h.lat hb, h.p.keep hb, h.q.keep hb, hb.cell_at h.r0, hb.cell_at h.r1, hb.free_at h.sz h.f0, hb.free_at h.sz h.f1, Nat.lt_of_lt_of_le h.sz hb.size⟩
theorem bb_open (w : World) (wd hg : Int) (a : Option Addr) (n cap : Nat) (wd2 hg2 : Int) (b : Option Addr) (m cap2 : Nat) :
    BB w (((w.alloc (.cells #[.int .i64 wd, .int .i64 hg, .slice a n cap] 24)).alloc (.cells #[.int .i64 wd2, .int .i64 hg2, .slice b m cap2] 24)).alloc (.cells #[.int .i64 0, .int .i64 0] 44)) wd hg a n cap wd2 hg2 b m cap2 := by
  have l3 := Lat.alloc ((w.alloc (.cells #[.int .i64 wd, .int .i64 hg, .slice a n cap] 24)).alloc (.cells #[.int .i64 wd2, .int .i64 hg2, .slice b m cap2] 24)) (.cells #[.int .i64 0, .int .i64 0] 44)
  have l2 := Lat.alloc (w.alloc (.cells #[.int .i64 wd, .int .i64 hg, .slice a n cap] 24)) (.cells #[.int .i64 wd2, .int .i64 hg2, .slice b m cap2] 24)
  have l1 := Lat.alloc w (.cells #[.int .i64 wd, .int .i64 hg, .slice a n cap] 24)
  exact ⟨Lat.trans l1 (Lat.trans l2 l3), (cells3_new rfl rfl rfl rfl).keep (Lat.trans l2 l3), (cells3_new (by simp) rfl rfl rfl).keep l3, cell_new (by simp) rfl, cell_new (by simp) rfl, free_new (by simp), free_new (by simp), by simp⟩
def bI (wd hg : Int) (zs ys : List Int) : Nat := bst wd.toNat hg.toNat zs ys 9
theorem bI_lt (wd hg : Int) (zs ys : List Int) : bI wd hg zs ys < 9 := by have := bst_lt wd.toNat hg.toNat zs ys 9; unfold bI; omega
def bX (wd hg : Int) (zs : List Int) (wd2 hg2 : Int) (ys : List Int) : Int := if alkE wd hg zs wd2 hg2 ys = 0 then mvX (bI wd hg zs ys) else 0
def bY (wd hg : Int) (zs : List Int) (wd2 hg2 : Int) (ys : List Int) : Int := if alkE wd hg zs wd2 hg2 ys = 0 then mvY (bI wd hg zs ys) else 0
set_option maxHeartbeats 2000000 in
theorem mbest_tot (wd hg : Int) (a : Option Addr) (n cap : Nat) (zs : List Int) (wd2 hg2 : Int) (b : Option Addr) (m cap2 : Nat) (ys : List Int) (w : World) (h : IntsAt w a n cap zs) (h2 : IntsAt w b m cap2 ys) :
    Calls Tryd.prog 32 #[picV wd hg a n cap, picV wd2 hg2 b m cap2] w fun e w' => e = .returned (.tuple #[.agg #[.int .i64 (bX wd hg zs wd2 hg2 ys), .int .i64 (bY wd hg zs wd2 hg2 ys)], errv (alkE wd hg zs wd2 hg2 ys)]) ∧ Lat w w' := by
  obtain ⟨W0, hW0⟩ : ∃ W, W = ((w.alloc (.cells #[.int .i64 wd, .int .i64 hg, .slice a n cap] 24)).alloc (.cells #[.int .i64 wd2, .int .i64 hg2, .slice b m cap2] 24)).alloc (.cells #[.int .i64 0, .int .i64 0] 44) := ⟨_, rfl⟩
  have hs := bb_open w wd hg a n cap wd2 hg2 b m cap2
  rw [← hW0] at hs
  have hc := alike_any wd hg a n cap zs wd2 hg2 b m cap2 ys W0 (h.keep hs.lat) (h2.keep hs.lat)
  have HS := Lib.hid hs
  by_cases he : alkE wd hg zs wd2 hg2 ys = 0
  · have ex : bX wd hg zs wd2 hg2 ys = mvX (bI wd hg zs ys) := if_pos he
    have ey : bY wd hg zs wd2 hg2 ys = mvY (bI wd hg zs ys) := if_pos he
    rw [he, errv_zero rfl] at hc
    rw [ex, ey, he, errv_zero rfl]
    obtain ⟨ka, kb, rfl, rfl⟩ := alkE_zero.1 he
    have oa := chkPic_ok ka
    have ob := chkPic_ok kb
    obtain ⟨X, hX⟩ : ∃ X, X = mvX (bI wd hg zs ys) := ⟨_, rfl⟩
    obtain ⟨Y, hY⟩ : ∃ Y, Y = mvY (bI wd hg zs ys) := ⟨_, rfl⟩
    rw [← hX, ← hY]
    have hbest : ∀ W, Lat w W → Calls Tryd.prog 73 #[picV wd hg a n cap, picV wd hg b m cap2] W fun e w' => e = .returned (.agg #[.int .i64 X, .int .i64 Y]) ∧ Lat W w' := fun W hW => by
      obtain ⟨wd, rfl⟩ := Int.eq_ofNat_of_zero_le (show 0 ≤ wd by have := oa.w1; omega)
      obtain ⟨hg, rfl⟩ := Int.eq_ofNat_of_zero_le (show 0 ≤ hg by have := oa.h1; omega)
      have hn : wd * hg = n := by
        have := oa.len
        rw [h.len, ← Int.natCast_mul] at this
        omega
      have hmn : m = n := by have := oa.len; have := ob.len; have := h.len; have := h2.len; omega
      subst hmn
      have := best_any wd hg a m cap zs b cap2 ys W (h.keep hW) (h2.keep hW) hn (by have := oa.w1; omega) (by have := oa.w6; omega) (by have := oa.h1; omega) (by have := oa.h6; omega) oa.pix ob.pix
      rw [hX, hY]
      exact this
    have HC := Lib.hid hc
    have HBEST := Lib.hid hbest
    clear hc h h2 he hs ex ey ka kb oa ob hX hY hbest
    go_enter Tryd.func32, Tryd.ntmps32
    go_upto_region 1 with fail
    rw [← hW0]
    clear hW0
    have p0 : W0.cell? ⟨w.heap.size, 0, none⟩ = _ := HS.out.p.c0
    have p1 : W0.cell? ⟨w.heap.size, 1, none⟩ = _ := HS.out.p.c1
    have p2 : W0.cell? ⟨w.heap.size, 2, none⟩ = _ := HS.out.p.c2
    have q0 : W0.cell? ⟨w.heap.size + 1, 0, none⟩ = _ := HS.out.q.c0
    have q1 : W0.cell? ⟨w.heap.size + 1, 1, none⟩ = _ := HS.out.q.c1
    have q2 : W0.cell? ⟨w.heap.size + 1, 2, none⟩ = _ := HS.out.q.c2
    go_wp2_with fail
    refine HC.out.mono ?_
    rintro e w1 ⟨rfl, hb1⟩
    clear p0 p1 p2 q0 q1 q2
    have hs1 := HS.out.keep hb1
    have HS1 := Lib.hid hs1
    have p0 : w1.cell? ⟨w.heap.size, 0, none⟩ = _ := hs1.p.c0
    have p1 : w1.cell? ⟨w.heap.size, 1, none⟩ = _ := hs1.p.c1
    have p2 : w1.cell? ⟨w.heap.size, 2, none⟩ = _ := hs1.p.c2
    have q0 : w1.cell? ⟨w.heap.size + 1, 0, none⟩ = _ := hs1.q.c0
    have q1 : w1.cell? ⟨w.heap.size + 1, 1, none⟩ = _ := hs1.q.c1
    have q2 : w1.cell? ⟨w.heap.size + 1, 2, none⟩ = _ := hs1.q.c2
    clear hs1 hb1
    go_wp2_with fail
    refine (HBEST.out _ HS1.out.lat).mono ?_
    rintro e w2 ⟨rfl, hb2⟩
    have hs2 := HS1.out.keep hb2
    have r0 := hs2.r0
    have r1 := hs2.r1
    have f0 := hs2.f0
    have f1 := hs2.f1
    have Q := Lib.hid (two_set r0 r1 (.int .i64 X) (.int .i64 Y))
    have HL := Lib.hid (lat_two hs2.lat (show w.heap.size ≤ w.heap.size + 1 + 1 by omega) (.int .i64 X) (.int .i64 Y))
    clear p0 p1 p2 q0 q1 q2 hs2 hb2
    go_wp2
    exact bodyPost_ret (v := .tuple #[.agg #[.int .i64 X, .int .i64 Y], .nilIface]) (by simp [results, Tryd.results32, go_sem, Q.out.1, Q.out.2]) rfl ⟨rfl, HL.out⟩
  · have ex : bX wd hg zs wd2 hg2 ys = 0 := if_neg he
    have ey : bY wd hg zs wd2 hg2 ys = 0 := if_neg he
    rw [errv_pos he] at hc
    rw [ex, ey, errv_pos he]
    obtain ⟨E, hE⟩ : ∃ E, E = alkE wd hg zs wd2 hg2 ys := ⟨_, rfl⟩
    rw [← hE] at hc ⊢
    have HC := Lib.hid hc
    clear hc h h2 he hs ex ey hE
    go_enter Tryd.func32, Tryd.ntmps32
    go_upto_region 1 with fail
    rw [← hW0]
    clear hW0
    have p0 : W0.cell? ⟨w.heap.size, 0, none⟩ = _ := HS.out.p.c0
    have p1 : W0.cell? ⟨w.heap.size, 1, none⟩ = _ := HS.out.p.c1
    have p2 : W0.cell? ⟨w.heap.size, 2, none⟩ = _ := HS.out.p.c2
    have q0 : W0.cell? ⟨w.heap.size + 1, 0, none⟩ = _ := HS.out.q.c0
    have q1 : W0.cell? ⟨w.heap.size + 1, 1, none⟩ = _ := HS.out.q.c1
    have q2 : W0.cell? ⟨w.heap.size + 1, 2, none⟩ = _ := HS.out.q.c2
    go_wp2_with fail
    refine HC.out.mono ?_
    rintro e w1 ⟨rfl, hb1⟩
    clear p0 p1 p2 q0 q1 q2
    have hs2 := HS.out.keep hb1
    have r0 := hs2.r0
    have r1 := hs2.r1
    have f0 := hs2.f0
    have f1 := hs2.f1
    have Q := Lib.hid (two_set r0 r1 (.int .i64 0) (.int .i64 0))
    have HL := Lib.hid (lat_two hs2.lat (show w.heap.size ≤ w.heap.size + 1 + 1 by omega) (.int .i64 0) (.int .i64 0))
    clear hs2 hb1
    go_wp2
    exact bodyPost_ret (v := .tuple #[.agg #[.int .i64 0, .int .i64 0], eno E]) (by simp [results, Tryd.results32, go_sem, Q.out.1, Q.out.2]) rfl ⟨rfl, HL.out⟩

/-- the moved picture, as the document has it: of numbers that may be negative nothing is asked -/
def shI (wd hg : Int) (zs : List Int) (x y : Int) : List Int := shf wd.toNat hg.toNat zs x y zs.length
theorem shI_length (wd hg : Int) (zs : List Int) (x y : Int) : (shI wd hg zs x y).length = zs.length := shf_length _ _ _ _ _ _
/-- What Encode answers. -/
structure EncOk (wd hg : Int) (zs ys : List Int) (n m : Nat) (s x y : Int) (k : Nat) (L : List Int) (wd2 hg2 : Int) : Prop where
  ew : wd2 = wd
  eh : hg2 = hg
  em : m = n
  ex : x = mvX (bI wd hg zs ys)
  ey : y = mvY (bI wd hg zs ys)
  ek : k = n
  eL : L = mrs (shI wd hg zs x y) ys s n
theorem mencode_tot (wd hg : Int) (a : Option Addr) (n cap : Nat) (zs : List Int) (wd2 hg2 : Int) (b : Option Addr) (m cap2 : Nat) (ys : List Int) (s : Int) (w : World) (h : IntsAt w a n cap zs) (h2 : IntsAt w b m cap2 ys) :
    Calls Tryd.prog 31 #[picV wd hg a n cap, picV wd2 hg2 b m cap2, .int .i64 s] w fun e w' => ∃ x y c k cc L, e = .returned (.tuple #[codV false x y c k cc, errv (movE wd hg zs wd2 hg2 ys s)]) ∧ IntsAt w' c k cc L ∧
      (movE wd hg zs wd2 hg2 ys s = 0 → EncOk wd hg zs ys n m s x y k L wd2 hg2) ∧ (movE wd hg zs wd2 hg2 ys s ≠ 0 → x = 0 ∧ y = 0 ∧ k = 0 ∧ L = []) ∧ Fresh w c k ∧ Lat w w' := by
  by_cases he : movE wd hg zs wd2 hg2 ys s = 0
  · have hd := he
    obtain ⟨ha, _, _⟩ := movE_zero he
    obtain ⟨ka, kb, rfl, rfl⟩ := alkE_zero.1 ha
    have oa := chkPic_ok ka
    have ob := chkPic_ok kb
    obtain ⟨wd, rfl⟩ := Int.eq_ofNat_of_zero_le (show 0 ≤ wd by have := oa.w1; omega)
    obtain ⟨hg, rfl⟩ := Int.eq_ofNat_of_zero_le (show 0 ≤ hg by have := oa.h1; omega)
    have hmn : m = n := by have := oa.len; have := ob.len; have := h.len; have := h2.len; omega
    subst hmn
    refine (mencode_ok wd hg a m cap zs b cap2 ys s w h h2 he (bI wd hg zs ys) rfl).mono ?_
    rintro e w' ⟨c, cc, rfl, hat, hf, hb⟩
    exact ⟨_, _, c, m, cc, _, by rw [he, errv_zero rfl], hat, fun _ => ⟨rfl, rfl, rfl, rfl, rfl, rfl, by unfold shI; rw [h.len]; rfl⟩, fun h => absurd he h, hf, hb⟩
  · refine (mencode_bad wd hg a n cap zs wd2 hg2 b m cap2 ys s w h h2 he).mono ?_
    rintro e w' ⟨rfl, hb⟩
    exact ⟨0, 0, none, 0, 0, [], by rw [errv_pos he], IntsAt.nil _, fun h0 => absurd h0 he, fun _ => ⟨rfl, rfl, rfl, rfl⟩, fun _ _ _ _ _ h => absurd rfl h, hb⟩
theorem mdecode_tot (wd hg : Int) (a : Option Addr) (n cap : Nat) (zs : List Int) (al : Bool) (x y : Int) (b : Option Addr) (m cap2 : Nat) (rs : List Int) (s : Int) (w : World) (h : IntsAt w a n cap zs) (h2 : IntsAt w b m cap2 rs) :
    Calls Tryd.prog 33 #[picV wd hg a n cap, codV al x y b m cap2, .int .i64 s] w fun e w' => ∃ wd' hg' c k cc L, e = .returned (.tuple #[picV wd' hg' c k cc, errv (behE wd hg zs al x y rs s)]) ∧ IntsAt w' c k cc L ∧
      (behE wd hg zs al x y rs s = 0 → wd' = wd ∧ hg' = hg ∧ k = n ∧ L = mtl (shI wd hg zs x y) rs s n) ∧ (behE wd hg zs al x y rs s ≠ 0 → wd' = 0 ∧ hg' = 0 ∧ k = 0 ∧ L = []) ∧ Fresh w c k ∧ Lat w w' := by
  by_cases he : behE wd hg zs al x y rs s = 0
  · obtain ⟨hk, _, _, rfl, _, _⟩ := behE_zero he
    have oa := chkPic_ok hk
    obtain ⟨wd, rfl⟩ := Int.eq_ofNat_of_zero_le (show 0 ≤ wd by have := oa.w1; omega)
    obtain ⟨hg, rfl⟩ := Int.eq_ofNat_of_zero_le (show 0 ≤ hg by have := oa.h1; omega)
    refine (mdecode_ok wd hg a n cap zs x y b m cap2 rs s w h h2 he).mono ?_
    rintro e w' ⟨c, cc, rfl, hat, hf, hb⟩
    exact ⟨_, _, c, n, cc, _, by rw [he, errv_zero rfl], hat, fun _ => ⟨rfl, rfl, rfl, by unfold shI; rw [h.len]; rfl⟩, fun h => absurd he h, hf, hb⟩
  · refine (mdecode_bad wd hg a n cap zs al x y b m cap2 rs s w h h2 he).mono ?_
    rintro e w' ⟨rfl, hb⟩
    exact ⟨0, 0, none, 0, 0, [], by rw [errv_pos he], IntsAt.nil _, fun h0 => absurd h0 he, fun _ => ⟨rfl, rfl, rfl, rfl⟩, fun _ _ _ _ _ h => absurd rfl h, hb⟩
/-- What is told of what was coded behind another. -/
theorem told_ok {wd hg : Int} {zs ys : List Int} {n m k : Nat} {s x y : Int} {L : List Int} {wd2 hg2 : Int} (he : movE wd hg zs wd2 hg2 ys s = 0) (h : EncOk wd hg zs ys n m s x y k L wd2 hg2) (hl : zs.length = n) :
    behE wd hg zs false x y L s = 0 ∧ alkE wd hg ys wd hg (mtl (shI wd hg zs x y) L s n) = 0 ∧ unl ys (mtl (shI wd hg zs x y) L s n) n ≤ s / 2 := by
  obtain ⟨ha, s1, s64⟩ := movE_zero he
  obtain ⟨ka, kb, e1, e2⟩ := alkE_zero.1 ha
  have oa := chkPic_ok ka
  have ob := chkPic_ok kb
  obtain ⟨ew, eh, em, ex, ey, ek, eL⟩ := h
  subst ew eh
  have hmv := mv_bd _ (bI_lt wd2 hg2 zs ys)
  rw [← ex, ← ey] at hmv
  have pS : ∀ z ∈ shI wd2 hg2 zs x y, 0 ≤ z ∧ z ≤ 255 := shf_mem oa.pix
  have lS : (shI wd2 hg2 zs x y).length = n := by rw [shI_length, hl]
  have hb := mrs_bd s1 pS ob.pix n
  have hll : L.length = n := by rw [eL, mrs_length]
  refine ⟨behE_of ka s1 s64 hmv (rstE_of (by rw [hll, hl]) (by rw [eL]; exact hb)), alkE_zero.2 ⟨kb, chkPic_of ⟨oa.w1, oa.w6, oa.h1, oa.h6, by rw [mtl_length, lS, ← hl]; exact oa.len, mtl_pix pS⟩, rfl, rfl⟩, ?_⟩
  rw [eL]
  exact mtl_near _ ys s s1 ob.pix n lS.symm
end Go.Proofs.YtnnjijdpenifjaaDoor
