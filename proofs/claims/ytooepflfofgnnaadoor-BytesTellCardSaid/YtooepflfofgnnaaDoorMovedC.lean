/- The contracts of moved.Best, Encode, Decode: one answer for every input. -/
import Derived.Test.YtooepflfofgnnaaDoorMovedDec
namespace Go.Proofs.YtooepflfofgnnaaDoor
open Go.ChangeShapes Go.WideShapes Go.ChangeAt Go.RowKit

/-- What Best lays first. -/
structure BB (w W : World) (wd hg : Int) (a : Option Addr) (n cap : Nat) (wd2 hg2 : Int) (b : Option Addr) (m cap2 : Nat) : Prop where
  lat : Lat w W
  p : Cells3 W w.heap.size 0 (.int .i64 wd) (.int .i64 hg) (.slice a n cap)
  q : Cells3 W (w.heap.size + 1) 0 (.int .i64 wd2) (.int .i64 hg2) (.slice b m cap2)
  r0 : W.cell? ⟨w.heap.size + 1 + 1, 0, none⟩ = some (.int .i64 0)
  r1 : W.cell? ⟨w.heap.size + 1 + 1, 1, none⟩ = some (.int .i64 0)
  f0 : W.frozen? ⟨w.heap.size + 1 + 1, 0, none⟩ = false
  f1 : W.frozen? ⟨w.heap.size + 1 + 1, 1, none⟩ = false
  sz : w.heap.size + 1 + 1 < W.heap.size
theorem BB.keep {w W W' : World} {wd hg : Int} {a : Option Addr} {n cap : Nat} {wd2 hg2 : Int} {b : Option Addr} {m cap2 : Nat} (h : BB w W wd hg a n cap wd2 hg2 b m cap2) (hb : Lat W W') : BB w W' wd hg a n cap wd2 hg2 b m cap2 :=
  ⟨Lat.trans h.lat hb, h.p.keep hb, h.q.keep hb, hb.cell_at h.r0, hb.cell_at h.r1, hb.free_at h.sz h.f0, hb.free_at h.sz h.f1, Nat.lt_of_lt_of_le h.sz hb.size⟩
theorem bb_open (w : World) (wd hg : Int) (a : Option Addr) (n cap : Nat) (wd2 hg2 : Int) (b : Option Addr) (m cap2 : Nat) :
    BB w (((w.alloc (.cells #[.int .i64 wd, .int .i64 hg, .slice a n cap] 132)).alloc (.cells #[.int .i64 wd2, .int .i64 hg2, .slice b m cap2] 132)).alloc (.cells #[.int .i64 0, .int .i64 0] 108)) wd hg a n cap wd2 hg2 b m cap2 := by
  have l3 := Lat.alloc ((w.alloc (.cells #[.int .i64 wd, .int .i64 hg, .slice a n cap] 132)).alloc (.cells #[.int .i64 wd2, .int .i64 hg2, .slice b m cap2] 132)) (.cells #[.int .i64 0, .int .i64 0] 108)
  have l2 := Lat.alloc (w.alloc (.cells #[.int .i64 wd, .int .i64 hg, .slice a n cap] 132)) (.cells #[.int .i64 wd2, .int .i64 hg2, .slice b m cap2] 132)
  have l1 := Lat.alloc w (.cells #[.int .i64 wd, .int .i64 hg, .slice a n cap] 132)
  exact ⟨Lat.trans l1 (Lat.trans l2 l3), (cells3_new rfl rfl rfl rfl).keep (Lat.trans l2 l3), (cells3_new (by simp) rfl rfl rfl).keep l3, cell_new (by simp) rfl, cell_new (by simp) rfl, free_new (by simp), free_new (by simp), by simp⟩
def bI (wd hg : Int) (zs ys : List Int) : Nat := bst wd.toNat hg.toNat zs ys 9
theorem bI_lt (wd hg : Int) (zs ys : List Int) : bI wd hg zs ys < 9 := by have := bst_lt wd.toNat hg.toNat zs ys 9; unfold bI; omega
def bX (wd hg : Int) (zs : List Int) (wd2 hg2 : Int) (ys : List Int) : Int := if alkE wd hg zs wd2 hg2 ys = 0 then mvX (bI wd hg zs ys) else 0
def bY (wd hg : Int) (zs : List Int) (wd2 hg2 : Int) (ys : List Int) : Int := if alkE wd hg zs wd2 hg2 ys = 0 then mvY (bI wd hg zs ys) else 0
/-- the moved picture, as the document has it: of numbers that may be negative nothing is asked -/
def shI (wd hg : Int) (zs : List Int) (x y : Int) : List Int := shf wd.toNat hg.toNat zs x y zs.length
theorem shI_length (wd hg : Int) (zs : List Int) (x y : Int) : (shI wd hg zs x y).length = zs.length := shf_length _ _ _ _ _ _
/-- What Encode answers. -/
structure EncOk (wd hg : Int) (zs ys : List Int) (n m : Nat) (s x y : Int) (k : Nat) (L : List Int) (wd2 hg2 : Int) : Prop where
  ew : wd2 = wd
  eh : hg2 = hg
  em : m = n
  ex : x = mvX (bI wd hg zs ys)
  ey : y = mvY (bI wd hg zs ys)
  ek : k = n
  eL : L = mrs (shI wd hg zs x y) ys s n
theorem mdecode_tot (wd hg : Int) (a : Option Addr) (n cap : Nat) (zs : List Int) (al : Bool) (x y : Int) (b : Option Addr) (m cap2 : Nat) (rs : List Int) (s : Int) (w : World) (h : IntsAt w a n cap zs) (h2 : IntsAt w b m cap2 rs) :
    Calls Tryd.prog 111 #[picV wd hg a n cap, codV al x y b m cap2, .int .i64 s] w fun e w' => ∃ wd' hg' c k cc L, e = .returned (.tuple #[picV wd' hg' c k cc, errv (behE wd hg zs al x y rs s)]) ∧ IntsAt w' c k cc L ∧
      (behE wd hg zs al x y rs s = 0 → wd' = wd ∧ hg' = hg ∧ k = n ∧ L = mtl (shI wd hg zs x y) rs s n) ∧ (behE wd hg zs al x y rs s ≠ 0 → wd' = 0 ∧ hg' = 0 ∧ k = 0 ∧ L = []) ∧ Fresh w c k ∧ Lat w w' := by
  by_cases he : behE wd hg zs al x y rs s = 0
  · obtain ⟨hk, _, _, rfl, _, _⟩ := behE_zero he
    have oa := chkPic_ok hk
    obtain ⟨wd, rfl⟩ := Int.eq_ofNat_of_zero_le (show 0 ≤ wd by have := oa.w1; omega)
    obtain ⟨hg, rfl⟩ := Int.eq_ofNat_of_zero_le (show 0 ≤ hg by have := oa.h1; omega)
    refine (mdecode_ok wd hg a n cap zs x y b m cap2 rs s w h h2 he).mono ?_
    rintro e w' ⟨c, cc, rfl, hat, hf, hb⟩
    exact ⟨_, _, c, n, cc, _, by rw [he, errv_zero rfl], hat, fun _ => ⟨rfl, rfl, rfl, by unfold shI; rw [h.len]; rfl⟩, fun h => absurd he h, hf, hb⟩
  · refine (mdecode_bad wd hg a n cap zs al x y b m cap2 rs s w h h2 he).mono ?_
    rintro e w' ⟨rfl, hb⟩
    exact ⟨0, 0, none, 0, 0, [], by rw [errv_pos he], IntsAt.nil _, fun h0 => absurd h0 he, fun _ => ⟨rfl, rfl, rfl, rfl⟩, fun _ _ _ _ _ h => absurd rfl h, hb⟩
/-- What is told of what was coded behind another. -/
theorem told_ok {wd hg : Int} {zs ys : List Int} {n m k : Nat} {s x y : Int} {L : List Int} {wd2 hg2 : Int} (he : movE wd hg zs wd2 hg2 ys s = 0) (h : EncOk wd hg zs ys n m s x y k L wd2 hg2) (hl : zs.length = n) :
    behE wd hg zs false x y L s = 0 ∧ alkE wd hg ys wd hg (mtl (shI wd hg zs x y) L s n) = 0 ∧ unl ys (mtl (shI wd hg zs x y) L s n) n ≤ s / 2 := by
  obtain ⟨ha, s1, s64⟩ := movE_zero he
  obtain ⟨ka, kb, e1, e2⟩ := alkE_zero.1 ha
  have oa := chkPic_ok ka
  have ob := chkPic_ok kb
  obtain ⟨ew, eh, em, ex, ey, ek, eL⟩ := h
  subst ew eh
  have hmv := mv_bd _ (bI_lt wd2 hg2 zs ys)
  rw [← ex, ← ey] at hmv
  have pS : ∀ z ∈ shI wd2 hg2 zs x y, 0 ≤ z ∧ z ≤ 255 := shf_mem oa.pix
  have lS : (shI wd2 hg2 zs x y).length = n := by rw [shI_length, hl]
  have hb := mrs_bd s1 pS ob.pix n
  have hll : L.length = n := by rw [eL, mrs_length]
  refine ⟨behE_of ka s1 s64 hmv (rstE_of (by rw [hll, hl]) (by rw [eL]; exact hb)), alkE_zero.2 ⟨kb, chkPic_of ⟨oa.w1, oa.w6, oa.h1, oa.h6, by rw [mtl_length, lS, ← hl]; exact oa.len, mtl_pix pS⟩, rfl, rfl⟩, ?_⟩
  rw [eL]
  exact mtl_near _ ys s s1 ob.pix n lS.symm
end Go.Proofs.YtooepflfofgnnaaDoor
