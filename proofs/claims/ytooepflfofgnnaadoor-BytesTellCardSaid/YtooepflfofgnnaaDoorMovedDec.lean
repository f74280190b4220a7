/- The contract of moved.Decode. -/
import Derived.Test.YtooepflfofgnnaaDoorMovedEnc
namespace Go.Proofs.YtooepflfofgnnaaDoor
open Go.ChangeShapes Go.WideShapes Go.ChangeAt Go.RowKit

def oneB (x y : Int) : Bool := decide (-1 ≤ x ∧ x ≤ 1 ∧ -1 ≤ y ∧ y ≤ 1)
/-- what is wrong with one that is told behind another -/
def behE (wd hg : Int) (zs : List Int) (al : Bool) (x y : Int) (rs : List Int) (s : Int) : Nat :=
  if chkPic wd hg zs ≠ 0 then chkPic wd hg zs else if stepB s = false then 1 else if al = true then 3 else if oneB x y = false then 1 else rstE rs zs.length
theorem behE_zero {wd hg : Int} {zs : List Int} {al : Bool} {x y : Int} {rs : List Int} {s : Int} (h : behE wd hg zs al x y rs s = 0) :
    chkPic wd hg zs = 0 ∧ 1 ≤ s ∧ s ≤ 64 ∧ al = false ∧ (-1 ≤ x ∧ x ≤ 1 ∧ -1 ≤ y ∧ y ≤ 1) ∧ rstE rs zs.length = 0 := by
  unfold behE at h
  split at h
  · omega
  · rename_i h1
    split at h
    · omega
    · rename_i h2
      split at h
      · omega
      · rename_i h3
        split at h
        · omega
        · rename_i h4
          have a2 : stepB s = true := by cases hq : stepB s <;> simp_all
          have a3 : al = false := by cases hq : al <;> simp_all
          have a4 : oneB x y = true := by cases hq : oneB x y <;> simp_all
          simp only [stepB, oneB, decide_eq_true_eq] at a2 a4
          exact ⟨by omega, a2.1, a2.2, a3, a4, h⟩
theorem behE_of {wd hg : Int} {zs : List Int} {x y : Int} {rs : List Int} {s : Int} (h : chkPic wd hg zs = 0) (h1 : 1 ≤ s) (h2 : s ≤ 64) (h3 : -1 ≤ x ∧ x ≤ 1 ∧ -1 ≤ y ∧ y ≤ 1) (h4 : rstE rs zs.length = 0) : behE wd hg zs false x y rs s = 0 := by
  unfold behE
  rw [if_neg (by omega), if_neg (by simp [stepB, h1, h2]), if_neg (by simp), if_neg (by simp [oneB, h3]), h4]
/-- What the call lays first: the picture, the coded one, and the result's cells. -/
structure DW (w W : World) (wd hg : Int) (a : Option Addr) (n cap : Nat) (al : Bool) (x y : Int) (b : Option Addr) (m cap2 : Nat) : Prop where
  lat : Lat w W
  p : Cells3 W w.heap.size 0 (.int .i64 wd) (.int .i64 hg) (.slice a n cap)
  q : Cells4 W (w.heap.size + 1) (.bool al) (.int .i64 x) (.int .i64 y) (.slice b m cap2)
  r : Cells3 W (w.heap.size + 1 + 1) 0 (.int .i64 0) (.int .i64 0) (.slice none 0 0)
  f : ∀ k, k < 3 → W.frozen? ⟨w.heap.size + 1 + 1, k, none⟩ = false
  sz : w.heap.size + 1 + 1 < W.heap.size
theorem DW.keep {w W W' : World} {wd hg : Int} {a : Option Addr} {n cap : Nat} {al : Bool} {x y : Int} {b : Option Addr} {m cap2 : Nat} (h : DW w W wd hg a n cap al x y b m cap2) (hb : Lat W W') : DW w W' wd hg a n cap al x y b m cap2 :=
  ⟨Lat.trans h.lat hb, h.p.keep hb, h.q.keep hb, h.r.keep hb, fun k hk => hb.free_at h.sz (h.f k hk), Nat.lt_of_lt_of_le h.sz hb.size⟩
theorem dw_open (w : World) (wd hg : Int) (a : Option Addr) (n cap : Nat) (al : Bool) (x y : Int) (b : Option Addr) (m cap2 : Nat) :
    DW w (((w.alloc (.cells #[.int .i64 wd, .int .i64 hg, .slice a n cap] 132)).alloc (.cells #[.bool al, .int .i64 x, .int .i64 y, .slice b m cap2] 110)).alloc (.cells #[.int .i64 0, .int .i64 0, .slice none 0 0] 132)) wd hg a n cap al x y b m cap2 := by
  have l3 := Lat.alloc ((w.alloc (.cells #[.int .i64 wd, .int .i64 hg, .slice a n cap] 132)).alloc (.cells #[.bool al, .int .i64 x, .int .i64 y, .slice b m cap2] 110)) (.cells #[.int .i64 0, .int .i64 0, .slice none 0 0] 132)
  have l2 := Lat.alloc (w.alloc (.cells #[.int .i64 wd, .int .i64 hg, .slice a n cap] 132)) (.cells #[.bool al, .int .i64 x, .int .i64 y, .slice b m cap2] 110)
  have l1 := Lat.alloc w (.cells #[.int .i64 wd, .int .i64 hg, .slice a n cap] 132)
  exact ⟨Lat.trans l1 (Lat.trans l2 l3), (cells3_new rfl rfl rfl rfl).keep (Lat.trans l2 l3), (cells4_new (by simp) rfl rfl rfl rfl).keep l3, cells3_new (by simp) rfl rfl rfl, fun k _ => free_new (by simp), by simp⟩

set_option maxHeartbeats 4000000 in
set_option maxRecDepth 100000 in
theorem mdecode_bad (wd hg : Int) (a : Option Addr) (n cap : Nat) (zs : List Int) (al : Bool) (x y : Int) (b : Option Addr) (m cap2 : Nat) (rs : List Int) (s : Int) (w : World) (h : IntsAt w a n cap zs) (h2 : IntsAt w b m cap2 rs) (he : behE wd hg zs al x y rs s ≠ 0) :
    Calls Tryd.prog 111 #[picV wd hg a n cap, codV al x y b m cap2, .int .i64 s] w fun e w' => e = .returned (.tuple #[picV 0 0 none 0 0, eno (behE wd hg zs al x y rs s)]) ∧ Lat w w' := by
  obtain ⟨W0, hW0⟩ : ∃ W, W = ((w.alloc (.cells #[.int .i64 wd, .int .i64 hg, .slice a n cap] 132)).alloc (.cells #[.bool al, .int .i64 x, .int .i64 y, .slice b m cap2] 110)).alloc (.cells #[.int .i64 0, .int .i64 0, .slice none 0 0] 132) := ⟨_, rfl⟩
  have hs := dw_open w wd hg a n cap al x y b m cap2
  rw [← hW0] at hs
  have hc := pchk_any wd hg a n cap zs W0 (h.keep hs.lat)
  obtain ⟨E, hE⟩ : ∃ E, E = behE wd hg zs al x y rs s := ⟨_, rfl⟩
  rw [← hE] at he ⊢
  have HS := Lib.hid hs
  have hlz := h.len
  have H2 := Lib.hid h2
  by_cases h1 : chkPic wd hg zs = 0
  case neg =>
    have e1 : E = chkPic wd hg zs := by rw [hE]; unfold behE; rw [if_pos h1]
    rw [← e1, errv_pos he] at hc
    have HC := Lib.hid hc
    clear hc h h2 he h1 e1 hE hs hlz
    go_enter Tryd.func111, Tryd.ntmps111
    go_upto_region 1 with fail
    rw [← hW0]
    clear hW0
    have p0 : W0.cell? ⟨w.heap.size, 0, none⟩ = _ := HS.out.p.c0
    have p1 : W0.cell? ⟨w.heap.size, 1, none⟩ = _ := HS.out.p.c1
    have p2 : W0.cell? ⟨w.heap.size, 2, none⟩ = _ := HS.out.p.c2
    go_wp2_with fail
    refine HC.out.mono ?_
    rintro e w1 ⟨rfl, hb1⟩
    have hs1 := HS.out.keep hb1
    clear p0 p1 p2 hb1
    have r0 := hs1.r.c0
    have r1 := hs1.r.c1
    have r2 := hs1.r.c2
    have f0 := hs1.f 0 (by omega)
    have f1 := hs1.f 1 (by omega)
    have f2 := hs1.f 2 (by omega)
    have Q := Lib.hid (three_set r0 r1 r2 (.int .i64 0) (.int .i64 0) (.slice none 0 0))
    have HL := Lib.hid (lat_three hs1.lat (show w.heap.size ≤ w.heap.size + 1 + 1 by omega) (.int .i64 0) (.int .i64 0) (.slice none 0 0))
    clear hs1
    go_wp2
    exact bodyPost_ret (v := .tuple #[picV 0 0 none 0 0, eno E]) (by simp [results, Tryd.results111, go_sem, Q.out.1, Q.out.2.1, Q.out.2.2]) rfl ⟨rfl, HL.out⟩
  rw [h1, errv_zero rfl] at hc
  have HC := Lib.hid hc
  cases h3 : stepB s with
  | false =>
    have e1 : E = 1 := by rw [hE]; unfold behE; rw [if_neg (by omega), if_pos h3]
    rw [e1]
    clear hc h h2 he h1 e1 hE hs hlz
    go_enter Tryd.func111, Tryd.ntmps111
    go_upto_region 1 with fail
    rw [← hW0]
    clear hW0
    have p0 : W0.cell? ⟨w.heap.size, 0, none⟩ = _ := HS.out.p.c0
    have p1 : W0.cell? ⟨w.heap.size, 1, none⟩ = _ := HS.out.p.c1
    have p2 : W0.cell? ⟨w.heap.size, 2, none⟩ = _ := HS.out.p.c2
    go_wp2_with fail
    refine HC.out.mono ?_
    rintro e w1 ⟨rfl, hb1⟩
    have hs1 := HS.out.keep hb1
    clear p0 p1 p2 hb1
    go_wp2_with fail
    refine (step_any s _).mono ?_
    rw [h3]
    clear h3
    rintro e w' ⟨rfl, rfl⟩
    have r0 := hs1.r.c0
    have r1 := hs1.r.c1
    have r2 := hs1.r.c2
    have f0 := hs1.f 0 (by omega)
    have f1 := hs1.f 1 (by omega)
    have f2 := hs1.f 2 (by omega)
    have Q := Lib.hid (three_set r0 r1 r2 (.int .i64 0) (.int .i64 0) (.slice none 0 0))
    have HL := Lib.hid (lat_three hs1.lat (show w.heap.size ≤ w.heap.size + 1 + 1 by omega) (.int .i64 0) (.int .i64 0) (.slice none 0 0))
    clear hs1
    go_wp2
    exact bodyPost_ret (v := .tuple #[picV 0 0 none 0 0, eno 1]) (by simp [results, Tryd.results111, go_sem, Q.out.1, Q.out.2.1, Q.out.2.2]) rfl ⟨rfl, HL.out⟩
  | true =>
  cases h4 : al with
  | true =>
    have e1 : E = 3 := by rw [hE]; unfold behE; rw [if_neg (by omega), if_neg (by simp [h3]), if_pos h4]
    rw [e1]
    subst h4
    clear hc h h2 he h1 e1 hE hs hlz
    go_enter Tryd.func111, Tryd.ntmps111
    go_upto_region 1 with fail
    rw [← hW0]
    clear hW0
    have p0 : W0.cell? ⟨w.heap.size, 0, none⟩ = _ := HS.out.p.c0
    have p1 : W0.cell? ⟨w.heap.size, 1, none⟩ = _ := HS.out.p.c1
    have p2 : W0.cell? ⟨w.heap.size, 2, none⟩ = _ := HS.out.p.c2
    go_wp2_with fail
    refine HC.out.mono ?_
    rintro e w1 ⟨rfl, hb1⟩
    have hs1 := HS.out.keep hb1
    clear p0 p1 p2 hb1
    go_wp2_with fail
    refine (step_any s _).mono ?_
    rw [h3]
    clear h3
    rintro e w' ⟨rfl, rfl⟩
    have q0 := hs1.q.c0
    have r0 := hs1.r.c0
    have r1 := hs1.r.c1
    have r2 := hs1.r.c2
    have f0 := hs1.f 0 (by omega)
    have f1 := hs1.f 1 (by omega)
    have f2 := hs1.f 2 (by omega)
    have Q := Lib.hid (three_set r0 r1 r2 (.int .i64 0) (.int .i64 0) (.slice none 0 0))
    have HL := Lib.hid (lat_three hs1.lat (show w.heap.size ≤ w.heap.size + 1 + 1 by omega) (.int .i64 0) (.int .i64 0) (.slice none 0 0))
    clear hs1
    go_wp2
    exact bodyPost_ret (v := .tuple #[picV 0 0 none 0 0, eno 3]) (by simp [results, Tryd.results111, go_sem, Q.out.1, Q.out.2.1, Q.out.2.2]) rfl ⟨rfl, HL.out⟩
  | false =>
  subst h4
  cases h5 : oneB x y with
  | false =>
    have e1 : E = 1 := by rw [hE]; unfold behE; rw [if_neg (by omega), if_neg (by simp [h3]), if_neg (by simp), if_pos h5]
    rw [e1]
    have hd : (decide (x < -1) = true) ∨ (decide (x < -1) = false ∧ decide (1 < x) = true) ∨ (decide (x < -1) = false ∧ decide (1 < x) = false ∧ decide (y < -1) = true) ∨ (decide (x < -1) = false ∧ decide (1 < x) = false ∧ decide (y < -1) = false ∧ decide (1 < y) = true) := by
      simp only [oneB, decide_eq_false_iff_not] at h5
      simp only [decide_eq_true_eq, decide_eq_false_iff_not]
      omega
    clear hc h h2 he h1 e1 hE hs hlz h5
    rcases hd with d1 | ⟨d1, d2⟩ | ⟨d1, d2, d3⟩ | ⟨d1, d2, d3, d4⟩
    all_goals
      go_enter Tryd.func111, Tryd.ntmps111
      go_upto_region 1 with fail
      rw [← hW0]
      clear hW0
      have p0 : W0.cell? ⟨w.heap.size, 0, none⟩ = _ := HS.out.p.c0
      have p1 : W0.cell? ⟨w.heap.size, 1, none⟩ = _ := HS.out.p.c1
      have p2 : W0.cell? ⟨w.heap.size, 2, none⟩ = _ := HS.out.p.c2
      go_wp2_with fail
      refine HC.out.mono ?_
      rintro e w1 ⟨rfl, hb1⟩
      have hs1 := HS.out.keep hb1
      clear p0 p1 p2 hb1
      go_wp2_with fail
      refine (step_any s _).mono ?_
      rw [h3]
      clear h3
      rintro e w' ⟨rfl, rfl⟩
      have q0 := hs1.q.c0
      have q1 := hs1.q.c1
      have q2 := hs1.q.c2
      have r0 := hs1.r.c0
      have r1 := hs1.r.c1
      have r2 := hs1.r.c2
      have f0 := hs1.f 0 (by omega)
      have f1 := hs1.f 1 (by omega)
      have f2 := hs1.f 2 (by omega)
      have Q := Lib.hid (three_set r0 r1 r2 (.int .i64 0) (.int .i64 0) (.slice none 0 0))
      have HL := Lib.hid (lat_three hs1.lat (show w.heap.size ≤ w.heap.size + 1 + 1 by omega) (.int .i64 0) (.int .i64 0) (.slice none 0 0))
      clear hs1
      go_wp2
      exact bodyPost_ret (v := .tuple #[picV 0 0 none 0 0, eno 1]) (by simp [results, Tryd.results111, go_sem, Q.out.1, Q.out.2.1, Q.out.2.2]) rfl ⟨rfl, HL.out⟩
  | true =>
  have e1 : E = rstE rs n := by rw [hE]; unfold behE; rw [if_neg (by omega), if_neg (by simp [h3]), if_neg (by simp), if_neg (by simp [h5]), hlz]
  have hrc := fun W hW => rests_any b m cap2 rs (n : Int) W (H2.out.keep hW)
  rw [← e1, errv_pos he] at hrc
  have HRC := Lib.hid hrc
  simp only [oneB, decide_eq_true_eq] at h5
  obtain ⟨x1, x2, y1, y2⟩ := h5
  clear hc h h2 he h1 e1 hE hs hlz hrc
  go_enter Tryd.func111, Tryd.ntmps111
  go_upto_region 1 with fail
  rw [← hW0]
  clear hW0
  have p0 : W0.cell? ⟨w.heap.size, 0, none⟩ = _ := HS.out.p.c0
  have p1 : W0.cell? ⟨w.heap.size, 1, none⟩ = _ := HS.out.p.c1
  have p2 : W0.cell? ⟨w.heap.size, 2, none⟩ = _ := HS.out.p.c2
  go_wp2_with fail
  refine HC.out.mono ?_
  rintro e w1 ⟨rfl, hb1⟩
  have hs1 := HS.out.keep hb1
  clear p0 p1 p2 hb1
  go_wp2_with fail
  refine (step_any s _).mono ?_
  rw [h3]
  clear h3
  rintro e w' ⟨rfl, rfl⟩
  have q0 := hs1.q.c0
  have q1 := hs1.q.c1
  have q2 := hs1.q.c2
  have q3 := hs1.q.c3
  have p2 := hs1.p.c2
  go_wp2_with fail
  refine (HRC.out _ hs1.lat).mono ?_
  rintro e w' ⟨rfl, rfl⟩
  have r0 := hs1.r.c0
  have r1 := hs1.r.c1
  have r2 := hs1.r.c2
  have f0 := hs1.f 0 (by omega)
  have f1 := hs1.f 1 (by omega)
  have f2 := hs1.f 2 (by omega)
  have Q := Lib.hid (three_set r0 r1 r2 (.int .i64 0) (.int .i64 0) (.slice none 0 0))
  have HL := Lib.hid (lat_three hs1.lat (show w.heap.size ≤ w.heap.size + 1 + 1 by omega) (.int .i64 0) (.int .i64 0) (.slice none 0 0))
  clear hs1
  go_wp2
  exact bodyPost_ret (v := .tuple #[picV 0 0 none 0 0, eno E]) (by simp [results, Tryd.results111, go_sem, Q.out.1, Q.out.2.1, Q.out.2.2]) rfl ⟨rfl, HL.out⟩

/-- A slice of the call's own with at least one element is a block that can be written. -/
theorem blk_of_own {w : World} {B n : Nat} {v : Value} {L : List Int} (h : OwnInts w B v L) (hl : L.length = n) (hn : 0 < n) : ∃ g c, v = .slice (some ⟨g, 0, none⟩) n c ∧ n ≤ c ∧ c ≤ maxLen ∧ B ≤ g ∧ Blk w g n (fun j => .int .i64 (L.getD j 0)) := by
  have h0 := h
  obtain ⟨_, h2⟩ := h
  rw [List.length_map, hl] at h2
  rcases h2 with ⟨rfl, hz⟩ | ⟨g, cap, cur, rfl, hg, hh, hc1, hc2, hs, ht⟩
  · omega
  · refine ⟨g, cap, rfl, hc1, hc2, hg, (Array.getElem?_eq_some_iff.1 hh).1, fun j hj => ?_, fun j hj => ?_⟩
    · have := World.ownsRow.cells h0 (g := g) rfl j (.int .i64 (L.getD j 0)) (by
        rw [List.getElem?_map, List.getD_eq_getElem?_getD, List.getElem?_eq_getElem (by omega)]; rfl)
      rw [Addr.add_lit, Nat.zero_add] at this
      exact this
    · simp [World.frozen?, hh]
/-- Between two pixels: the block of the moved picture is written, no other. -/
structure DInv (w W4 wr : World) (g n : Nat) (L : List Int) : Prop where
  lat : Lat w wr
  same : ∀ p x, p.block ≠ g → W4.cell? p = some x → wr.cell? p = some x
  free : ∀ p, W4.frozen? p = false → wr.frozen? p = false
  blk : Blk wr g n (fun j => .int .i64 (L.getD j 0))
  lo : w.heap.size ≤ g
theorem DInv.set {w W4 wr : World} {g n : Nat} {L : List Int} {k : Nat} {x : Int} {M : List Int} (h : DInv w W4 wr g n L) (hk : k < n) (hM : ∀ j, j < n → M.getD j 0 = if j = k then x else L.getD j 0) : DInv w W4 (wr.setCell ⟨g, k, none⟩ (.int .i64 x)) g n M :=
  ⟨Below.setCell h.lat h.lo _, fun p y hp hy => by
    rw [World.cell?_setCell_other _ _ _ _ (fun e => hp (by rw [← e]))]; exact h.same p y hp hy, fun p hp => by rw [World.frozen?_setCell]; exact h.free p hp,
    (h.blk.set hk (.int .i64 x)).congr fun j hj => by rw [hM j hj]; split <;> rfl, h.lo⟩
theorem DInv.drew {w W4 wr : World} {g n : Nat} {L : List Int} (h : DInv w W4 wr g n L) : DInv w W4 wr.drew g n L :=
  ⟨Lat.trans h.lat (Lat.drew _), h.same, h.free, ⟨h.blk.lt, h.blk.cell, h.blk.free⟩, h.lo⟩
theorem mtl_step (ss rs : List Int) (s : Int) (k : Nat) (hk : k < ss.length) : ∀ j, j < ss.length → (mtl ss rs s (k + 1)).getD j 0 = if j = k then clamp (ss.getD k 0 + rs.getD k 0 * s) else (mtl ss rs s k).getD j 0 := by
  intro j hj
  rw [mtl_getD _ _ _ _ _ hj, mtl_getD _ _ _ _ _ hj]
  by_cases e : j = k
  · subst e; rw [if_pos (by omega), if_pos rfl]
  · by_cases e2 : j < k
    · rw [if_pos (by omega), if_neg e, if_pos e2]
    · rw [if_neg (by omega), if_neg e, if_neg e2]

set_option maxHeartbeats 8000000 in
set_option maxRecDepth 100000 in
theorem mdecode_ok (wd hg : Nat) (a : Option Addr) (n cap : Nat) (zs : List Int) (x y : Int) (b : Option Addr) (m cap2 : Nat) (rs : List Int) (s : Int) (w : World) (h : IntsAt w a n cap zs) (h2 : IntsAt w b m cap2 rs) (he : behE wd hg zs false x y rs s = 0) :
    Calls Tryd.prog 111 #[picV wd hg a n cap, codV false x y b m cap2, .int .i64 s] w fun e w' => ∃ c cc, e = .returned (.tuple #[picV wd hg c n cc, .nilIface]) ∧ IntsAt w' c n cc (mtl (shf wd hg zs x y n) rs s n) ∧ Fresh w c n ∧ Lat w w' := by
  obtain ⟨hk, s1, s64, _, ⟨x1, x2, y1, y2⟩, hre⟩ := behE_zero he
  have oa := chkPic_ok hk
  have hlz := h.len
  rw [hlz] at hre
  have hn : wd * hg = n := by
    have := oa.len
    rw [h.len, ← Int.natCast_mul] at this
    omega
  have w1 : 1 ≤ wd := by have := oa.w1; omega
  have w6 : wd ≤ 6 := by have := oa.w6; omega
  have g1 : 1 ≤ hg := by have := oa.h1; omega
  have g6 : hg ≤ 6 := by have := oa.h6; omega
  have hn36 : n ≤ 36 := by rw [← hn]; exact Nat.mul_le_mul w6 g6
  have hn1 : 0 < n := by rw [← hn]; exact Nat.mul_pos w1 g1
  obtain ⟨hml, hrs⟩ := rstE_zero hre
  have hmn : m = n := by have := h2.len; omega
  subst hmn
  have h3 : stepB s = true := by simp [stepB, s1, s64]
  obtain ⟨W0, hW0⟩ : ∃ W, W = ((w.alloc (.cells #[.int .i64 wd, .int .i64 hg, .slice a m cap] 132)).alloc (.cells #[.bool false, .int .i64 x, .int .i64 y, .slice b m cap2] 110)).alloc (.cells #[.int .i64 0, .int .i64 0, .slice none 0 0] 132) := ⟨_, rfl⟩
  have hs := dw_open w wd hg a m cap false x y b m cap2
  rw [← hW0] at hs
  have hc := pchk_any wd hg a m cap zs W0 (h.keep hs.lat)
  rw [hk, errv_zero rfl] at hc
  have hrc : ∀ W, Lat w W → Calls Tryd.prog 131 #[.slice b m cap2, .int .i64 m] W fun e w' => e = .returned .nilIface ∧ W = w' := fun W hW => by
    have := rests_any b m cap2 rs (m : Int) W (h2.keep hW)
    rw [hre, errv_zero rfl] at this
    exact this
  have hshf : ∀ W, Lat w W → Calls Tryd.prog 132 #[picV wd hg a m cap, .agg #[.int .i64 x, .int .i64 y]] W fun e w' => ∃ gv vc, e = .returned (.agg #[.int .i64 wd, .int .i64 hg, .slice (some ⟨gv, 0, none⟩) m vc]) ∧ m ≤ vc ∧ vc ≤ maxLen ∧ W.heap.size ≤ gv ∧
      Blk w' gv m (fun j => .int .i64 ((shf wd hg zs x y m).getD j 0)) ∧ Lat W w' := fun W hW => by
    refine (shifted_any wd hg a m cap zs x y W (h.keep hW) hn w1 w6 g1 g6 (by omega) (by omega) (by omega) (by omega)).mono ?_
    rintro e w1 ⟨v, rfl, hown, hb1⟩
    obtain ⟨gv, vc, rfl, hv1, hv2, hgv, hblk⟩ := blk_of_own hown (shf_length _ _ _ _ _ _) hn1
    exact ⟨gv, vc, rfl, hv1, hv2, hgv, hblk, hb1⟩
  obtain ⟨SS, hSS⟩ : ∃ S, S = shf wd hg zs x y m := ⟨_, rfl⟩
  have pS : ∀ z ∈ SS, 0 ≤ z ∧ z ≤ 255 := by rw [hSS]; exact shf_mem oa.pix
  have lS : SS.length = m := by rw [hSS]; exact shf_length _ _ _ _ _ _
  rw [← hSS] at hshf ⊢
  have LSS := Lib.hid lS
  have HWF := Lib.hid (wf_pix (mtl_pix (ss := SS) (rs := rs) (s := s) (k := m) pS))
  have PS := Lib.hid pS
  have HRS := Lib.hid hrs
  have HSHF := Lib.hid hshf
  have HRC := Lib.hid hrc
  have HC := Lib.hid hc
  have HS := Lib.hid hs
  have H2 := Lib.hid h2
  have d1 : decide (x < -1) = false := decide_eq_false (by omega)
  have d2 : decide (1 < x) = false := decide_eq_false (by omega)
  have d3 : decide (y < -1) = false := decide_eq_false (by omega)
  have d4 : decide (1 < y) = false := decide_eq_false (by omega)
  clear h h2 he hk oa hlz hre hn hml hrs hs hc hrc hshf hSS pS lS
  go_enter Tryd.func111, Tryd.ntmps111
  go_upto_region 1 with fail
  rw [← hW0]
  clear hW0
  have p0 : W0.cell? ⟨w.heap.size, 0, none⟩ = _ := HS.out.p.c0
  have p1 : W0.cell? ⟨w.heap.size, 1, none⟩ = _ := HS.out.p.c1
  have p2 : W0.cell? ⟨w.heap.size, 2, none⟩ = _ := HS.out.p.c2
  go_wp2_with fail
  refine HC.out.mono ?_
  rintro e W1 ⟨rfl, hb1⟩
  clear p0 p1 p2
  have HS1 := Lib.hid (HS.out.keep hb1)
  clear hb1
  have q0 : W1.cell? ⟨w.heap.size + 1, 0, none⟩ = _ := HS1.out.q.c0
  have q1 : W1.cell? ⟨w.heap.size + 1, 1, none⟩ = _ := HS1.out.q.c1
  have q2 : W1.cell? ⟨w.heap.size + 1, 2, none⟩ = _ := HS1.out.q.c2
  have q3 : W1.cell? ⟨w.heap.size + 1, 3, none⟩ = _ := HS1.out.q.c3
  have p0 : W1.cell? ⟨w.heap.size, 0, none⟩ = _ := HS1.out.p.c0
  have p1 : W1.cell? ⟨w.heap.size, 1, none⟩ = _ := HS1.out.p.c1
  have p2 : W1.cell? ⟨w.heap.size, 2, none⟩ = _ := HS1.out.p.c2
  go_wp2_with fail
  refine (step_any s _).mono ?_
  rw [h3]
  clear h3
  rintro e w' ⟨rfl, rfl⟩
  go_wp2_with fail
  refine (HRC.out _ HS1.out.lat).mono ?_
  rintro e w' ⟨rfl, rfl⟩
  go_wp2_with fail
  refine (HSHF.out _ HS1.out.lat).mono ?_
  rintro e W3 ⟨gv, vc, rfl, hv1, hv2, hgv, hblk, hb3⟩
  have hl4 := Lat.alloc W3 (.cells #[.int .i64 wd, .int .i64 hg, .slice (some ⟨gv, 0, none⟩) m vc] 132)
  obtain ⟨W4, hW4⟩ : ∃ W, W = W3.alloc (.cells #[.int .i64 wd, .int .i64 hg, .slice (some ⟨gv, 0, none⟩) m vc] 132) := ⟨_, rfl⟩
  rw [← hW4] at hl4
  have hs4 := HS1.out.keep (Lat.trans hb3 hl4)
  have HS4 := Lib.hid hs4
  have SC := Lib.hid (show Cells3 W4 W3.heap.size 0 (.int .i64 wd) (.int .i64 hg) (.slice (some ⟨gv, 0, none⟩) m vc) by rw [hW4]; exact cells3_new rfl rfl rfl rfl)
  have BLK := Lib.hid (hblk.keep hl4)
  have H24 := Lib.hid (H2.out.keep hs4.lat)
  have NS : W3.heap.size ≠ gv := by have := hblk.lt; omega
  have NR : w.heap.size + 1 + 1 < gv := Nat.lt_of_lt_of_le HS1.out.sz hgv
  have q3b : W4.cell? ⟨w.heap.size + 1, 3, none⟩ = _ := hs4.q.c3
  clear p0 p1 p2 q0 q1 q2 q3 hblk hb3 hl4 hgv hs4
  go_upto_region 14 with fail
  rw [← hW4]
  clear hW4
  go_wp2_with fail
  go_loopw [72] (fun i wr => ∃ k : Nat, k ≤ m ∧ i = .int .i64 k ∧ Hid (DInv w W4 wr gv m (mtl SS rs s k))) (fun i _ => m - (intOf i).toNat)
  case atStart => exact ⟨0, Nat.zero_le _, rfl, HS4.out.lat, fun _ _ _ h => h, fun _ h => h, by rw [mtl_zero]; exact BLK.out, by omega⟩
  case round =>
    clear q3b
    obtain ⟨k, hk, rfl, hrel⟩ := hrel
    have hI := hrel.out
    by_cases hlt : k < m
    · obtain ⟨bb, ob, rfl, hcb⟩ := H24.out.row.at_ (by omega)
      obtain ⟨b', o', hb', hcw⟩ := H2.out.row.at_ (by omega)
      injection hb' with hb'
      injection hb' with hb1 hb2 _
      subst hb1 hb2
      have hbw : bb < w.heap.size := World.block_lt_of_cell? _ _ (hcw k hlt)
      have c1 := hI.same _ _ (show bb ≠ gv by omega) (hcb k hlt)
      have hF0 := hI.same _ _ (show W3.heap.size ≠ gv from NS) SC.out.c2
      have hG0 := hI.blk.cell k hlt
      have hfr := hI.blk.free k hlt
      have hz := getD_pix PS.out k
      have hr := HRS.out _ (mem_getD rs k (by rw [H2.out.len]; exact hlt))
      have hst := mtl_step SS rs s k (by rw [LSS.out]; exact hlt)
      rw [mtl_getD _ _ _ _ _ (by rw [LSS.out]; exact hlt), if_neg (by omega)] at hG0
      obtain ⟨z, hzd⟩ : ∃ z, z = SS.getD k 0 := ⟨_, rfl⟩
      obtain ⟨r, hrd⟩ : ∃ z, z = rs.getD k 0 := ⟨_, rfl⟩
      rw [← hzd] at hG0 hz hst
      rw [← hrd] at c1 hr hst
      rw [LSS.out] at hst
      have hm := mul_bd r s hr.1 hr.2 s1 s64
      obtain ⟨p, hp⟩ : ∃ p, p = r * s := ⟨_, rfl⟩
      obtain ⟨t, ht⟩ : ∃ t, t = clamp (z + r * s) := ⟨_, rfl⟩
      rw [← ht] at hst
      have hcl : ∀ W, Calls Tryd.prog 133 #[.int .i64 (z + r * s)] W fun e w' => e = .returned (.int .i64 t) ∧ w' = W := fun W => by
        rw [ht]; exact (clamp_any (z + r * s) W).mono fun _ _ ⟨x, y⟩ => ⟨x, y.symm⟩
      have hset := hI.set hlt hst
      have hFS : (wr.setCell ⟨gv, k, none⟩ (.int .i64 t)).cell? ⟨W3.heap.size, 2, none⟩ = some (.slice (some ⟨gv, 0, none⟩) m vc) := hset.same _ _ (show W3.heap.size ≠ gv from NS) SC.out.c2
      have HCL := Lib.hid hcl
      have HSET := Lib.hid hset
      have FS := Lib.hid hFS
      have HF0 := Lib.hid hF0
      have HG0 := Lib.hid hG0
      have e1 : IntKind.i64.wrap (r * s) = r * s := IntWalk.i64_in _ (by omega)
      have e2 : IntKind.i64.wrap (z + r * s) = z + r * s := IntWalk.i64_in _ (by omega)
      have i1 : (0 : Int) ≤ (k : Int) := by omega
      have i2 : (k : Int) < (m : Int) := by omega
      clear hcb hcw hzd hrd ht hcl hst hI hrel hF0 hG0 hset hFS hp
      go_upto_region 17 with fail
      have hF : wr.drew.cell? ⟨W3.heap.size, 2, none⟩ = some (.slice (some ⟨gv, 0, none⟩) m vc) := HF0.out
      have hG : wr.drew.cell? ⟨gv, k, none⟩ = some (.int .i64 z) := HG0.out
      clear c1
      refine wp_region_gate (fun w' => w'.cell? ⟨W3.heap.size, 2, none⟩ = some (.slice (some ⟨gv, 0, none⟩) m vc)) (fun w' => w'.cell? ⟨gv, k, none⟩ = some (.int .i64 z)) 11 (by kernel_rfl) ?_
      refine gate_takeF (i := 0) (v := ?_) rfl (by kernel_rfl) (by kernel_rfl) (by kernel_rfl) (fun _ _ _ h => h) (by decide) ⟨hF, fun _ => hG⟩ (Or.inl ⟨by rfl, ?_⟩) ?_
      rotate_left
      · intro wq hSw; go_simp; rfl
      simp only [Act.put]
      refine gate_takeF (i := 1) (v := ?_) rfl (by kernel_rfl) (by kernel_rfl) (by kernel_rfl) (fun _ _ _ h => h) (by decide) ⟨hF, fun _ => hG⟩ (Or.inl ⟨by rfl, ?_⟩) ?_
      rotate_left
      · intro wq hSw; go_simp; rfl
      simp only [Act.put]
      refine gate_takeF (i := 2) (v := ?_) rfl (by kernel_rfl) (by kernel_rfl) (by kernel_rfl) (fun _ _ _ h => h) (by decide) ⟨hF, fun _ => hG⟩ (Or.inl ⟨by rfl, ?_⟩) ?_
      rotate_left
      · intro wq hSw; go_simp; rfl
      simp only [Act.put]
      refine gate_takeF (i := 3) (v := ?_) rfl (by kernel_rfl) (by kernel_rfl) (by kernel_rfl) (fun _ _ _ h => h) (by decide) ⟨hF, fun _ => hG⟩ (Or.inl ⟨by rfl, ?_⟩) ?_
      rotate_left
      · intro wq hSw; go_simp; rfl
      simp only [Act.put]
      refine gate_takeF (i := 4) (v := ?_) rfl (by kernel_rfl) (by kernel_rfl) (by kernel_rfl) (fun _ _ _ h => h) (by decide) ⟨hF, fun _ => hG⟩ (Or.inl ⟨by rfl, ?_⟩) ?_
      rotate_left
      · intro wq hSw; go_simp; rfl
      simp only [Act.put]
      refine gate_takeF (i := 5) (v := ?_) rfl (by kernel_rfl) (by kernel_rfl) (by kernel_rfl) (fun _ _ _ h => h) (by decide) ⟨hF, fun _ => hG⟩ (Or.inl ⟨by rfl, ?_⟩) ?_
      rotate_left
      · intro wq hSw; go_simp; rfl
      simp only [Act.put]
      refine gate_takeF (i := 6) (v := ?_) rfl (by kernel_rfl) (by kernel_rfl) (by kernel_rfl) (fun _ _ _ h => h) (by decide) ⟨hF, fun _ => hG⟩ (Or.inl ⟨by rfl, ?_⟩) ?_
      rotate_left
      · intro wq hSw; go_simp; rfl
      simp only [Act.put]
      refine gate_takeG (i := 7) (v := ?_) rfl (by kernel_rfl) (by kernel_rfl) (by kernel_rfl) (fun _ _ _ h => h) (by decide) (by kernel_rfl) (by kernel_rfl) ⟨hF, fun _ => hG⟩ (Or.inl ⟨by rfl, ?_⟩) ?_
      rotate_left
      · intro wq hSw; obtain ⟨s0, s1⟩ := hSw; go_simp; rfl
      simp only [Act.put]
      refine gate_takeF (i := 8) (v := ?_) rfl (by kernel_rfl) (by kernel_rfl) (by kernel_rfl) (fun _ _ _ h => h) (by decide) ⟨hF, fun _ => hG⟩ (Or.inl ⟨by rfl, ?_⟩) ?_
      rotate_left
      · intro wq hSw; go_simp; rfl
      simp only [Act.put]
      refine gate_takeF (i := 9) (v := ?_) rfl (by kernel_rfl) (by kernel_rfl) (by kernel_rfl) (fun _ _ _ h => h) (by decide) ⟨hF, fun _ => hG⟩ (Or.inl ⟨by rfl, ?_⟩) ?_
      rotate_left
      · intro wq hSw; go_simp; rfl
      simp only [Act.put]
      refine gate_takeF (i := 10) (v := ?_) rfl (by kernel_rfl) (by kernel_rfl) (by kernel_rfl) (fun _ _ _ h => h) (by decide) ⟨hF, fun _ => hG⟩ (Or.inl ⟨by rfl, ?_⟩) ?_
      rotate_left
      · intro wq hSw; go_simp; rfl
      simp only [Act.put]
      refine gate_one (i := 11) (by kernel_rfl) rfl (fun K hK => ?_)
      go_simp
      refine hK _ _ ⟨hF, fun _ => hG⟩ ?_
      clear hK K
      refine gate_one (i := 12) (by kernel_rfl) rfl (fun K hK => ?_)
      go_simp
      refine (HCL.out _).mono ?_
      rintro e w' ⟨rfl, rfl⟩
      refine hK _ _ ⟨hF, fun _ => hG⟩ ?_
      clear hK K
      refine gate_takeF (i := 13) (v := ?_) rfl (by kernel_rfl) (by kernel_rfl) (by kernel_rfl) (fun _ _ _ h => h) (by decide) ⟨hF, fun _ => hG⟩ (Or.inl ⟨by rfl, ?_⟩) ?_
      rotate_left
      · intro wq hSw; go_simp; rfl
      simp only [Act.put]
      refine gate_one (i := 14) (by kernel_rfl) rfl (fun K hK => ?_)
      go_simp
      refine hK _ _ (FG.past (by kernel_rfl) FS.out) ?_
      clear hK K
      refine gate_done (by kernel_rfl) ?_ _
      clear hF hG
      go_wp2
      go_roundw
      case rel => exact ⟨k + 1, by omega, by go_num, HSET.out.drew⟩
      case measure => simp [intOf]; omega
    · obtain rfl : k = m := by omega
      have hr0 := hI.same ⟨w.heap.size + 1 + 1, 0, none⟩ _ (show w.heap.size + 1 + 1 ≠ gv by omega) HS4.out.r.c0
      have hr1 := hI.same ⟨w.heap.size + 1 + 1, 1, none⟩ _ (show w.heap.size + 1 + 1 ≠ gv by omega) HS4.out.r.c1
      have hr2 := hI.same ⟨w.heap.size + 1 + 1, 2, none⟩ _ (show w.heap.size + 1 + 1 ≠ gv by omega) HS4.out.r.c2
      have f0 := hI.free _ (HS4.out.f 0 (by omega))
      have f1 := hI.free _ (HS4.out.f 1 (by omega))
      have f2 := hI.free _ (HS4.out.f 2 (by omega))
      have s0 := hI.same ⟨W3.heap.size, 0, none⟩ _ (show W3.heap.size ≠ gv from NS) SC.out.c0
      have s1' := hI.same ⟨W3.heap.size, 1, none⟩ _ (show W3.heap.size ≠ gv from NS) SC.out.c1
      have s2 := hI.same ⟨W3.heap.size, 2, none⟩ _ (show W3.heap.size ≠ gv from NS) SC.out.c2
      have Q := Lib.hid (three_set hr0 hr1 hr2 (.int .i64 wd) (.int .i64 hg) (.slice (some ⟨gv, 0, none⟩) k vc))
      have hat : IntsAt wr (some ⟨gv, 0, none⟩) k vc (mtl SS rs s k) := ⟨by rw [mtl_length, LSS.out], ⟨hv1, hv2, fun _ => ⟨gv, 0, rfl, fun j hj => by rw [Nat.zero_add]; exact hI.blk.cell j hj⟩⟩, HWF.out⟩
      have HII := Lib.hid (ints_three (g := w.heap.size + 1 + 1) hat (fun b o e _ => by injection e with e; injection e with e _ _; omega) (.int .i64 wd) (.int .i64 hg) (.slice (some ⟨gv, 0, none⟩) k vc))
      have HL := Lib.hid (lat_three hI.lat (show w.heap.size ≤ w.heap.size + 1 + 1 by omega) (.int .i64 wd) (.int .i64 hg) (.slice (some ⟨gv, 0, none⟩) k vc))
      have FR := Lib.hid (show Fresh w (some ⟨gv, 0, none⟩) k from fun g hg b o e _ => by injection e with e; injection e with e _ _; omega)
      clear hrel hI hat
      go_wp2
      exact bodyPost_ret (v := .tuple #[picV wd hg (some ⟨gv, 0, none⟩) k vc, .nilIface]) (by simp [results, Tryd.results111, go_sem, Q.out.1, Q.out.2.1, Q.out.2.2]) rfl ⟨_, _, rfl, HII.out, FR.out, HL.out⟩
end Go.Proofs.YtooepflfofgnnaaDoor
