/- The contracts of package moved: far, best. -/
import Derived.Test.YtnnjijdpenifjaaDoorShiftC
namespace Go.Proofs.YtnnjijdpenifjaaDoor
open Go.ChangeShapes Go.WideShapes Go.ChangeAt Go.RowKit

set_option maxHeartbeats 1000000 in
theorem far_any (wd hg : Int) (a : Option Addr) (n cap : Nat) (zs : List Int) (wd2 hg2 : Int) (b : Option Addr) (cap2 : Nat) (ys : List Int) (w : World) (h : IntsAt w a n cap zs) (h2 : IntsAt w b n cap2 ys)
    (p1 : ∀ z ∈ zs, 0 ≤ z ∧ z ≤ 255) (p2 : ∀ z ∈ ys, 0 ≤ z ∧ z ≤ 255) (hn : n ≤ 36) :
    Calls Tryd.prog 92 #[picV wd hg a n cap, picV wd2 hg2 b n cap2] w fun e w' => e = .returned (.int .i64 (farS zs ys n)) ∧ Lat w w' := by
  obtain ⟨W0, hW0⟩ : ∃ W, W = (w.alloc (.cells #[.int .i64 wd, .int .i64 hg, .slice a n cap] 24)).alloc (.cells #[.int .i64 wd2, .int .i64 hg2, .slice b n cap2] 24) := ⟨_, rfl⟩
  have hL : Lat w W0 := by rw [hW0]; exact Lat.trans (Lat.alloc _ _) (Lat.alloc _ _)
  have k0 : W0.cell? ⟨w.heap.size, 2, none⟩ = some (.slice a n cap) := by rw [hW0]; exact (Lat.alloc _ _).cell_at (cell_new rfl rfl)
  have k1 : W0.cell? ⟨w.heap.size + 1, 2, none⟩ = some (.slice b n cap2) := by rw [hW0]; exact cell_new (by simp) rfl
  have HL := Lib.hid hL
  have H := Lib.hid (h.keep hL)
  have H2 := Lib.hid (h2.keep hL)
  have K1 := Lib.hid k1
  have P1 := Lib.hid p1
  have P2 := Lib.hid p2
  clear hL h h2 k1 p1 p2
  go_enter Tryd.func92, Tryd.ntmps92
  go_upto_region 1 with fail
  rw [← hW0]
  clear hW0
  go_wp2_with fail
  go_loopw [5, 11] (fun v i wr => ∃ k : Nat, k ≤ n ∧ i = .int .i64 k ∧ v = .int .i64 (farS zs ys k) ∧ Hid (Lat W0 wr)) (fun _ i _ => n - (intOf i).toNat)
  case atStart => exact ⟨0, Nat.zero_le _, rfl, rfl, Lat.refl _⟩
  case round =>
    obtain ⟨k, hk, rfl, rfl, hrel⟩ := hrel
    by_cases hlt : k < n
    · have hz := getD_pix P1.out k
      have hy := getD_pix P2.out k
      have hu := farS_le P1.out P2.out k
      have hu0 := farS_nonneg zs ys k
      obtain ⟨b1, o1, rfl, hc1⟩ := (H.out.keep hrel.out).row.at_ (by omega)
      obtain ⟨b2, o2, rfl, hc2⟩ := (H2.out.keep hrel.out).row.at_ (by omega)
      have c1 := hc1 k hlt
      have c2 := hc2 k hlt
      have c3 := hrel.out.cell_at K1.out
      have hst : farS zs ys (k + 1) = farS zs ys k + apt (zs.getD k 0) (ys.getD k 0) := rfl
      obtain ⟨z, hzd⟩ : ∃ z, z = zs.getD k 0 := ⟨_, rfl⟩
      obtain ⟨y, hyd⟩ : ∃ z, z = ys.getD k 0 := ⟨_, rfl⟩
      obtain ⟨U, hU⟩ : ∃ z, z = farS zs ys k := ⟨_, rfl⟩
      rw [← hzd] at c1 hz hst
      rw [← hyd] at c2 hy hst
      rw [← hU] at hu hst hu0
      rw [← hU]
      have HST := Lib.hid hst
      have ha : 0 ≤ apt z y ∧ apt z y ≤ 255 := by unfold apt; omega
      obtain ⟨D, hD⟩ : ∃ d, d = apt z y := ⟨_, rfl⟩
      rw [← hD] at ha
      have HD := Lib.hid hD
      clear hc1 hc2 hzd hyd hst hU hD
      go_wp2_with (go_at_call 71; refine (apart_any z y _ (by omega) (by omega) (by omega) (by omega)).mono ?_; rw [← HD.out]; rintro e w' ⟨rfl, rfl⟩)
      go_roundw
      case rel => exact ⟨k + 1, by omega, by go_num, by rw [HST.out, ← HD.out], hrel.out⟩
      case measure => simp [intOf]; omega
    · obtain rfl : k = n := by omega
      go_wp2
      go_ret
      exact ⟨rfl, Lat.trans HL.out hrel.out⟩

/-- What stands throughout best: the two pictures, the result's cell, the best move's. -/
structure BW (w W : World) (wd hg : Nat) (a : Option Addr) (n cap : Nat) (b : Option Addr) (cap2 : Nat) (x y : Int) : Prop where
  lat : Lat w W
  p : Cells3 W w.heap.size 0 (.int .i64 wd) (.int .i64 hg) (.slice a n cap)
  q : Cells3 W (w.heap.size + 1) 0 (.int .i64 wd) (.int .i64 hg) (.slice b n cap2)
  r0 : W.cell? ⟨w.heap.size + 1 + 1, 0, none⟩ = some (.int .i64 0)
  r1 : W.cell? ⟨w.heap.size + 1 + 1, 1, none⟩ = some (.int .i64 0)
  f0 : W.frozen? ⟨w.heap.size + 1 + 1, 0, none⟩ = false
  f1 : W.frozen? ⟨w.heap.size + 1 + 1, 1, none⟩ = false
  o0 : W.cell? ⟨w.heap.size + 1 + 1 + 1, 0, none⟩ = some (.int .i64 x)
  o1 : W.cell? ⟨w.heap.size + 1 + 1 + 1, 1, none⟩ = some (.int .i64 y)
  g0 : W.frozen? ⟨w.heap.size + 1 + 1 + 1, 0, none⟩ = false
  g1 : W.frozen? ⟨w.heap.size + 1 + 1 + 1, 1, none⟩ = false
  sz : w.heap.size + 4 ≤ W.heap.size
section
variable {w W W' : World} {wd hg : Nat} {a : Option Addr} {n cap : Nat} {b : Option Addr} {cap2 : Nat} {x y : Int}
theorem BW.keep (h : BW w W wd hg a n cap b cap2 x y) (hb : Lat W W') : BW w W' wd hg a n cap b cap2 x y :=
  have hs := h.sz
  have l2 : w.heap.size + 1 + 1 < W.heap.size := by omega
  have l3 : w.heap.size + 1 + 1 + 1 < W.heap.size := by omega
  ⟨Lat.trans h.lat hb, h.p.keep hb, h.q.keep hb, hb.cell_at h.r0, hb.cell_at h.r1, hb.free_at l2 h.f0, hb.free_at l2 h.f1, hb.cell_at h.o0, hb.cell_at h.o1, hb.free_at l3 h.g0, hb.free_at l3 h.g1, Nat.le_trans hs hb.size⟩
theorem cell_two {W : World} {g g' k : Nat} {v u u' : Value} (h : W.cell? ⟨g, k, none⟩ = some v) (hne : g ≠ g') : ((W.setCell ⟨g', 0, none⟩ u).setCell ⟨g', 1, none⟩ u').cell? ⟨g, k, none⟩ = some v := by
  rw [World.cell?_setCell_other _ _ _ _ (by intro e; injection e with e _ _; exact hne e.symm), World.cell?_setCell_other _ _ _ _ (by intro e; injection e with e _ _; exact hne e.symm)]; exact h
theorem two_set {W : World} {g : Nat} {v v' : Value} (h0 : W.cell? ⟨g, 0, none⟩ = some v) (h1 : W.cell? ⟨g, 1, none⟩ = some v') (u u' : Value) :
    ((W.setCell ⟨g, 0, none⟩ u).setCell ⟨g, 1, none⟩ u').cell? ⟨g, 0, none⟩ = some u ∧ ((W.setCell ⟨g, 0, none⟩ u).setCell ⟨g, 1, none⟩ u').cell? ⟨g, 1, none⟩ = some u' := by
  refine ⟨?_, ?_⟩
  · rw [World.cell?_setCell_other _ _ _ _ (by simp)]; exact World.cell?_setCell_same _ _ _ h0
  · exact World.cell?_setCell_same _ _ _ ((World.cell?_setCell_other _ _ _ _ (by simp)).trans h1)
theorem lat_two {w W : World} {g : Nat} (hb : Lat w W) (hg : w.heap.size ≤ g) (u u' : Value) : Lat w ((W.setCell ⟨g, 0, none⟩ u).setCell ⟨g, 1, none⟩ u') := Below.setCell (Below.setCell hb hg u) hg u'
theorem free_two {W : World} {p : Addr} {g : Nat} {u u' : Value} (h : W.frozen? p = false) : ((W.setCell ⟨g, 0, none⟩ u).setCell ⟨g, 1, none⟩ u').frozen? p = false := by
  rw [World.frozen?_setCell, World.frozen?_setCell]; exact h
theorem BW.set (h : BW w W wd hg a n cap b cap2 x y) (x' y' : Int) :
    BW w ((W.setCell ⟨w.heap.size + 1 + 1 + 1, 0, none⟩ (.int .i64 x')).setCell ⟨w.heap.size + 1 + 1 + 1, 1, none⟩ (.int .i64 y')) wd hg a n cap b cap2 x' y' :=
  have q := two_set h.o0 h.o1 (.int .i64 x') (.int .i64 y')
  ⟨lat_two h.lat (by omega) _ _, ⟨cell_two h.p.c0 (by omega), cell_two h.p.c1 (by omega), cell_two h.p.c2 (by omega)⟩, ⟨cell_two h.q.c0 (by omega), cell_two h.q.c1 (by omega), cell_two h.q.c2 (by omega)⟩,
    cell_two h.r0 (by omega), cell_two h.r1 (by omega), free_two h.f0, free_two h.f1, q.1, q.2, free_two h.g0, free_two h.g1, by simp [World.setCell]; exact h.sz⟩
end

set_option maxHeartbeats 8000000 in
set_option maxRecDepth 100000 in
theorem best_any (wd hg : Nat) (a : Option Addr) (n cap : Nat) (zs : List Int) (b : Option Addr) (cap2 : Nat) (ys : List Int) (w : World) (h : IntsAt w a n cap zs) (h2 : IntsAt w b n cap2 ys) (hn : wd * hg = n)
    (w1 : 1 ≤ wd) (w6 : wd ≤ 6) (g1 : 1 ≤ hg) (g6 : hg ≤ 6) (p1 : ∀ z ∈ zs, 0 ≤ z ∧ z ≤ 255) (p2 : ∀ z ∈ ys, 0 ≤ z ∧ z ≤ 255) :
    Calls Tryd.prog 73 #[picV wd hg a n cap, picV wd hg b n cap2] w fun e w' => e = .returned (.agg #[.int .i64 (mvX (bst wd hg zs ys 9)), .int .i64 (mvY (bst wd hg zs ys 9))]) ∧ Lat w w' := by
  have hn36 : n ≤ 36 := by rw [← hn]; exact Nat.mul_le_mul w6 g6
  have hlz := h.len
  have hsh : ∀ (mx my : Int) (W : World), Lat w W → -6 ≤ mx → mx ≤ 6 → -6 ≤ my → my ≤ 6 → Calls Tryd.prog 69 #[picV wd hg a n cap, .agg #[.int .i64 mx, .int .i64 my]] W fun e w' =>
      ∃ va vc, e = .returned (.agg #[.int .i64 wd, .int .i64 hg, .slice va n vc]) ∧ IntsAt w' va n vc (shf wd hg zs mx my n) ∧ Lat W w' := fun mx my W hW x1 x2 y1 y2 => by
    refine (shifted_any wd hg a n cap zs mx my W (h.keep hW) hn w1 w6 g1 g6 x1 x2 y1 y2).mono ?_
    rintro e w1 ⟨v, rfl, hown, hb1⟩
    obtain ⟨va, vc, rfl, hat⟩ := OwnInts.sliceN hown (wf_pix (shf_mem p1)) (shf_length _ _ _ _ _ _)
    exact ⟨va, vc, rfl, hat, hb1⟩
  have hfar : ∀ (mx my : Int) (va : Option Addr) (vc : Nat) (W : World), IntsAt W va n vc (shf wd hg zs mx my n) → Lat w W → Calls Tryd.prog 92 #[picV wd hg va n vc, picV wd hg b n cap2] W fun e w' =>
      e = .returned (.int .i64 (mfar wd hg zs ys mx my)) ∧ Lat W w' := fun mx my va vc W hat hW => by
    have := far_any wd hg va n vc _ wd hg b cap2 ys W hat (h2.keep hW) (shf_mem p1) p2 hn36
    unfold mfar
    rw [hlz]
    exact this
  have HSH := Lib.hid hsh
  have HFAR := Lib.hid hfar
  clear hsh hfar h h2 hlz p1 p2
  obtain ⟨W0, hW0⟩ : ∃ W, W = (((w.alloc (.cells #[.int .i64 wd, .int .i64 hg, .slice a n cap] 24)).alloc (.cells #[.int .i64 wd, .int .i64 hg, .slice b n cap2] 24)).alloc (.cells #[.int .i64 0, .int .i64 0] 44)).alloc (.cells #[.int .i64 (-1), .int .i64 (-1)] 44) := ⟨_, rfl⟩
  have hBW : BW w W0 wd hg a n cap b cap2 (-1) (-1) := by
    rw [hW0]
    have l4 := Lat.alloc (((w.alloc (.cells #[.int .i64 wd, .int .i64 hg, .slice a n cap] 24)).alloc (.cells #[.int .i64 wd, .int .i64 hg, .slice b n cap2] 24)).alloc (.cells #[.int .i64 0, .int .i64 0] 44)) (.cells #[.int .i64 (-1), .int .i64 (-1)] 44)
    have l3 := Lat.alloc ((w.alloc (.cells #[.int .i64 wd, .int .i64 hg, .slice a n cap] 24)).alloc (.cells #[.int .i64 wd, .int .i64 hg, .slice b n cap2] 24)) (.cells #[.int .i64 0, .int .i64 0] 44)
    have l2 := Lat.alloc (w.alloc (.cells #[.int .i64 wd, .int .i64 hg, .slice a n cap] 24)) (.cells #[.int .i64 wd, .int .i64 hg, .slice b n cap2] 24)
    have l1 := Lat.alloc w (.cells #[.int .i64 wd, .int .i64 hg, .slice a n cap] 24)
    exact ⟨Lat.trans l1 (Lat.trans l2 (Lat.trans l3 l4)), (cells3_new rfl rfl rfl rfl).keep (Lat.trans l2 (Lat.trans l3 l4)), (cells3_new (by simp) rfl rfl rfl).keep (Lat.trans l3 l4), l4.cell_at (cell_new (by simp) rfl), l4.cell_at (cell_new (by simp) rfl),
      l4.free_at (by simp) (free_new (by simp)), l4.free_at (by simp) (free_new (by simp)), cell_new (by simp) rfl, cell_new (by simp) rfl, free_new (by simp), free_new (by simp), by simp⟩
  go_enter Tryd.func73, Tryd.ntmps73
  go_upto_region 2 with fail
  rw [← hW0]
  clear hW0
  have hF : W0.drew.cell? ⟨w.heap.size, 0, none⟩ = some (.int .i64 wd) ∧ W0.drew.cell? ⟨w.heap.size, 1, none⟩ = some (.int .i64 hg) ∧ W0.drew.cell? ⟨w.heap.size, 2, none⟩ = some (.slice a n cap) ∧ W0.drew.cell? ⟨w.heap.size + 1, 0, none⟩ = some (.int .i64 wd) ∧ W0.drew.cell? ⟨w.heap.size + 1, 1, none⟩ = some (.int .i64 hg) ∧ W0.drew.cell? ⟨w.heap.size + 1, 2, none⟩ = some (.slice b n cap2) ∧ W0.drew.cell? ⟨w.heap.size + 1 + 1 + 1, 0, none⟩ = some (.int .i64 (-1)) ∧ W0.drew.cell? ⟨w.heap.size + 1 + 1 + 1, 1, none⟩ = some (.int .i64 (-1)) := ⟨hBW.p.c0, hBW.p.c1, hBW.p.c2, hBW.q.c0, hBW.q.c1, hBW.q.c2, hBW.o0, hBW.o1⟩
  have hFk : ∀ W, Lat W0.drew W → _ := fun W hW => (⟨hW.cell_at hF.1, hW.cell_at hF.2.1, hW.cell_at hF.2.2.1, hW.cell_at hF.2.2.2.1, hW.cell_at hF.2.2.2.2.1, hW.cell_at hF.2.2.2.2.2.1, hW.cell_at hF.2.2.2.2.2.2.1, hW.cell_at hF.2.2.2.2.2.2.2⟩ : W.cell? ⟨w.heap.size, 0, none⟩ = some (.int .i64 wd) ∧ W.cell? ⟨w.heap.size, 1, none⟩ = some (.int .i64 hg) ∧ W.cell? ⟨w.heap.size, 2, none⟩ = some (.slice a n cap) ∧ W.cell? ⟨w.heap.size + 1, 0, none⟩ = some (.int .i64 wd) ∧ W.cell? ⟨w.heap.size + 1, 1, none⟩ = some (.int .i64 hg) ∧ W.cell? ⟨w.heap.size + 1, 2, none⟩ = some (.slice b n cap2) ∧ W.cell? ⟨w.heap.size + 1 + 1 + 1, 0, none⟩ = some (.int .i64 (-1)) ∧ W.cell? ⟨w.heap.size + 1 + 1 + 1, 1, none⟩ = some (.int .i64 (-1)))
  have WLAT := Lib.hid (Lat.trans hBW.lat (Lat.drew W0))
  have XB : (-6 : Int) ≤ -1 ∧ (-1 : Int) ≤ 6 ∧ (-6 : Int) ≤ -1 ∧ (-1 : Int) ≤ 6 := by omega
  have HBW := Lib.hid (hBW.keep (Lat.drew W0))
  clear hBW
  refine wp_region_gate (fun w' => w'.cell? ⟨w.heap.size, 0, none⟩ = some (.int .i64 wd) ∧ w'.cell? ⟨w.heap.size, 1, none⟩ = some (.int .i64 hg) ∧ w'.cell? ⟨w.heap.size, 2, none⟩ = some (.slice a n cap) ∧ w'.cell? ⟨w.heap.size + 1, 0, none⟩ = some (.int .i64 wd) ∧ w'.cell? ⟨w.heap.size + 1, 1, none⟩ = some (.int .i64 hg) ∧ w'.cell? ⟨w.heap.size + 1, 2, none⟩ = some (.slice b n cap2) ∧ w'.cell? ⟨w.heap.size + 1 + 1 + 1, 0, none⟩ = some (.int .i64 (-1)) ∧ w'.cell? ⟨w.heap.size + 1 + 1 + 1, 1, none⟩ = some (.int .i64 (-1))) (fun _ => True) 1000 (by kernel_rfl) ?_
  refine gate_takeF (i := 0) (v := ?_) rfl (by kernel_rfl) (by kernel_rfl) (by kernel_rfl) (fun _ _ _ h => h) (by decide) ⟨hF, fun _ => trivial⟩ (Or.inl ⟨by rfl, ?_⟩) ?_
  rotate_left
  · intro wq hSw; obtain ⟨s0, s1, s2, s3, s4, s5, s6, s7⟩ := hSw; go_simp; rfl
  simp only [Act.put]
  refine gate_takeF (i := 1) (v := ?_) rfl (by kernel_rfl) (by kernel_rfl) (by kernel_rfl) (fun _ _ _ h => h) (by decide) ⟨hF, fun _ => trivial⟩ (Or.inl ⟨by rfl, ?_⟩) ?_
  rotate_left
  · intro wq hSw; obtain ⟨s0, s1, s2, s3, s4, s5, s6, s7⟩ := hSw; go_simp; rfl
  simp only [Act.put]
  refine gate_takeF (i := 3) (v := ?_) rfl (by kernel_rfl) (by kernel_rfl) (by kernel_rfl) (fun _ _ _ h => h) (by decide) ⟨hF, fun _ => trivial⟩ (Or.inl ⟨by rfl, ?_⟩) ?_
  rotate_left
  · intro wq hSw; obtain ⟨s0, s1, s2, s3, s4, s5, s6, s7⟩ := hSw; go_simp; rfl
  simp only [Act.put]
  refine gate_one (i := 2) (by kernel_rfl) rfl (fun K hK => ?_)
  go_simp
  refine (HSH.out _ _ _ WLAT.out XB.1 XB.2.1 XB.2.2.1 XB.2.2.2).mono ?_
  rintro e w1 ⟨va, vc, rfl, hat, hb1⟩
  have hF1 := hFk _ hb1
  refine hK _ _ ⟨hF1, fun _ => trivial⟩ ?_
  clear hK K
  refine gate_one (i := 4) (by kernel_rfl) rfl (fun K hK => ?_)
  go_simp
  refine (HFAR.out _ _ _ _ _ hat (Lat.trans WLAT.out hb1)).mono ?_
  rintro e w2 ⟨rfl, hb2⟩
  have hF2 := hFk _ (Lat.trans hb1 hb2)
  refine hK _ _ ⟨hF2, fun _ => trivial⟩ ?_
  clear hK K
  refine gate_takeF (i := 5) (v := ?_) rfl (by kernel_rfl) (by kernel_rfl) (by kernel_rfl) (fun _ _ _ h => h) (by decide) ⟨hF2, fun _ => trivial⟩ (Or.inl ⟨by rfl, ?_⟩) ?_
  rotate_left
  · intro wq hSw; go_simp; rfl
  simp only [Act.put]
  refine gate_done (by kernel_rfl) ?_ _
  have HBW2 := Lib.hid (HBW.out.keep (Lat.trans hb1 hb2))
  clear hF hFk hF1 hF2 hat hb1 hb2 XB WLAT HBW
  go_wp2_with fail
  go_loopw [6, 7] (fun l y wr => ∃ k : Nat, k ≤ 3 ∧ y = .int .i64 ((k : Int) - 1) ∧ l = .int .i64 (mfar wd hg zs ys (mvX (bst wd hg zs ys (3 * k))) (mvY (bst wd hg zs ys (3 * k)))) ∧ Hid (BW w wr wd hg a n cap b cap2 (mvX (bst wd hg zs ys (3 * k))) (mvY (bst wd hg zs ys (3 * k))))) (fun _ y _ => (2 - intOf y).toNat)
  case atStart => exact ⟨0, by omega, rfl, by rw [show bst wd hg zs ys (3 * 0) = 0 from rfl, show mvX 0 = -1 from rfl, show mvY 0 = -1 from rfl], by rw [show bst wd hg zs ys (3 * 0) = 0 from rfl, show mvX 0 = -1 from rfl, show mvY 0 = -1 from rfl]; exact HBW2.out⟩
  case round =>
    obtain ⟨k, hk, rfl, rfl, hrel⟩ := hrel
    obtain ⟨Y, hY⟩ : ∃ Y : Int, Y = (k : Int) - 1 := ⟨_, rfl⟩
    rw [← hY]
    by_cases hlt : k < 3
    · have y1 : -1 ≤ Y := by omega
      have y2 : Y ≤ 1 := by omega
      have HY := Lib.hid hY
      clear hY
      go_wp2_with fail
      go_loopw [6, 8] (fun l x wr => ∃ j : Nat, j ≤ 3 ∧ x = .int .i64 ((j : Int) - 1) ∧ l = .int .i64 (mfar wd hg zs ys (mvX (bst wd hg zs ys (3 * k + j))) (mvY (bst wd hg zs ys (3 * k + j)))) ∧ Hid (BW w wr wd hg a n cap b cap2 (mvX (bst wd hg zs ys (3 * k + j))) (mvY (bst wd hg zs ys (3 * k + j))))) (fun _ x _ => (2 - intOf x).toNat)
      case atStart => exact ⟨0, by omega, rfl, rfl, hrel.out⟩
      case round =>
        obtain ⟨j, hj, rfl, rfl, hrel⟩ := hrel
        obtain ⟨X, hX⟩ : ∃ X : Int, X = (j : Int) - 1 := ⟨_, rfl⟩
        rw [← hX]
        have hB := hrel.out
        obtain ⟨I, hI⟩ : ∃ I, I = bst wd hg zs ys (3 * k + j) := ⟨_, rfl⟩
        rw [← hI] at hB
        rw [← hI]
        by_cases hlt2 : j < 3
        · have x1 : -1 ≤ X := by omega
          have x2 : X ≤ 1 := by omega
          have ex : mvX (3 * k + j) = X := by rw [hX]; unfold mvX; omega
          have ey : mvY (3 * k + j) = Y := by rw [HY.out]; unfold mvY; omega
          have hst : bst wd hg zs ys (3 * k + (j + 1)) = if mfar wd hg zs ys X Y < mfar wd hg zs ys (mvX I) (mvY I) then 3 * k + j else I := by
            rw [← Nat.add_assoc, bst, ← hI, ex, ey]
          obtain ⟨M1, hM1⟩ : ∃ M, M = mfar wd hg zs ys X Y := ⟨_, rfl⟩
          obtain ⟨M2, hM2⟩ : ∃ M, M = mfar wd hg zs ys (mvX I) (mvY I) := ⟨_, rfl⟩
          rw [← hM1, ← hM2] at hst
          rw [← hM2]
          have HST := Lib.hid hst
          have HM1 := Lib.hid hM1
          have HM2 := Lib.hid hM2
          have HX := Lib.hid hX
          have EX := Lib.hid ex
          have EY := Lib.hid ey
          have HB0 := Lib.hid hB
          clear hst hM1 hM2 hX ex ey hB hrel hI
          go_upto_region 10 with fail
          have hB1 := (HB0.out.keep (Lat.alloc wr (.cells #[.int .i64 X, .int .i64 Y] 44))).keep (Lat.drew _)
          have hF : (wr.alloc (.cells #[.int .i64 X, .int .i64 Y] 44)).drew.cell? ⟨w.heap.size, 0, none⟩ = some (.int .i64 wd) ∧ (wr.alloc (.cells #[.int .i64 X, .int .i64 Y] 44)).drew.cell? ⟨w.heap.size, 1, none⟩ = some (.int .i64 hg) ∧ (wr.alloc (.cells #[.int .i64 X, .int .i64 Y] 44)).drew.cell? ⟨w.heap.size, 2, none⟩ = some (.slice a n cap) ∧ (wr.alloc (.cells #[.int .i64 X, .int .i64 Y] 44)).drew.cell? ⟨w.heap.size + 1, 0, none⟩ = some (.int .i64 wd) ∧ (wr.alloc (.cells #[.int .i64 X, .int .i64 Y] 44)).drew.cell? ⟨w.heap.size + 1, 1, none⟩ = some (.int .i64 hg) ∧ (wr.alloc (.cells #[.int .i64 X, .int .i64 Y] 44)).drew.cell? ⟨w.heap.size + 1, 2, none⟩ = some (.slice b n cap2) ∧ (wr.alloc (.cells #[.int .i64 X, .int .i64 Y] 44)).drew.cell? ⟨wr.heap.size, 0, none⟩ = some (.int .i64 X) ∧ (wr.alloc (.cells #[.int .i64 X, .int .i64 Y] 44)).drew.cell? ⟨wr.heap.size, 1, none⟩ = some (.int .i64 Y) := ⟨hB1.p.c0, hB1.p.c1, hB1.p.c2, hB1.q.c0, hB1.q.c1, hB1.q.c2, cell_new rfl rfl, cell_new rfl rfl⟩
          have hFk : ∀ W, Lat (wr.alloc (.cells #[.int .i64 X, .int .i64 Y] 44)).drew W → _ := fun W hW => (⟨hW.cell_at hF.1, hW.cell_at hF.2.1, hW.cell_at hF.2.2.1, hW.cell_at hF.2.2.2.1, hW.cell_at hF.2.2.2.2.1, hW.cell_at hF.2.2.2.2.2.1, hW.cell_at hF.2.2.2.2.2.2.1, hW.cell_at hF.2.2.2.2.2.2.2⟩ : W.cell? ⟨w.heap.size, 0, none⟩ = some (.int .i64 wd) ∧ W.cell? ⟨w.heap.size, 1, none⟩ = some (.int .i64 hg) ∧ W.cell? ⟨w.heap.size, 2, none⟩ = some (.slice a n cap) ∧ W.cell? ⟨w.heap.size + 1, 0, none⟩ = some (.int .i64 wd) ∧ W.cell? ⟨w.heap.size + 1, 1, none⟩ = some (.int .i64 hg) ∧ W.cell? ⟨w.heap.size + 1, 2, none⟩ = some (.slice b n cap2) ∧ W.cell? ⟨wr.heap.size, 0, none⟩ = some (.int .i64 X) ∧ W.cell? ⟨wr.heap.size, 1, none⟩ = some (.int .i64 Y))
          have WLAT := Lib.hid hB1.lat
          have XB : (-6 : Int) ≤ X ∧ X ≤ 6 ∧ (-6 : Int) ≤ Y ∧ Y ≤ 6 := by omega
          have HB1 := Lib.hid hB1
          clear hB1
          refine wp_region_gate (fun w' => w'.cell? ⟨w.heap.size, 0, none⟩ = some (.int .i64 wd) ∧ w'.cell? ⟨w.heap.size, 1, none⟩ = some (.int .i64 hg) ∧ w'.cell? ⟨w.heap.size, 2, none⟩ = some (.slice a n cap) ∧ w'.cell? ⟨w.heap.size + 1, 0, none⟩ = some (.int .i64 wd) ∧ w'.cell? ⟨w.heap.size + 1, 1, none⟩ = some (.int .i64 hg) ∧ w'.cell? ⟨w.heap.size + 1, 2, none⟩ = some (.slice b n cap2) ∧ w'.cell? ⟨wr.heap.size, 0, none⟩ = some (.int .i64 X) ∧ w'.cell? ⟨wr.heap.size, 1, none⟩ = some (.int .i64 Y)) (fun _ => True) 1000 (by kernel_rfl) ?_
          refine gate_takeF (i := 0) (v := ?_) rfl (by kernel_rfl) (by kernel_rfl) (by kernel_rfl) (fun _ _ _ h => h) (by decide) ⟨hF, fun _ => trivial⟩ (Or.inl ⟨by rfl, ?_⟩) ?_
          rotate_left
          · intro wq hSw; obtain ⟨s0, s1, s2, s3, s4, s5, s6, s7⟩ := hSw; go_simp; rfl
          simp only [Act.put]
          refine gate_takeF (i := 1) (v := ?_) rfl (by kernel_rfl) (by kernel_rfl) (by kernel_rfl) (fun _ _ _ h => h) (by decide) ⟨hF, fun _ => trivial⟩ (Or.inl ⟨by rfl, ?_⟩) ?_
          rotate_left
          · intro wq hSw; obtain ⟨s0, s1, s2, s3, s4, s5, s6, s7⟩ := hSw; go_simp; rfl
          simp only [Act.put]
          refine gate_takeF (i := 3) (v := ?_) rfl (by kernel_rfl) (by kernel_rfl) (by kernel_rfl) (fun _ _ _ h => h) (by decide) ⟨hF, fun _ => trivial⟩ (Or.inl ⟨by rfl, ?_⟩) ?_
          rotate_left
          · intro wq hSw; obtain ⟨s0, s1, s2, s3, s4, s5, s6, s7⟩ := hSw; go_simp; rfl
          simp only [Act.put]
          refine gate_one (i := 2) (by kernel_rfl) rfl (fun K hK => ?_)
          go_simp
          refine (HSH.out _ _ _ WLAT.out XB.1 XB.2.1 XB.2.2.1 XB.2.2.2).mono ?_
          rintro e w1 ⟨va, vc, rfl, hat, hb1⟩
          have hF1 := hFk _ hb1
          refine hK _ _ ⟨hF1, fun _ => trivial⟩ ?_
          clear hK K
          refine gate_one (i := 4) (by kernel_rfl) rfl (fun K hK => ?_)
          go_simp
          refine (HFAR.out _ _ _ _ _ hat (Lat.trans WLAT.out hb1)).mono ?_
          rintro e w2 ⟨rfl, hb2⟩
          have hF2 := hFk _ (Lat.trans hb1 hb2)
          refine hK _ _ ⟨hF2, fun _ => trivial⟩ ?_
          clear hK K
          refine gate_takeF (i := 5) (v := ?_) rfl (by kernel_rfl) (by kernel_rfl) (by kernel_rfl) (fun _ _ _ h => h) (by decide) ⟨hF2, fun _ => trivial⟩ (Or.inl ⟨by rfl, ?_⟩) ?_
          rotate_left
          · intro wq hSw; go_simp; rfl
          simp only [Act.put]
          refine gate_done (by kernel_rfl) ?_ _
          rw [← HM1.out]
          have HB2 := Lib.hid (HB1.out.keep (Lat.trans hb1 hb2))
          have m0 : w2.cell? ⟨wr.heap.size, 0, none⟩ = some (.int .i64 X) := hF2.2.2.2.2.2.2.1
          have m1 : w2.cell? ⟨wr.heap.size, 1, none⟩ = some (.int .i64 Y) := hF2.2.2.2.2.2.2.2
          clear hF hFk hF1 hF2 hat hb1 hb2 XB WLAT HB1
          by_cases hlm : M1 < M2
          · have d1 : decide (M1 < M2) = true := decide_eq_true hlm
            have o0 := HB2.out.o0
            have o1 := HB2.out.o1
            have f0 := HB2.out.g0
            have f1 := HB2.out.g1
            have hst : bst wd hg zs ys (3 * k + (j + 1)) = 3 * k + j := by rw [HST.out, if_pos hlm]
            have hset := HB2.out.set X Y
            have HSET := Lib.hid hset
            have HS := Lib.hid hst
            clear hst hlm hset
            go_wp2_with fail
            go_roundw
            case rel => exact ⟨j + 1, by omega, congrArg (Value.int .i64) (by have := HX.out; omega), by rw [HS.out, EX.out, EY.out, HM1.out], by rw [HS.out, EX.out, EY.out]; exact HSET.out⟩
            case measure => simp [intOf]; omega
          · have d1 : decide (M1 < M2) = false := decide_eq_false hlm
            have hst : bst wd hg zs ys (3 * k + (j + 1)) = I := by rw [HST.out, if_neg hlm]
            have HS := Lib.hid hst
            clear hst hlm
            go_wp2_with fail
            go_roundw
            case rel => exact ⟨j + 1, by omega, congrArg (Value.int .i64) (by have := HX.out; omega), by rw [HS.out, HM2.out], by rw [HS.out]; exact HB2.out⟩
            case measure => simp [intOf]; omega
        · have x2 : ¬ X ≤ 1 := by omega
          have e3 : 3 * k + j = 3 * (k + 1) := by omega
          have HI := Lib.hid (show I = bst wd hg zs ys (3 * (k + 1)) by rw [hI, e3])
          have HB0 := Lib.hid hB
          clear hB hI hX hrel
          go_wp2_with fail
          go_roundw
          case rel => exact ⟨k + 1, by omega, congrArg (Value.int .i64) (by have := HY.out; omega), by rw [HI.out], by rw [← HI.out]; exact HB0.out⟩
          case measure => simp [intOf]; omega
    · have y2 : ¬ Y ≤ 1 := by omega
      have e9 : 3 * k = 9 := by omega
      obtain ⟨I, hI⟩ : ∃ I, I = bst wd hg zs ys 9 := ⟨_, rfl⟩
      have hB := hrel.out
      rw [e9, ← hI] at hB
      rw [e9, ← hI]
      have o0 := hB.o0
      have o1 := hB.o1
      have r0 := hB.r0
      have r1 := hB.r1
      have f0 := hB.f0
      have f1 := hB.f1
      obtain ⟨q0, q1⟩ := two_set r0 r1 (.int .i64 (mvX I)) (.int .i64 (mvY I))
      have hl := lat_two hB.lat (show w.heap.size ≤ w.heap.size + 1 + 1 by omega) (.int .i64 (mvX I)) (.int .i64 (mvY I))
      have HI := Lib.hid hI
      have Q0 := Lib.hid q0
      have Q1 := Lib.hid q1
      have HL := Lib.hid hl
      clear hB hrel hI hY q0 q1 hl e9
      go_wp2
      exact bodyPost_ret (v := .agg #[.int .i64 (mvX I), .int .i64 (mvY I)]) (by simp [results, Tryd.results73, go_sem, Q0.out, Q1.out]) rfl ⟨by rw [HI.out], HL.out⟩
end Go.Proofs.YtnnjijdpenifjaaDoor
