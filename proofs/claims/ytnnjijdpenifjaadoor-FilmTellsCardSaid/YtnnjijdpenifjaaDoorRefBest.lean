/- The contract of dropref2.Best. -/
import Derived.Test.YtnnjijdpenifjaaDoorRefShift
import Derived.Test.YtnnjijdpenifjaaDoorMoved
namespace Go.Proofs.YtnnjijdpenifjaaDoor
open Go.ChangeShapes Go.WideShapes Go.ChangeAt Go.RowKit

/-- how far the k-th is, and what is kept ahead of it -/
def RB (wd hg : Nat) (zs ys : List Int) (k : Nat) (B X Y : Int) : Prop :=
  (k = 0 ∧ B = -1 ∧ X = 0 ∧ Y = 0) ∨ (k ≠ 0 ∧ B = mfar wd hg zs ys (mvX (bst wd hg zs ys k)) (mvY (bst wd hg zs ys k)) ∧ X = mvX (bst wd hg zs ys k) ∧ Y = mvY (bst wd hg zs ys k))
theorem RB.take {wd hg : Nat} {zs ys : List Int} {k : Nat} {B X Y : Int} (h : RB wd hg zs ys k B X Y) (hn : B < 0 ∨ mfar wd hg zs ys (mvX k) (mvY k) < B) : RB wd hg zs ys (k + 1) (mfar wd hg zs ys (mvX k) (mvY k)) (mvX k) (mvY k) := by
  right
  rcases h with ⟨rfl, rfl, rfl, rfl⟩ | ⟨h0, rfl, rfl, rfl⟩
  · have e : bst wd hg zs ys (0 + 1) = 0 := by rw [bst, bst]; split <;> rfl
    rw [e]
    exact ⟨by omega, rfl, rfl, rfl⟩
  · have hnn := farS_nonneg (shf wd hg zs (mvX (bst wd hg zs ys k)) (mvY (bst wd hg zs ys k)) zs.length) ys zs.length
    have hlt : mfar wd hg zs ys (mvX k) (mvY k) < mfar wd hg zs ys (mvX (bst wd hg zs ys k)) (mvY (bst wd hg zs ys k)) := by
      rcases hn with h | h
      · unfold mfar at h; omega
      · exact h
    have e : bst wd hg zs ys (k + 1) = k := by rw [bst, if_pos hlt]
    rw [e]
    exact ⟨by omega, rfl, rfl, rfl⟩
theorem RB.leave {wd hg : Nat} {zs ys : List Int} {k : Nat} {B X Y : Int} (h : RB wd hg zs ys k B X Y) (h1 : ¬ B < 0) (h2 : ¬ mfar wd hg zs ys (mvX k) (mvY k) < B) : RB wd hg zs ys (k + 1) B X Y := by
  right
  rcases h with ⟨rfl, rfl, rfl, rfl⟩ | ⟨h0, rfl, rfl, rfl⟩
  · omega
  · have e : bst wd hg zs ys (k + 1) = bst wd hg zs ys k := by rw [bst, if_neg h2]
    rw [e]
    exact ⟨by omega, rfl, rfl, rfl⟩

set_option maxHeartbeats 8000000 in
set_option maxRecDepth 100000 in
theorem refBest (wd hg : Nat) (a : Option Addr) (n cap : Nat) (zs : List Int) (b : Option Addr) (cap2 : Nat) (ys : List Int) (w : World) (h : IntsAt w a n cap zs) (h2 : IntsAt w b n cap2 ys) (hn : wd * hg = n)
    (w1 : 1 ≤ wd) (w6 : wd ≤ 6) (g1 : 1 ≤ hg) (g6 : hg ≤ 6) (p1 : ∀ z ∈ zs, 0 ≤ z ∧ z ≤ 255) (p2 : ∀ z ∈ ys, 0 ≤ z ∧ z ≤ 255) :
    Calls Tryd.prog 34 #[picV wd hg a n cap, picV wd hg b n cap2] w fun e w' => e = .returned (.agg #[.int .i64 (mvX (bst wd hg zs ys 9)), .int .i64 (mvY (bst wd hg zs ys 9))]) ∧ Lat w w' := by
  have hn36 : n ≤ 36 := by rw [← hn]; exact Nat.mul_le_mul w6 g6
  have hlz := h.len
  have hsh : ∀ (mx my : Int) (W : World), Lat w W → -6 ≤ mx → mx ≤ 6 → -6 ≤ my → my ≤ 6 → Calls Tryd.prog 25 #[picV wd hg a n cap, .agg #[.int .i64 mx, .int .i64 my]] W fun e w' =>
      ∃ va vc, e = .returned (picV wd hg va n vc) ∧ IntsAt w' va n vc (shf wd hg zs mx my n) ∧ Lat W w' := fun mx my W hW x1 x2 y1 y2 => (refShift wd hg a n cap zs mx my W (h.keep hW) hn w1 w6 g1 g6 x1 x2 y1 y2 p1).mono fun _ _ ⟨va, vc, q1, q2, _, q3⟩ => ⟨va, vc, q1, q2, q3⟩
  have HSH := Lib.hid hsh
  have H2 := Lib.hid h2
  have P1 := Lib.hid p1
  have P2 := Lib.hid p2
  have HLZ := Lib.hid hlz
  clear hsh h h2 hlz p1 p2
  obtain ⟨W0, hW0⟩ : ∃ W, W = (((w.alloc (.cells #[.int .i64 wd, .int .i64 hg, .slice a n cap] 24)).alloc (.cells #[.int .i64 wd, .int .i64 hg, .slice b n cap2] 24)).alloc (.cells #[.int .i64 0, .int .i64 0] 44)).alloc (.cells #[.int .i64 0, .int .i64 0] 44) := ⟨_, rfl⟩
  have hBW : BW w W0 wd hg a n cap b cap2 0 0 := by
    rw [hW0]
    have l4 := Lat.alloc (((w.alloc (.cells #[.int .i64 wd, .int .i64 hg, .slice a n cap] 24)).alloc (.cells #[.int .i64 wd, .int .i64 hg, .slice b n cap2] 24)).alloc (.cells #[.int .i64 0, .int .i64 0] 44)) (.cells #[.int .i64 0, .int .i64 0] 44)
    have l3 := Lat.alloc ((w.alloc (.cells #[.int .i64 wd, .int .i64 hg, .slice a n cap] 24)).alloc (.cells #[.int .i64 wd, .int .i64 hg, .slice b n cap2] 24)) (.cells #[.int .i64 0, .int .i64 0] 44)
    have l2 := Lat.alloc (w.alloc (.cells #[.int .i64 wd, .int .i64 hg, .slice a n cap] 24)) (.cells #[.int .i64 wd, .int .i64 hg, .slice b n cap2] 24)
    have l1 := Lat.alloc w (.cells #[.int .i64 wd, .int .i64 hg, .slice a n cap] 24)
    exact ⟨Lat.trans l1 (Lat.trans l2 (Lat.trans l3 l4)), (cells3_new rfl rfl rfl rfl).keep (Lat.trans l2 (Lat.trans l3 l4)), (cells3_new (by simp) rfl rfl rfl).keep (Lat.trans l3 l4), l4.cell_at (cell_new (by simp) rfl), l4.cell_at (cell_new (by simp) rfl),
      l4.free_at (by simp) (free_new (by simp)), l4.free_at (by simp) (free_new (by simp)), cell_new (by simp) rfl, cell_new (by simp) rfl, free_new (by simp), free_new (by simp), by simp⟩
  have HBW := Lib.hid hBW
  clear hBW
  go_enter Tryd.func34, Tryd.ntmps34
  go_upto_region 2 with fail
  rw [← hW0]
  clear hW0
  go_wp2_with fail
  go_loopw [6, 7] (fun l i wr => ∃ k : Nat, k ≤ 9 ∧ i = .int .i64 k ∧ ∃ B X Y : Int, l = .int .i64 B ∧ Hid (RB wd hg zs ys k B X Y ∧ BW w wr wd hg a n cap b cap2 X Y)) (fun _ i _ => 9 - (intOf i).toNat)
  case atStart => exact ⟨0, by omega, rfl, -1, 0, 0, rfl, .inl ⟨rfl, rfl, rfl, rfl⟩, HBW.out⟩
  case round =>
    obtain ⟨k, hk, rfl, B, X, Y, rfl, hrel⟩ := hrel
    obtain ⟨hRB, hB⟩ := hrel.out
    by_cases hlt : k < 9
    · have hmv := mv_bd k hlt
      obtain ⟨M1, hM1⟩ : ∃ M, M = mfar wd hg zs ys (mvX k) (mvY k) := ⟨_, rfl⟩
      obtain ⟨x, hx⟩ : ∃ x, x = mvX k := ⟨_, rfl⟩
      obtain ⟨y, hy⟩ : ∃ y, y = mvY k := ⟨_, rfl⟩
      have htk := RB.take hRB
      have hlv := RB.leave hRB
      rw [← hM1] at htk hlv
      rw [← hx, ← hy] at htk hmv hM1
      obtain ⟨m1, m2, m3, m4⟩ := hmv
      have ex : (k : Int) % 3 - 1 = x := by rw [hx]; unfold mvX; omega
      have ey : (k : Int) / 3 - 1 = y := by rw [hy]; unfold mvY; omega
      have hk9 : (k : Int) < 9 := by omega
      have HTK := Lib.hid htk
      have HLV := Lib.hid hlv
      have HM1 := Lib.hid hM1
      have HB0 := Lib.hid hB
      have p0 := hB.p.c0
      have p1 := hB.p.c1
      have p2 := hB.p.c2
      have hw0 : w.heap.size < wr.heap.size := World.block_lt_of_cell? _ _ p0
      clear hM1 hx hy hRB hB hrel htk hlv
      go_wp2_with fail
      refine (HSH.out x y _ (Lat.trans HB0.out.lat (Lat.alloc _ _)) (by omega) (by omega) (by omega) (by omega)).mono ?_
      rintro e w2 ⟨va, vc, rfl, hat, hb2⟩
      clear p0 p1 p2
      obtain ⟨S, hS⟩ : ∃ S, S = shf wd hg zs x y n := ⟨_, rfl⟩
      rw [← hS] at hat
      have pS : ∀ z ∈ S, 0 ≤ z ∧ z ≤ 255 := by rw [hS]; exact shf_mem P1.out
      have hMS : M1 = farS S ys n := by rw [HM1.out, hS]; unfold mfar; rw [HLZ.out]
      obtain ⟨W3, hW3⟩ : ∃ W, W = w2.alloc (.cells #[.int .i64 wd, .int .i64 hg, .slice va n vc] 24) := ⟨_, rfl⟩
      have hl3 : Lat w2 W3 := by rw [hW3]; exact Lat.alloc _ _
      have hsp : W3.cell? ⟨w2.heap.size, 2, none⟩ = some (.slice va n vc) := by rw [hW3]; exact cell_new rfl rfl
      have hxm : Lat (wr.alloc (.cells #[.int .i64 x, .int .i64 y] 44)) W3 := Lat.trans hb2 hl3
      have HB3 := Lib.hid ((HB0.out.keep (Lat.alloc _ _)).keep hxm)
      have X0 := Lib.hid (hxm.cell_at (cell_new rfl rfl : (wr.alloc (.cells #[.int .i64 x, .int .i64 y] 44)).cell? ⟨wr.heap.size, 0, none⟩ = some (.int .i64 x)))
      have X1 := Lib.hid (hxm.cell_at (cell_new rfl rfl : (wr.alloc (.cells #[.int .i64 x, .int .i64 y] 44)).cell? ⟨wr.heap.size, 1, none⟩ = some (.int .i64 y)))
      have SP := Lib.hid hsp
      have SAT := Lib.hid (hat.keep hl3)
      have PS := Lib.hid pS
      have HMS := Lib.hid hMS
      clear hS hat hb2 pS hMS hl3 hsp hxm HB0
      go_upto_region 8 with fail
      rw [← hW3]
      clear hW3
      go_wp2_with fail
      go_loopw [10, 11] (fun v i wx => ∃ j : Nat, j ≤ n ∧ i = .int .i64 j ∧ v = .int .i64 (farS S ys j) ∧ Hid (Lat W3 wx)) (fun _ i _ => n - (intOf i).toNat)
      case atStart => exact ⟨0, Nat.zero_le _, rfl, rfl, Lat.refl _⟩
      case round =>
        obtain ⟨j, hj, rfl, rfl, hrl⟩ := hrel
        have c3 := hrl.out.cell_at HB3.out.q.c2
        by_cases hlt2 : j < n
        · have hz := getD_pix PS.out j
          have hyy := getD_pix P2.out j
          have hu := farS_le PS.out P2.out j
          have hu0 := farS_nonneg S ys j
          obtain ⟨b1, o1, rfl, hc1⟩ := (SAT.out.keep hrl.out).row.at_ (by omega)
          obtain ⟨b2, o2, rfl, hc2⟩ := (H2.out.keep (Lat.trans HB3.out.lat hrl.out)).row.at_ (by omega)
          have c1 := hc1 j hlt2
          have c2 := hc2 j hlt2
          have c4 := hrl.out.cell_at SP.out
          have hst : farS S ys (j + 1) = farS S ys j + apt (S.getD j 0) (ys.getD j 0) := rfl
          obtain ⟨z, hzd⟩ : ∃ z, z = S.getD j 0 := ⟨_, rfl⟩
          obtain ⟨u, hud⟩ : ∃ z, z = ys.getD j 0 := ⟨_, rfl⟩
          obtain ⟨U, hU⟩ : ∃ z, z = farS S ys j := ⟨_, rfl⟩
          rw [← hzd] at c1 hz hst
          rw [← hud] at c2 hyy hst
          rw [← hU] at hu hst hu0
          rw [← hU]
          have HST := Lib.hid hst
          have ha : 0 ≤ apt z u ∧ apt z u ≤ 255 := by unfold apt; omega
          obtain ⟨D, hD⟩ : ∃ d, d = apt z u := ⟨_, rfl⟩
          rw [← hD] at ha
          have HD := Lib.hid hD
          have hap : ∀ W, Calls Tryd.prog 28 #[.int .i64 z, .int .i64 u] W fun e w' => e = .returned (.int .i64 D) ∧ W = w' := fun W => by rw [hD]; exact refApart z u W (by omega) (by omega) (by omega) (by omega)
          have HAP := Lib.hid hap
          have e1 : IntKind.i64.wrap (U + D) = U + D := IntWalk.i64_in _ (by omega)
          have i1 : (0 : Int) ≤ (j : Int) := by omega
          have i2 : (j : Int) < (n : Int) := by omega
          clear hc1 hc2 hzd hud hst hU hD hap
          go_wp2_with fail
          go_quiet ((go_at_call 28; exact quiet_left (HAP.out _)))
          go_wp2
          go_roundw
          case rel => exact ⟨j + 1, by omega, by go_num, by rw [HST.out, ← HD.out], Lat.trans hrl.out (Lat.drewN _ _)⟩
          case measure => simp [intOf]; omega
        · obtain rfl : j = n := by omega
          rw [← HMS.out]
          have HB4 := Lib.hid (HB3.out.keep hrl.out)
          have x0 := hrl.out.cell_at X0.out
          have x1 := hrl.out.cell_at X1.out
          have o0 := HB4.out.o0
          have o1 := HB4.out.o1
          have f0 := HB4.out.g0
          have f1 := HB4.out.g1
          have HSET := Lib.hid (HB4.out.set x y)
          clear hrl
          by_cases hb0 : B < 0
          · have d1 : decide (B < 0) = true := decide_eq_true hb0
            have HR := Lib.hid (HTK.out (.inl hb0))
            clear hb0
            go_wp2
            go_roundw
            case rel => exact ⟨k + 1, by omega, by go_num, _, _, _, rfl, HR.out, HSET.out⟩
            case measure => simp [intOf]; omega
          · have d1 : decide (B < 0) = false := decide_eq_false hb0
            by_cases hb1 : M1 < B
            · have d2 : decide (M1 < B) = true := decide_eq_true hb1
              have HR := Lib.hid (HTK.out (.inr hb1))
              clear hb0 hb1
              go_wp2
              go_roundw
              case rel => exact ⟨k + 1, by omega, by go_num, _, _, _, rfl, HR.out, HSET.out⟩
              case measure => simp [intOf]; omega
            · have d2 : decide (M1 < B) = false := decide_eq_false hb1
              have HR := Lib.hid (HLV.out (by omega) (by omega))
              clear hb0 hb1
              go_wp2
              go_roundw
              case rel => exact ⟨k + 1, by omega, by go_num, _, _, _, rfl, HR.out, HB4.out⟩
              case measure => simp [intOf]; omega
    · obtain rfl : k = 9 := by omega
      rcases hRB with ⟨h0, _⟩ | ⟨_, _, ex, ey⟩
      · omega
      have o0 := hB.o0
      have o1 := hB.o1
      have r0 := hB.r0
      have r1 := hB.r1
      have f0 := hB.f0
      have f1 := hB.f1
      have Q := Lib.hid (two_set r0 r1 (.int .i64 X) (.int .i64 Y))
      have HL := Lib.hid (lat_two hB.lat (show w.heap.size ≤ w.heap.size + 1 + 1 by omega) (.int .i64 X) (.int .i64 Y))
      have EX := Lib.hid ex
      have EY := Lib.hid ey
      clear hB hrel ex ey
      go_wp2
      exact bodyPost_ret (v := .agg #[.int .i64 X, .int .i64 Y]) (by simp [results, Tryd.results34, go_sem, Q.out.1, Q.out.2]) rfl ⟨by rw [EX.out, EY.out], HL.out⟩
end Go.Proofs.YtnnjijdpenifjaaDoor
