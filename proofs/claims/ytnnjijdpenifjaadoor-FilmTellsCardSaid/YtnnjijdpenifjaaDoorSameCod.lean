/- The contract of dropsame.Coded. -/
import Derived.Test.YtnnjijdpenifjaaDoorUnlike
import Derived.Test.YtnnjijdpenifjaaDoorMovedEnc
namespace Go.Proofs.YtnnjijdpenifjaaDoor
open Go.ChangeShapes Go.WideShapes Go.ChangeAt Go.RowKit

def sameC (al : Bool) (x y : Int) (zs : List Int) (al2 : Bool) (x2 y2 : Int) (ys : List Int) : Bool := decide (al = al2 ∧ x = x2 ∧ y = y2 ∧ zs = ys)
set_option maxHeartbeats 1000000 in
theorem sameCod_any (al : Bool) (x y : Int) (a : Option Addr) (n cap : Nat) (zs : List Int) (al2 : Bool) (x2 y2 : Int) (b : Option Addr) (m cap2 : Nat) (ys : List Int) (w : World) (h : IntsAt w a n cap zs) (h2 : IntsAt w b m cap2 ys) :
    Calls Tryd.prog 36 #[codV al x y a n cap, codV al2 x2 y2 b m cap2] w fun e w' => e = .returned (.bool (sameC al x y zs al2 x2 y2 ys)) ∧ Lat w w' := by
  obtain ⟨W0, hW0⟩ : ∃ W, W = (w.alloc (.cells #[.bool al, .int .i64 x, .int .i64 y, .slice a n cap] 53)).alloc (.cells #[.bool al2, .int .i64 x2, .int .i64 y2, .slice b m cap2] 53) := ⟨_, rfl⟩
  have hl0 : Lat w W0 := by rw [hW0]; exact Lat.trans (Lat.alloc _ _) (Lat.alloc _ _)
  have hp : Cells4 W0 w.heap.size (.bool al) (.int .i64 x) (.int .i64 y) (.slice a n cap) := by rw [hW0]; exact (cells4_new rfl rfl rfl rfl rfl).keep (Lat.alloc _ _)
  have hq : Cells4 W0 (w.heap.size + 1) (.bool al2) (.int .i64 x2) (.int .i64 y2) (.slice b m cap2) := by rw [hW0]; exact cells4_new (by simp) rfl rfl rfl rfl
  have hc := sameInts_any a n cap zs b m cap2 ys W0 (h.keep hl0) (h2.keep hl0)
  have HC := Lib.hid hc
  have HL0 := Lib.hid hl0
  have p0 := hp.c0
  have p1 := hp.c1
  have p2 := hp.c2
  have p3 := hp.c3
  have q0 := hq.c0
  have q1 := hq.c1
  have q2 := hq.c2
  have q3 := hq.c3
  have hd : ((al == al2) = false ∧ sameC al x y zs al2 x2 y2 ys = false) ∨ ((al == al2) = true ∧ (x == x2) = false ∧ sameC al x y zs al2 x2 y2 ys = false) ∨ ((al == al2) = true ∧ (x == x2) = true ∧ (y == y2) = false ∧ sameC al x y zs al2 x2 y2 ys = false) ∨
      ((al == al2) = true ∧ (x == x2) = true ∧ (y == y2) = true ∧ sameC al x y zs al2 x2 y2 ys = sameI zs ys) := by
    by_cases e1 : al = al2
    · by_cases e2 : x = x2
      · by_cases e3 : y = y2
        · exact .inr (.inr (.inr ⟨by simp [e1], by simp [e2], by simp [e3], by simp [sameC, sameI, e1, e2, e3]⟩))
        · exact .inr (.inr (.inl ⟨by simp [e1], by simp [e2], by simp [e3], by simp [sameC, e3]⟩))
      · exact .inr (.inl ⟨by simp [e1], by simp [e2], by simp [sameC, e2]⟩)
    · exact .inl ⟨by simp [e1], by simp [sameC, e1]⟩
  clear h h2 hl0 hp hq hc
  rcases hd with ⟨d1, d2⟩ | ⟨d1, d2, d3⟩ | ⟨d1, d2, d3, d4⟩ | ⟨d1, d2, d3, d4⟩
  · rw [d2]
    clear d2
    go_enter Tryd.func36, Tryd.ntmps36
    go_upto_region 1 with fail
    rw [← hW0]
    clear hW0
    go_wp2
    go_ret
    exact ⟨rfl, HL0.out⟩
  · rw [d3]
    clear d3
    go_enter Tryd.func36, Tryd.ntmps36
    go_upto_region 1 with fail
    rw [← hW0]
    clear hW0
    go_wp2
    go_ret
    exact ⟨rfl, HL0.out⟩
  · rw [d4]
    clear d4
    go_enter Tryd.func36, Tryd.ntmps36
    go_upto_region 1 with fail
    rw [← hW0]
    clear hW0
    go_wp2
    go_ret
    exact ⟨rfl, HL0.out⟩
  · rw [d4]
    clear d4
    go_enter Tryd.func36, Tryd.ntmps36
    go_upto_region 1 with fail
    rw [← hW0]
    clear hW0
    go_wp2_with fail
    refine HC.out.mono ?_
    rintro e w1 ⟨rfl, hb1⟩
    go_wp2
    go_ret
    exact ⟨rfl, Lat.trans HL0.out hb1⟩
end Go.Proofs.YtnnjijdpenifjaaDoor
