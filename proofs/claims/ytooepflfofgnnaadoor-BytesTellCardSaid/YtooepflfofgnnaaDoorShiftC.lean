/- The contracts of picture.Shift. -/
import Derived.Test.YtooepflfofgnnaaDoorShift
namespace Go.Proofs.YtooepflfofgnnaaDoor
open Go.ChangeShapes Go.WideShapes Go.ChangeAt Go.RowKit

def mvB (mx my : Int) : Bool := decide (-6 ≤ mx ∧ mx ≤ 6 ∧ -6 ≤ my ∧ my ≤ 6)
def shE (wd hg : Int) (zs : List Int) (mx my : Int) : Nat := if chkPic wd hg zs ≠ 0 then chkPic wd hg zs else if mvB mx my = false then 1 else 0
theorem shE_zero {wd hg : Int} {zs : List Int} {mx my : Int} (h : shE wd hg zs mx my = 0) : chkPic wd hg zs = 0 ∧ -6 ≤ mx ∧ mx ≤ 6 ∧ -6 ≤ my ∧ my ≤ 6 := by
  unfold shE at h
  split at h
  · rename_i h1; exact absurd h h1
  · rename_i h1
    split at h
    · omega
    · rename_i h2
      have h3 : mvB mx my = true := by cases hq : mvB mx my <;> simp_all
      simp only [mvB, decide_eq_true_eq] at h3
      omega
theorem shE_of {wd hg : Int} {zs : List Int} {mx my : Int} (h : chkPic wd hg zs = 0) (h1 : -6 ≤ mx) (h2 : mx ≤ 6) (h3 : -6 ≤ my) (h4 : my ≤ 6) : shE wd hg zs mx my = 0 := by
  unfold shE
  have : mvB mx my = true := decide_eq_true ⟨h1, h2, h3, h4⟩
  rw [if_neg (by omega), if_neg (by simp [this])]
/-- What stands behind the boxing. -/
structure ShW (w W : World) (wd hg : Int) (a : Option Addr) (n cap : Nat) (mx my : Int) : Prop where
  lat : Lat w W
  p : Cells3 W w.heap.size 0 (.int .i64 wd) (.int .i64 hg) (.slice a n cap)
  m0 : W.cell? ⟨w.heap.size + 1, 0, none⟩ = some (.int .i64 mx)
  m1 : W.cell? ⟨w.heap.size + 1, 1, none⟩ = some (.int .i64 my)
  r : Cells3 W (w.heap.size + 1 + 1) 0 (.int .i64 0) (.int .i64 0) (.slice none 0 0)
  rf0 : W.frozen? ⟨w.heap.size + 1 + 1, 0, none⟩ = false
  rf1 : W.frozen? ⟨w.heap.size + 1 + 1, 1, none⟩ = false
  rf2 : W.frozen? ⟨w.heap.size + 1 + 1, 2, none⟩ = false
  sz : w.heap.size + 1 + 1 < W.heap.size
theorem ShW.keep {w W W1 : World} {wd hg : Int} {a : Option Addr} {n cap : Nat} {mx my : Int} (h : ShW w W wd hg a n cap mx my) (hb : Lat W W1) : ShW w W1 wd hg a n cap mx my :=
  ⟨Lat.trans h.lat hb, h.p.keep hb, hb.cell_at h.m0, hb.cell_at h.m1, h.r.keep hb, hb.free_at h.sz h.rf0, hb.free_at h.sz h.rf1, hb.free_at h.sz h.rf2, Nat.lt_of_lt_of_le h.sz hb.size⟩
theorem sh_open (w : World) (wd hg : Int) (a : Option Addr) (n cap : Nat) (mx my : Int) : ShW w (((w.alloc (.cells #[.int .i64 wd, .int .i64 hg, .slice a n cap] 132)).alloc (.cells #[.int .i64 mx, .int .i64 my] 108)).alloc (.cells #[.int .i64 0, .int .i64 0, .slice none 0 0] 132)) wd hg a n cap mx my := by
  have l3 := Lat.alloc ((w.alloc (.cells #[.int .i64 wd, .int .i64 hg, .slice a n cap] 132)).alloc (.cells #[.int .i64 mx, .int .i64 my] 108)) (.cells #[.int .i64 0, .int .i64 0, .slice none 0 0] 132)
  have l2 := Lat.alloc (w.alloc (.cells #[.int .i64 wd, .int .i64 hg, .slice a n cap] 132)) (.cells #[.int .i64 mx, .int .i64 my] 108)
  have l1 := Lat.alloc w (.cells #[.int .i64 wd, .int .i64 hg, .slice a n cap] 132)
  exact ⟨Lat.trans l1 (Lat.trans l2 l3), (cells3_new rfl rfl rfl rfl).keep (Lat.trans l2 l3), l3.cell_at (cell_new (by simp) rfl), l3.cell_at (cell_new (by simp) rfl), cells3_new (by simp) rfl rfl rfl,
    free_new (by simp), free_new (by simp), free_new (by simp), by simp⟩
end Go.Proofs.YtooepflfofgnnaaDoor
