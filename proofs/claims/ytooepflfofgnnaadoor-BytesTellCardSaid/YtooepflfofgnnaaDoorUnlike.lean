/- The contracts of picture.Unlike; dropsame.Ints, dropsame.Picture, whatever they answer. -/
import Derived.Test.YtooepflfofgnnaaDoorPic2
namespace Go.Proofs.YtooepflfofgnnaaDoor
open Go.ChangeShapes Go.WideShapes Go.ChangeAt Go.RowKit

def sameI (zs ys : List Int) : Bool := decide (zs = ys)
theorem sameI_len {zs ys : List Int} (h : zs.length ≠ ys.length) : sameI zs ys = false := decide_eq_false fun e => h (by rw [e])
theorem sameI_at {zs ys : List Int} {k : Nat} (h : zs.getD k 0 ≠ ys.getD k 0) : sameI zs ys = false := decide_eq_false fun e => h (by rw [e])
set_option maxHeartbeats 400000 in
theorem sameInts_any (a : Option Addr) (n cap : Nat) (zs : List Int) (b : Option Addr) (m cap2 : Nat) (ys : List Int) (w : World) (h : IntsAt w a n cap zs) (h2 : IntsAt w b m cap2 ys) :
    Calls Tryd.prog 13 #[.slice a n cap, .slice b m cap2] w fun e w' => e = .returned (.bool (sameI zs ys)) ∧ Lat w w' := by
  have hcap2 := h.row.cap
  have hle2 := h.row.le
  have hl := h.len
  have hl2 := h2.len
  unfold maxLen at hcap2
  have H1 := Lib.hid h
  have H2 := Lib.hid h2
  by_cases hnm : n = m
  case neg =>
    have dn : ((n : Int) != (m : Int)) = true := by rw [bne_iff_ne]; omega
    have hf := sameI_len (zs := zs) (ys := ys) (by omega)
    rw [hf]
    clear h h2 hl hl2 hf hnm
    go_enter Tryd.func13, Tryd.ntmps13
    go_wp2
    go_ret
    exact ⟨rfl, Lat.refl _⟩
  subst hnm
  have dn : ((n : Int) != (n : Int)) = false := by simp
  obtain ⟨Y, hY⟩ : ∃ Y, Y = sameI zs ys := ⟨_, rfl⟩
  rw [← hY]
  have HY := Lib.hid hY
  have HL := Lib.hid hl
  have HL2 := Lib.hid hl2
  clear h h2 hY hl hl2
  go_enter Tryd.func13, Tryd.ntmps13
  go_wp2
  go_loopw [5] (fun i wr => ∃ k : Nat, k ≤ n ∧ i = .int .i64 k ∧ Hid (Lat w wr ∧ ∀ j, j < k → zs.getD j 0 = ys.getD j 0)) (fun i _ => n - (intOf i).toNat)
  case atStart => exact ⟨0, Nat.zero_le _, rfl, Lat.refl _, fun j hj => absurd hj (Nat.not_lt_zero _)⟩
  case round =>
    obtain ⟨k, hk, rfl, hrel⟩ := hrel
    by_cases hlt : k < n
    · obtain ⟨b1, o1, rfl, hc1⟩ := H1.out.row.at_ (by omega)
      obtain ⟨b2, o2, rfl, hc2⟩ := H2.out.row.at_ (by omega)
      have c1 := hrel.out.1.cell_at (hc1 k hlt)
      have c2 := hrel.out.1.cell_at (hc2 k hlt)
      obtain ⟨z, hz⟩ : ∃ z, z = zs.getD k 0 := ⟨_, rfl⟩
      obtain ⟨y, hy⟩ : ∃ z, z = ys.getD k 0 := ⟨_, rfl⟩
      rw [← hz] at c1
      rw [← hy] at c2
      have HZ := Lib.hid hz
      have HW := Lib.hid hy
      clear hc1 hc2 hz hy
      by_cases he : z = y
      · have d1 : (z != y) = false := by simp [he]
        have HE := Lib.hid he
        clear he
        go_wp2
        go_quiet (fail)
        go_wp2
        go_roundw
        case rel => exact ⟨k + 1, by omega, by go_num, Lat.trans hrel.out.1 (Lat.drewN _ _), fun j hj => by
          by_cases e : j = k
          · subst e; rw [← HZ.out, ← HW.out]; exact HE.out
          · exact hrel.out.2 j (by omega)⟩
        case measure => simp [intOf]; omega
      · have d1 : (z != y) = true := by rw [bne_iff_ne]; exact he
        have hf : Y = false := by rw [HY.out]; exact sameI_at (k := k) (by rw [← HZ.out, ← HW.out]; exact he)
        have HF := Lib.hid hf
        clear he hf
        go_wp2
        go_quiet (fail)
        go_wp2
        go_ret
        exact ⟨by rw [HF.out]; rfl, Lat.trans hrel.out.1 (Lat.drewN _ _)⟩
    · obtain rfl : k = n := by omega
      have hf : Y = true := by rw [HY.out]; exact decide_eq_true (getD_ext (by rw [HL.out, HL2.out]) fun j hj => hrel.out.2 j (by rw [← HL.out]; exact hj))
      have HF := Lib.hid hf
      clear hf
      go_wp2
      go_ret
      exact ⟨by rw [HF.out]; rfl, hrel.out.1⟩

def sameP (wd hg : Int) (zs : List Int) (wd2 hg2 : Int) (ys : List Int) : Bool := decide (wd = wd2 ∧ hg = hg2 ∧ zs = ys)
end Go.Proofs.YtooepflfofgnnaaDoor
