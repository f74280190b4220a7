/- The walk of DropTells: it returns true, whatever is handed in. -/
import Derived.Test.YtooepflfofgnnaaDoorDropAny
import Derived.Test.YtooepflfofgnnaaDoorRefSet
import Derived.Test.YtooepflfofgnnaaDoorSame
import Derived.Test.YtooepflfofgnnaaDoorSameInts
import Derived.Test.YtooepflfofgnnaaDoorOpenDrop
import Derived.Deep.DeepCutAuto
import Derived.Deep.CutBlock
namespace Go.Proofs.YtooepflfofgnnaaDoor
open Go.ChangeShapes Go.WideShapes Go.ChangeAt Go.RowKit

/-- Behind the boxing of the drop that came in. -/
structure DB (w : World) (sd : Int) (dd : ByteArray) (wx : World) : Prop where
  lat : Lat w wx
  lt : w.heap.size < wx.heap.size
  c0 : wx.cell? ⟨w.heap.size, 0, none⟩ = some (.int .i64 sd)
  c1 : wx.cell? ⟨w.heap.size, 1, none⟩ = some (.string dd)
theorem DB.keep {w wx wy : World} {sd : Int} {dd : ByteArray} (h : DB w sd dd wx) (hb : Lat wx wy) : DB w sd dd wy := ⟨h.lat.trans hb, Nat.lt_of_lt_of_le h.lt hb.size, hb.cell_at h.c0, hb.cell_at h.c1⟩

/-- Behind the making of the drop that is to be told. -/
structure MB (w : World) (sd : Int) (dd : ByteArray) (wx : World) : Prop where
  lat : Lat w wx
  lt : w.heap.size < wx.heap.size
  c0 : wx.cell? ⟨w.heap.size, 0, none⟩ = some (.int .i64 sd)
  c1 : wx.cell? ⟨w.heap.size, 1, none⟩ = some (.string dd)
theorem MB.keep {w wx wy : World} {sd : Int} {dd : ByteArray} (h : MB w sd dd wx) (hb : Lat wx wy) : MB w sd dd wy := ⟨h.lat.trans hb, Nat.lt_of_lt_of_le h.lt hb.size, hb.cell_at h.c0, hb.cell_at h.c1⟩

set_option maxHeartbeats 4000000 in
set_option maxRecDepth 100000 in
theorem walk_dropTells (k seed : Int) (a1 : Option Addr) (n c1 : Nat) (ss : List ByteArray) (sz : Int) (sd : Int) (dd : ByteArray) (w : World) (hg : Hnd w) (_ : (Lit.int .i64 k).wf = true) (_ : (Lit.int .i64 seed).wf = true)
    (h1 : StrsAt w a1 n c1 ss) (_ : (Lit.int .i64 sz).wf = true) (_ : DropAt sd dd) :
    Calls Tryd.prog 3 #[.int .i64 k, .int .i64 seed, .slice a1 n c1, .int .i64 sz, dropV sd dd] w fun e w' => e = .returned (.bool true) ∧ Lat w w' := by
  have hl := h1.len
  have hcapn := h1.row.cap
  have hlen := h1.row.le
  unfold maxLen at hcapn
  obtain ⟨T1, hT1⟩ : ∃ x : Bool, x = decide (k < 1 ∨ 16 < k ∨ seed < 1 ∨ 10000 < seed) := ⟨_, rfl⟩
  obtain ⟨E1, hE1⟩ : ∃ x, x = dsetE k seed := ⟨_, rfl⟩
  obtain ⟨LW, hLW⟩ : ∃ x, x = dsetR k seed := ⟨_, rfl⟩
  obtain ⟨m, hm⟩ : ∃ x, x = LW.length := ⟨_, rfl⟩
  obtain ⟨E2, hE2⟩ : ∃ x, x = dmkE ss seed := ⟨_, rfl⟩
  obtain ⟨MS, hMS⟩ : ∃ x, x = dmkS ss seed := ⟨_, rfl⟩
  obtain ⟨MD, hMD⟩ : ∃ x, x = dmkD ss seed := ⟨_, rfl⟩
  obtain ⟨E3, hE3⟩ : ∃ x, x = drpE k sz sd dd := ⟨_, rfl⟩
  obtain ⟨CK, hCK⟩ : ∃ x, x = chk ss := ⟨_, rfl⟩
  have hset := fun W => set_tells k seed W
  rw [← hE1, ← hLW, ← hm] at hset
  have hmake := fun W h => make_tells a1 n c1 ss seed W h
  rw [← hE2, ← hMS, ← hMD] at hmake
  have hdchk := fun W => dchk_tells k sz sd dd W
  rw [← hE3] at hdchk
  have hrdrop := fun W => refDrop k sz sd dd W
  rw [← hE3] at hrdrop
  have hrblk := fun W h => refBlocks a1 n c1 ss W h
  rw [← hCK] at hrblk
  have hdb : DB w sd dd (w.alloc (.cells #[.int .i64 sd, .string dd] 24)) := ⟨Lat.alloc _ _, by simp, by simp, by simp⟩
  have HG := Lib.hid hg
  have H1 := Lib.hid h1
  have HL := Lib.hid hl
  have HT1 := Lib.hid hT1
  have HE1 := Lib.hid hE1
  have HLW := Lib.hid hLW
  have HM := Lib.hid hm
  have HE2 := Lib.hid hE2
  have HMS := Lib.hid hMS
  have HMD := Lib.hid hMD
  have HCK := Lib.hid hCK
  have HSET := Lib.hid hset
  have HMAKE := Lib.hid hmake
  have HDCHK := Lib.hid hdchk
  have HRDROP := Lib.hid hrdrop
  have HRBLK := Lib.hid hrblk
  have HDB := Lib.hid hdb
  clear hg h1 hl hT1 hE1 hLW hm hE2 hMS hMD hE3 hCK hset hmake hdchk hrdrop hrblk hdb
  go_enter Tryd.func3, Tryd.ntmps3
  go_upto_region 3 with fail
  go_cut [33] (fun c wx => c = .bool T1 ∧ Hid (DB w sd dd wx))
  case first =>
    by_cases q1 : k < 1
    · go_wp2_with fail
      go_meet
      case rel => exact ⟨by rw [HT1.out, decide_eq_true (p := k < 1 ∨ 16 < k ∨ seed < 1 ∨ 10000 < seed) (.inl q1)], HDB.out⟩
    by_cases q2 : 16 < k
    · go_wp2_with fail
      go_meet
      case rel => exact ⟨by rw [HT1.out, decide_eq_true (p := k < 1 ∨ 16 < k ∨ seed < 1 ∨ 10000 < seed) (.inr (.inl q2))], HDB.out⟩
    by_cases q3 : seed < 1
    · go_wp2_with fail
      go_meet
      case rel => exact ⟨by rw [HT1.out, decide_eq_true (p := k < 1 ∨ 16 < k ∨ seed < 1 ∨ 10000 < seed) (.inr (.inr (.inl q3)))], HDB.out⟩
    by_cases q4 : 10000 < seed
    · go_wp2_with fail
      go_meet
      case rel => exact ⟨by rw [HT1.out, decide_eq_true (p := k < 1 ∨ 16 < k ∨ seed < 1 ∨ 10000 < seed) (.inr (.inr (.inr q4)))], HDB.out⟩
    · go_wp2_with fail
      go_meet
      case rel => exact ⟨by rw [HT1.out, decide_eq_false (p := k < 1 ∨ 16 < k ∨ seed < 1 ∨ 10000 < seed) (by omega)], HDB.out⟩
  case rest =>
  obtain ⟨rfl, hc0⟩ := hcut
  clear HDB
  go_upto_if 33 with fail
  go_cut [11, 12] (fun e s wx => e = .int .i64 E1 ∧ ∃ a c, s = .slice a m c ∧ Hid (IntsAt wx a m c LW ∧ DB w sd dd wx))
  case first =>
    by_cases q : k < 1 ∨ 16 < k ∨ seed < 1 ∨ 10000 < seed
    · obtain rfl : T1 = true := by rw [HT1.out]; exact decide_eq_true q
      have e1 : E1 = 1 := by rw [HE1.out]; exact if_pos q
      have e2 : LW = [] := by rw [HLW.out]; exact if_pos q
      have e3 : m = 0 := by rw [HM.out, e2]; rfl
      have Q1 := Lib.hid e1
      have Q2 := Lib.hid e2
      have Q3 := Lib.hid e3
      clear q e1 e2 e3
      go_wp2_with fail
      go_meet
      case rel => exact ⟨by rw [Q1.out]; rfl, none, 0, by rw [Q3.out], by rw [Q2.out, Q3.out]; exact IntsAt.nil _, hc0.out⟩
    · obtain rfl : T1 = false := by rw [HT1.out]; exact decide_eq_false q
      have e1 : E1 = 0 := by rw [HE1.out]; exact if_neg q
      obtain ⟨K, rfl⟩ := Int.eq_ofNat_of_zero_le (show 0 ≤ k by omega)
      obtain ⟨Z, rfl⟩ := Int.eq_ofNat_of_zero_le (show 0 ≤ seed by omega)
      have e2 : LW = setZ K Z := by rw [HLW.out]; exact if_neg q
      have hrs := fun W => refSet K Z W (by omega) (by omega) (by omega) (by omega)
      rw [← e2, ← HM.out] at hrs
      have HRS := Lib.hid hrs
      have Q1 := Lib.hid e1
      clear q e1 e2 hrs
      go_wp2_with (go_at_call 10; refine (HRS.out _).mono ?_; rintro e w2 ⟨a2, c2, rfl, hat2, hb2⟩)
      go_meet
      case rel => exact ⟨by rw [Q1.out]; rfl, a2, c2, rfl, hat2, hc0.out.keep hb2⟩
  case rest =>
  obtain ⟨rfl, aw, cw, rfl, hc1⟩ := hcut
  clear hc0
  generalize wc = w1 at *
  go_wp2_with fail
  refine (HSET.out _).mono ?_
  rintro e w2 ⟨a2, c2, rfl, hat2, hb2⟩
  have hb2 := Lib.hid hb2
  have hat2 := Lib.hid hat2
  go_wp2_with fail
  refine (sameErr_any E1 _ (HG.out.keep (hc1.out.2.lat.trans hb2.out))).mono ?_
  rintro e w3 ⟨rfl, hb3⟩
  have hb3 := Lib.hid hb3
  go_wp2_with fail
  refine (sameInts_yes a2 m c2 LW aw cw _ (hat2.out.keep hb3.out) ((hc1.out.1.keep hb2.out).keep hb3.out)).mono ?_
  rintro e w4 ⟨rfl, hb4⟩
  have hdb4 := Lib.hid (((hc1.out.2.keep hb2.out).keep hb3.out).keep hb4)
  clear hat2 hb2 hb3 hb4 hc1
  go_wp2_with fail
  refine (HRBLK.out _ (H1.out.keep hdb4.out.lat)).mono ?_
  rintro e w5 ⟨rfl, hb5⟩
  have hdb5 := Lib.hid (hdb4.out.keep hb5)
  clear hb5 hdb4
  obtain ⟨T2, hT2⟩ : ∃ x : Bool, x = decide (CK = 0 ∧ (seed < 1 ∨ 10000 < seed)) := ⟨_, rfl⟩
  have HT2 := Lib.hid hT2
  clear hT2
  go_upto_region 9 with fail
  go_cut [62] (fun c wx => c = .bool T2 ∧ w5 = wx)
  case first =>
    by_cases q : CK = 0
    · have d1 : ((CK : Int) == 0) = true := by rw [beq_iff_eq]; omega
      by_cases q3 : seed < 1
      · have hT : T2 = true := by rw [HT2.out]; exact decide_eq_true ⟨q, .inl q3⟩
        have HT := Lib.hid hT
        clear q hT
        go_wp2_with fail
        go_meet
        case rel => exact ⟨by rw [HT.out], rfl⟩
      by_cases q4 : 10000 < seed
      · have hT : T2 = true := by rw [HT2.out]; exact decide_eq_true ⟨q, .inr q4⟩
        have HT := Lib.hid hT
        clear q hT
        go_wp2_with fail
        go_meet
        case rel => exact ⟨by rw [HT.out], rfl⟩
      · have hT : T2 = false := by rw [HT2.out]; exact decide_eq_false (by omega)
        have HT := Lib.hid hT
        clear q hT
        go_wp2_with fail
        go_meet
        case rel => exact ⟨by rw [HT.out], rfl⟩
    · have d1 : ((CK : Int) == 0) = false := by rw [beq_eq_false_iff_ne]; omega
      have hT : T2 = false := by rw [HT2.out]; exact decide_eq_false (by omega)
      have HT := Lib.hid hT
      clear q hT
      go_wp2_with fail
      go_meet
      case rel => exact ⟨by rw [HT.out], rfl⟩
  case rest =>
  obtain ⟨rfl, rfl⟩ := hcut
  go_upto_if 62 with fail
  go_cut [11] (fun e wx => e = .int .i64 E2 ∧ w5 = wx)
  case first =>
    by_cases q : CK = 0 ∧ (seed < 1 ∨ 10000 < seed)
    · obtain rfl : T2 = true := by rw [HT2.out]; exact decide_eq_true q
      have e1 : E2 = 1 := by rw [HE2.out, dmkE, ← HCK.out, if_neg (by omega), if_pos q.2]
      have Q1 := Lib.hid e1
      clear q e1
      go_wp2_with fail
      go_meet
      case rel => exact ⟨by rw [Q1.out]; rfl, rfl⟩
    · obtain rfl : T2 = false := by rw [HT2.out]; exact decide_eq_false q
      have e1 : E2 = CK := by
        rw [HE2.out, dmkE, ← HCK.out]
        by_cases q2 : CK = 0
        · rw [if_neg (by omega), if_neg (by omega), q2]
        · rw [if_pos q2]
      have Q1 := Lib.hid e1
      clear q e1
      go_wp2_with fail
      go_meet
      case rel => exact ⟨by rw [Q1.out], rfl⟩
  case rest =>
  obtain ⟨rfl, rfl⟩ := hcut
  go_upto_if 64 with fail
  go_cut [16] (fun p wx => p = .pointer (some ⟨w5.heap.size, 0, none⟩) ∧ Hid (MB w5 MS MD wx))
  case first =>
    by_cases q : E2 = 0
    · have d1 : ((E2 : Int) == 0) = true := by rw [beq_iff_eq]; omega
      have hz := dmkE_zero (HE2.out.symm.trans q)
      have hok := chk_ok hz.1
      obtain ⟨Z, rfl⟩ := Int.eq_ofNat_of_zero_le (show 0 ≤ seed by omega)
      have hn1 : 1 ≤ n := by have := hok.pos; have := HL.out; omega
      have hn2 : n ≤ 16 := by have := hok.most; have := HL.out; omega
      have z1 : 1 ≤ Z := by omega
      have z2 : Z ≤ 10000 := by omega
      have e1 : MD = S (sumTo ss (szAt ss 0) (setZ n Z) (setZ n Z).length) := by rw [HMD.out, dmkD, if_pos (by rw [← HE2.out]; exact q), HL.out]; rfl
      have e2 : MS = Z := by rw [HMS.out, dmkS, if_pos (by rw [← HE2.out]; exact q)]
      have hlt := setZ_lt n Z hn1 z1
      have Q1 := Lib.hid e1
      have Q2 := Lib.hid e2
      have HLT := Lib.hid hlt
      have HOK := Lib.hid hok
      clear q hz hok e1 e2 hlt
      go_wp2_with fail
      refine (refSet n Z _ hn1 hn2 z1 z2).mono ?_
      rintro e w6 ⟨a6, c6, rfl, hat6, hb6⟩
      have hb6 := Lib.hid hb6
      have hat6 := Lib.hid hat6
      go_wp2_with fail
      refine (refSum a1 n c1 ss a6 _ c6 (setZ n Z) _ (H1.out.keep ((hdb5.out.lat.trans (Lat.alloc _ _)).trans hb6.out)) hat6.out HOK.out HLT.out).mono ?_
      rw [← Q1.out]
      rintro e w7 ⟨rfl, hb7⟩
      have hb57 := hb6.out.trans hb7
      clear hb6 hat6 hb7
      obtain ⟨⟨c0, c1⟩, f0, f1⟩ := dw_cells hb57
      have q := two_set c0 c1 (.int .i64 (Z : Int)) (.string MD)
      have q2 := lat_two hb57 (.int .i64 (Z : Int)) (.string MD)
      have q3 : w5.heap.size < w7.heap.size := by have := hb57.size; simp at this; omega
      have Q := Lib.hid q
      have QQ := Lib.hid q2
      clear q q2
      go_wp2_with fail
      go_meet
      case rel => exact ⟨rfl, QQ.out, by simpa [World.setCell] using q3, by rw [Q2.out]; exact Q.out.1, Q.out.2⟩
    · have d1 : ((E2 : Int) == 0) = false := by rw [beq_eq_false_iff_ne]; omega
      have e1 : MD = .empty := by rw [HMD.out, dmkD, if_neg (by rw [← HE2.out]; exact q)]
      have e2 : MS = 0 := by rw [HMS.out, dmkS, if_neg (by rw [← HE2.out]; exact q)]
      have Q1 := Lib.hid e1
      have Q2 := Lib.hid e2
      clear q e1 e2
      go_wp2_with fail
      go_meet
      case rel => exact ⟨rfl, Lat.alloc _ _, by simp, by rw [Q2.out]; simp, by rw [Q1.out]; simp; rfl⟩
  case rest =>
  obtain ⟨rfl, hc6⟩ := hcut
  have hdb6 := Lib.hid (hdb5.out.keep hc6.out.lat)
  clear hdb5
  generalize wc = w6 at *
  go_wp2_with fail
  refine (HMAKE.out _ (H1.out.keep hdb6.out.lat)).mono ?_
  rintro e w7 ⟨rfl, hb7⟩
  have hb7 := Lib.hid hb7
  go_wp2_with fail
  refine (sameErr_any E2 _ (HG.out.keep ((hdb6.out.lat.trans hb7.out).trans (Lat.alloc _ _)))).mono ?_
  rintro e w8 ⟨rfl, hb8⟩
  have e0 : w8.cell? ⟨w7.heap.size, 0, none⟩ = some (.int .i64 MS) := hb8.cell_at (by simp)
  have e1 : w8.cell? ⟨w7.heap.size, 1, none⟩ = some (.string MD) := hb8.cell_at (by simp)
  have mb8 := ((hc6.out.keep hb7.out).keep (Lat.alloc _ _)).keep hb8
  have db8 := ((hdb6.out.keep hb7.out).keep (Lat.alloc _ _)).keep hb8
  have m0 := mb8.c0
  have m1 := mb8.c1
  have b0 := db8.c0
  have b1 := db8.c1
  have hdb8 := Lib.hid db8
  clear mb8 db8 hb8 hb7 hc6 hdb6
  go_wp2_with fail
  refine (HRDROP.out _).mono ?_
  rintro e w9 ⟨rfl, hb9⟩
  have hdb9 := Lib.hid (hdb8.out.keep hb9)
  have b0 := hdb9.out.c0
  have b1 := hdb9.out.c1
  clear hb9 hdb8 m0 m1 e0 e1
  go_wp2_with fail
  refine (HDCHK.out _).mono ?_
  rintro e w10 ⟨rfl, hb10⟩
  have hl10 := Lib.hid (hdb9.out.lat.trans hb10)
  clear hb10 hdb9 b0 b1
  go_wp2_with fail
  refine (sameErr_any E3 _ (HG.out.keep hl10.out)).mono ?_
  rintro e w11 ⟨rfl, hb11⟩
  go_wp2
  go_ret
  exact ⟨rfl, hl10.out.trans hb11⟩
end Go.Proofs.YtooepflfofgnnaaDoor
