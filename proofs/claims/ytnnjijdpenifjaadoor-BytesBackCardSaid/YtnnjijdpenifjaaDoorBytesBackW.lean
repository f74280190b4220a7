import Derived.Test.YtnnjijdpenifjaaDoorBytFd
import Derived.Test.YtnnjijdpenifjaaDoorOwnB
import Derived.Test.YtnnjijdpenifjaaDoorRice
import Derived.Test.YtnnjijdpenifjaaDoorAppM
import Derived.Test.YtnnjijdpenifjaaDoorFilmDec
import Derived.Deep.DeepCutAuto
import Derived.Deep.CutBlock
import Derived.Test.YtnnjijdpenifjaaDoorFilmRow
import Derived.Test.YtnnjijdpenifjaaDoorErrv
import Derived.Test.YtnnjijdpenifjaaDoorRdr
import Derived.Test.YtnnjijdpenifjaaDoorBytesCd
import Derived.Test.YtnnjijdpenifjaaDoorUnlike
import Derived.Test.YtnnjijdpenifjaaDoorMovedEnc
import Derived.StillTailTactics
import Derived.Test.YtnnjijdpenifjaaDoorAs
import Derived.Test.YtnnjijdpenifjaaDoorOpenPic
import Derived.Test.YtnnjijdpenifjaaDoorOpenPics
/- The contracts of package bytes: spread, bits, Pack. -/
namespace Go.Proofs.YtnnjijdpenifjaaDoor
open Go.ChangeShapes Go.WideShapes Go.ChangeAt Go.RowKit

set_option maxHeartbeats 1000000 in
theorem spread_any (N width : Nat) (w : World) (hN : N ≤ 1000000) (hw : width ≤ 8) :
    Calls Tryd.prog 85 #[.int .i64 N, .int .i64 width] w fun e w' => ∃ v, e = .returned v ∧ OwnInts w' w.heap.size v (lowb N width) ∧ Lat w w' := by
  go_enter Tryd.func85, Tryd.ntmps85
  go_wp2_with fail
  go_loopw [5, 6] (fun v b wx => ∃ r : Nat, r ≤ width ∧ b = .int .i64 ((r : Int) - 1) ∧ Hid (OwnInts wx w.heap.size v ((lowb N width).take (width - r)) ∧ Lat w wx)) (fun _ b _ => (intOf b + 1).toNat)
  case atStart => exact ⟨width, Nat.le_refl _, rfl, by rw [Nat.sub_self, List.take_zero]; exact Own.nil _ _ _, Lat.refl _⟩
  case round =>
    obtain ⟨r, hr, hb, hrl⟩ := hrel
    cases r with
    | zero =>
      have e : ((0 : Nat) : Int) - 1 = -1 := by omega
      rw [e] at hb
      subst hb
      clear e
      go_wp2
      go_ret
      exact ⟨_, rfl, by
        have := hrl.out.1
        rw [Nat.sub_zero, List.take_of_length_le (by rw [lowb_length]; omega)] at this
        exact this, hrl.out.2⟩
    | succ r =>
      have e : ((r + 1 : Nat) : Int) - 1 = (r : Int) := by omega
      rw [e] at hb
      subst hb
      clear e
      obtain ⟨D, hD⟩ : ∃ D : Nat, D = N / 2 ^ r := ⟨_, rfl⟩
      have hD1 : D ≤ 1000000 := by rw [hD]; exact Nat.le_trans (Nat.div_le_self _ _) hN
      have hdv : (N : Int) / 2 ^ r = (D : Int) := by rw [hD]; simp
      have hbt := bits_and_one D (by omega)
      have hstp : (lowb N width).take (width - r) = (lowb N width).take (width - (r + 1)) ++ [((D % 2 : Nat) : Int)] := by
        have e1 : width - r = (width - (r + 1)) + 1 := by omega
        have e2 : width - 1 - (width - (r + 1)) = r := by omega
        rw [e1, take_snoc _ _ (by rw [lowb_length]; omega), lowb_getD N width _ (by omega), e2, ← hD]
      obtain ⟨L4, hL4⟩ : ∃ L, L = (lowb N width).take (width - (r + 1)) := ⟨_, rfl⟩
      have hlen4 : L4.length < 1000000000000 := by
        rw [hL4, List.length_take, lowb_length]
        omega
      obtain ⟨hw1, hw2⟩ := hrl.out
      rw [← hL4] at hw1
      have HST3 := Lib.hid hstp
      have HLEN4 := Lib.hid hlen4
      have HBT := Lib.hid hbt
      have EL4 := Lib.hid hL4
      have HW1 := Lib.hid hw1
      have HW2 := Lib.hid hw2
      clear hbt hstp hlen4 hD hw1 hw2 hrl hL4
      go_wp2_with (at_builtin; refine app_int wr w _ rfl _ _ rfl _ _ _ rfl HW1.out rfl HLEN4.out rfl HW2.out ?_)
      intro v4 w4 hown4 hb4 _
      have HO4 := Lib.hid hown4
      have HB4 := Lib.hid hb4
      clear hown4 hb4
      go_wp2
      go_roundw
      case rel => exact ⟨r, by omega, rfl, by rw [HST3.out, ← EL4.out, ← HBT.out]; exact HO4.out, HB4.out⟩
      case measure => simp [intOf]
/-- .. as a slice that reads so. -/
theorem spread_at (N width : Nat) (w : World) (hN : N ≤ 1000000) (hw : width ≤ 8) :
    Calls Tryd.prog 85 #[.int .i64 N, .int .i64 width] w fun e w' => ∃ a c, e = .returned (.slice a width c) ∧ IntsAt w' a width c (lowb N width) ∧ Lat w w' := by
  refine (spread_any N width w hN hw).mono ?_
  rintro e w' ⟨v, rfl, ho, hb⟩
  obtain ⟨a, c, rfl, hat⟩ := OwnInts.sliceN ho (fun z hz => by rcases lowb_bit N width z hz with h | h <;> omega) (lowb_length N width)
  exact ⟨a, c, rfl, hat, hb⟩
theorem rbits_at (a : Option Addr) (n cap : Nat) (zs : List Int) (w : World) (h : IntsAt w a n cap zs) (hr : ∀ z ∈ zs, -255 ≤ z ∧ z ≤ 255) (hn : n ≤ 1000000) :
    Calls Tryd.prog 76 #[.slice a n cap, .int .i64 2] w fun e w' => ∃ b m c, e = .returned (.slice b m c) ∧ IntsAt w' b m c (ricL 2 zs) ∧ Lat w w' := by
  refine (bits_any a n cap zs 2 w h hr (by omega) (by omega)).mono ?_
  rintro e w' ⟨v, rfl, ho, hb⟩
  have e1 : ric zs 2 n = ricL 2 zs := by rw [← h.len, ric_all]
  rw [e1] at ho
  obtain ⟨b, c, rfl, hat⟩ := OwnInts.sliceN ho (fun z hz => by rcases ricL_bit 2 zs z hz with h | h <;> omega) rfl
  exact ⟨b, _, c, rfl, hat, hb⟩

theorem AppStep.box {wr w' : World} {v v' : Value} {gb : Nat} {x y z u : Value} (hs : AppStep wr w' v v') (hc : Cells4 wr gb x y z u) (hne : v.ownBlock ≠ some gb) : Cells4 w' gb x y z u ∧ v'.ownBlock ≠ some gb := by
  refine ⟨⟨hs.cell hc.c0 hne, hs.cell hc.c1 hne, hs.cell hc.c2 hne, hs.cell hc.c3 hne⟩, fun e => ?_⟩
  have hlt := World.block_lt_of_cell? _ _ hc.c0
  rcases hs.loc with hl | ⟨g, hl, hg⟩
  · exact hne (hl ▸ e)
  · rw [hl] at e
    simp only [Option.some.injEq] at e
    simp at hlt
    omega
set_option maxHeartbeats 4000000 in
set_option maxRecDepth 100000 in
theorem bbits_any (a : Option Addr) (n cap many : Nat) (cs : List Cd) (w : World) (h : CodsAt w a n cap cs) (hk : ∀ k, k < n → CdOk many (cs.getD k default).c) (hm : many ≤ 36) (hn : n ≤ 6) :
    Calls Tryd.prog 83 #[.slice a n cap] w fun e w' => ∃ b m c, e = .returned (.slice b m c) ∧ IntsAt w' b m c (pad8 (bcods (cs.map Cd.c))) ∧ Fresh w b m ∧ Lat w w' := by
  have hl := h.len
  have hall : ∀ c ∈ cs.map Cd.c, CdOk many c := fun c hc => by
    obtain ⟨d, hd, rfl⟩ := List.mem_map.1 hc
    obtain ⟨i, hi, e⟩ := List.getElem_of_mem hd
    have := hk i (by omega)
    rw [List.getD_eq_getElem?_getD, List.getElem?_eq_getElem hi] at this
    simpa [e] using this
  have hlen : ∀ k, (bcods ((cs.map Cd.c).take k)).length ≤ 28110 := fun k => by
    have h1 := bcods_le (fun c hc => hall c (List.mem_of_mem_take hc) : ∀ c ∈ (cs.map Cd.c).take k, CdOk many c)
    have h2 : ((cs.map Cd.c).take k).length ≤ 6 := by rw [List.length_take, List.length_map]; omega
    have h3 : (5 + 130 * many) * ((cs.map Cd.c).take k).length ≤ 4685 * 6 := Nat.mul_le_mul (by omega) h2
    omega
  have hstp : ∀ k, k < n → bcods ((cs.map Cd.c).take (k + 1)) = bcods ((cs.map Cd.c).take k) ++ bcod (cs.getD k default).c := fun k hk => by
    rw [bcods_take (by rw [List.length_map, hl]; exact hk), cts_getD (by rw [hl]; exact hk)]
  have hfin : (cs.map Cd.c).take n = cs.map Cd.c := List.take_of_length_le (by rw [List.length_map, hl]; exact Nat.le_refl _)
  have H := Lib.hid h
  have HK := Lib.hid hk
  have HLEN := Lib.hid hlen
  have HSTP := Lib.hid hstp
  have HFIN := Lib.hid hfin
  clear h hl hall hk hlen hstp hfin
  go_enter Tryd.func83, Tryd.ntmps83
  go_wp2_with fail
  go_loopw [3, 8] (fun v i wx => ∃ k : Nat, k ≤ n ∧ i = .int .i64 k ∧ Hid (OwnInts wx w.heap.size v (bcods ((cs.map Cd.c).take k)) ∧ Lat w wx)) (fun _ i _ => n - (intOf i).toNat)
  case atStart => exact ⟨0, Nat.zero_le _, rfl, Own.nil _ _ _, Lat.refl _⟩
  case round =>
    obtain ⟨k, hk, rfl, hrel⟩ := hrel
    obtain ⟨ho, hb⟩ := hrel.out
    have hle := HLEN.out k
    obtain ⟨L, hL⟩ : ∃ L, L = bcods ((cs.map Cd.c).take k) := ⟨_, rfl⟩
    rw [← hL] at ho hle
    have HO := Lib.hid ho
    have HB := Lib.hid hb
    have HLE := Lib.hid hle
    have HL := Lib.hid hL
    clear hrel ho hb hle hL
    by_cases hlt : k < n
    · obtain ⟨b1, o1, rfl, _, hcc⟩ := cods_at H.out (by omega)
      obtain ⟨y0, y1, y2, y3, yi⟩ := hcc k hlt
      have hok := HK.out k hlt
      have hst := HSTP.out k hlt
      rw [← HL.out] at hst
      obtain ⟨⟨⟨al, x, y, rs⟩, ra, rn, rc⟩, hq⟩ : ∃ q, q = cs.getD k default := ⟨_, rfl⟩
      rw [← hq] at y0 y1 y2 y3 yi hok hst
      change w.cell? ⟨b1, o1 + k * 4, none⟩ = some (.bool al) at y0
      change w.cell? ⟨b1, o1 + k * 4 + 1, none⟩ = some (.int .i64 x) at y1
      change w.cell? ⟨b1, o1 + k * 4 + 2, none⟩ = some (.int .i64 y) at y2
      change w.cell? ⟨b1, o1 + k * 4 + 3, none⟩ = some (.slice ra rn rc) at y3
      change IntsAt w ra rn rc rs at yi
      change CdOk many ⟨al, x, y, rs⟩ at hok
      have z0 := HB.out.cell_at y0
      have z1 := HB.out.cell_at y1
      have z2 := HB.out.cell_at y2
      have z3 := HB.out.cell_at y3
      have hrl : rs.length = many := hok.len
      have hrb : ∀ z ∈ rs, -255 ≤ z ∧ z ≤ 255 := hok.bd
      have hrn : rn ≤ 36 := by have := yi.len; omega
      have hrll := ricL_le hrb
      obtain ⟨W1, hW1⟩ : ∃ W, W = wr.alloc (.cells #[.bool al, .int .i64 x, .int .i64 y, .slice ra rn rc] 53) := ⟨_, rfl⟩
      have hl1 : Lat wr W1 := by rw [hW1]; exact Lat.alloc _ _
      have hc4 : Cells4 W1 wr.heap.size (.bool al) (.int .i64 x) (.int .i64 y) (.slice ra rn rc) := by rw [hW1]; exact cells4_new rfl rfl rfl rfl rfl
      obtain ⟨gb, hgb⟩ : ∃ g, g = wr.heap.size := ⟨_, rfl⟩
      have hne : u3.ownBlock ≠ some gb := fun e => by have := (Own.lt HO.out gb e).2; omega
      rw [← hgb] at hc4
      have HNE := Lib.hid hne
      have HO1 := Lib.hid (Own.keep HO.out hl1)
      have HB1 := Lib.hid (Lat.trans HB.out hl1)
      have HI0 := Lib.hid yi
      have HC4 := Lib.hid hc4
      have HRB := Lib.hid hrb
      have HRL := Lib.hid (show (ricL 2 rs).length ≤ 4680 by rw [hrl] at hrll; omega)
      have HOK := Lib.hid hok
      have HST := Lib.hid hst
      have x0 := hc4.c0
      clear y0 y1 y2 y3 yi hcc hok hst hrl hrb hrll hl1 hc4 hq hne
      go_upto_region 5 with fail
      rw [← hW1, ← hgb]
      clear hW1 hgb z0 z1 z2 z3
      go_upto_if 13 with fail
      go_cut [3] (fun v wx => Hid (OwnInts wx w.heap.size v (L ++ (if al = true then [1] else 0 :: (lowb (x + 1).toNat 2 ++ lowb (y + 1).toNat 2))) ∧ Lat w wx ∧ Cells4 wx gb (.bool al) (.int .i64 x) (.int .i64 y) (.slice ra rn rc)))
      case first =>
        cases al with
        | true =>
          go_wp2_with (at_builtin; refine app_int W1 w _ rfl _ _ rfl _ _ _ rfl HO1.out rfl (by have := HLE.out; omega) rfl HB1.out ?_)
          intro v2 w2 hown2 hb2 hs2
          have HO2 := Lib.hid hown2
          have HB2 := Lib.hid hb2
          have HX2 := Lib.hid (hs2.box HC4.out HNE.out).1
          clear hown2 hb2 hs2 x0
          go_wp2_with fail
          go_meet
          case rel => exact ⟨by rw [if_pos trivial]; exact HO2.out, HB2.out, HX2.out⟩
        | false =>
          have hm : -1 ≤ x ∧ x ≤ 1 ∧ -1 ≤ y ∧ y ≤ 1 := HOK.out.mv rfl
          obtain ⟨X, hX⟩ := Int.eq_ofNat_of_zero_le (show 0 ≤ x + 1 by omega)
          obtain ⟨Y, hY⟩ := Int.eq_ofNat_of_zero_le (show 0 ≤ y + 1 by omega)
          have hX2 : X ≤ 2 := by omega
          have hY2 : Y ≤ 2 := by omega
          have hsx := fun W => spread_at X 2 W (by omega) (by omega)
          have hsy := fun W => spread_at Y 2 W (by omega) (by omega)
          rw [← hX] at hsx
          rw [← hY] at hsy
          have HSX := Lib.hid hsx
          have HSY := Lib.hid hsy
          have HX := Lib.hid hX
          have HY := Lib.hid hY
          clear hsx hsy hX hY
          go_wp2_with (at_builtin; refine app_int W1 w _ rfl _ _ rfl _ _ _ rfl HO1.out rfl (by have := HLE.out; omega) rfl HB1.out ?_)
          intro v2 w2 hown2 hb2 hs2
          have hx2 := hs2.box HC4.out HNE.out
          obtain ⟨L2, hL2⟩ : ∃ K, K = L ++ [0] := ⟨_, rfl⟩
          rw [← hL2] at hown2
          have hle2 : L2.length ≤ 28200 := by rw [hL2, List.length_append, List.length_singleton]; have := HLE.out; omega
          have HO2 := Lib.hid hown2
          have HB2 := Lib.hid hb2
          have HX2 := Lib.hid hx2
          have HL2 := Lib.hid hL2
          have HLE2 := Lib.hid hle2
          have x1 := hx2.1.c1
          clear hown2 hb2 hs2 x0 hx2 hL2 hle2
          go_wp2_with fail
          refine (HSX.out _).mono ?_
          rintro e w3 ⟨a3, c3, rfl, hat3, hb3⟩
          have HAT3 := Lib.hid hat3
          have HO3 := Lib.hid (Own.keep HO2.out hb3)
          have HB3 := Lib.hid (Lat.trans HB2.out hb3)
          have HX3 := Lib.hid (HX2.out.1.keep hb3)
          clear hat3 hb3 x1
          go_wp2_with (at_builtin; refine app_ints w3 w _ rfl _ _ rfl _ _ _ rfl HO3.out _ _ _ rfl HAT3.out (by have := HLE2.out; omega) rfl HB3.out ?_)
          intro v4 w4 hown4 hb4 hs4
          have hx4 := hs4.box HX3.out HX2.out.2
          obtain ⟨L3, hL3⟩ : ∃ K, K = L2 ++ lowb X 2 := ⟨_, rfl⟩
          rw [← hL3] at hown4
          have hle3 : L3.length ≤ 28300 := by rw [hL3, List.length_append, lowb_length]; have := HLE2.out; omega
          have HO4 := Lib.hid hown4
          have HB4 := Lib.hid hb4
          have HX4 := Lib.hid hx4
          have HL3 := Lib.hid hL3
          have HLE3 := Lib.hid hle3
          have x2 := hx4.1.c2
          clear hown4 hb4 hs4 hx4 hL3 hle3
          go_wp2_with fail
          refine (HSY.out _).mono ?_
          rintro e w5 ⟨a5, c5, rfl, hat5, hb5⟩
          have HAT5 := Lib.hid hat5
          have HO5 := Lib.hid (Own.keep HO4.out hb5)
          have HB5 := Lib.hid (Lat.trans HB4.out hb5)
          have HX5 := Lib.hid (HX4.out.1.keep hb5)
          clear hat5 hb5 x2
          go_wp2_with (at_builtin; refine app_ints w5 w _ rfl _ _ rfl _ _ _ rfl HO5.out _ _ _ rfl HAT5.out (by have := HLE3.out; omega) rfl HB5.out ?_)
          intro v6 w6 hown6 hb6 hs6
          have hx6 := hs6.box HX5.out HX4.out.2
          have HO6 := Lib.hid hown6
          have HB6 := Lib.hid hb6
          have HX6 := Lib.hid hx6.1
          clear hown6 hb6 hs6 hx6
          go_wp2_with fail
          go_meet
          case rel => exact ⟨by
            rw [if_neg (by simp), HX.out, HY.out, Int.toNat_natCast, Int.toNat_natCast, show L ++ 0 :: (lowb X 2 ++ lowb Y 2) = ((L ++ [0]) ++ lowb X 2) ++ lowb Y 2 by simp, ← HL2.out, ← HL3.out]; exact HO6.out, HB6.out, HX6.out⟩
      case rest =>
      obtain ⟨hc1, hc2, hc3⟩ := hcut.out
      obtain ⟨L2, hL2⟩ : ∃ K, K = L ++ (if al = true then [1] else 0 :: (lowb (x + 1).toNat 2 ++ lowb (y + 1).toNat 2)) := ⟨_, rfl⟩
      rw [← hL2] at hc1
      have hle2 : L2.length ≤ 28200 := by
        rw [hL2, List.length_append]
        have := HLE.out
        split
        · rw [List.length_singleton]; omega
        · rw [List.length_cons, List.length_append, lowb_length, lowb_length]; omega
      have HO2 := Lib.hid hc1
      have HB2 := Lib.hid hc2
      have HLE2 := Lib.hid hle2
      have HL2 := Lib.hid hL2
      have x3 := hc3.c3
      clear hcut hc1 hc2 hc3 hL2 hle2 x0
      generalize wc = w2 at *
      go_wp2_with fail
      refine (rbits_at ra rn rc rs w2 (HI0.out.keep HB2.out) HRB.out (by omega)).mono ?_
      rintro e w3 ⟨a3, m3, c3, rfl, hat3, hb3⟩
      have hm3 : m3 ≤ 4680 := by have := hat3.len; have := HRL.out; omega
      have HAT3 := Lib.hid hat3
      have HO3 := Lib.hid (Own.keep HO2.out hb3)
      have HB3 := Lib.hid (Lat.trans HB2.out hb3)
      clear hat3 hb3 x3
      go_wp2_with (at_builtin; refine app_ints w3 w _ rfl _ _ rfl _ _ _ rfl HO3.out _ _ _ rfl HAT3.out (by have := HLE2.out; omega) rfl HB3.out ?_)
      intro v4 w4 hown4 hb4 hs4
      have hfin : L2 ++ ricL 2 rs = bcods ((cs.map Cd.c).take (k + 1)) := by
        rw [HST.out, HL2.out]; unfold bcod; rw [List.append_assoc]
      rw [hfin] at hown4
      have HO4 := Lib.hid hown4
      have HB4 := Lib.hid hb4
      clear hown4 hb4 hs4 hfin
      go_wp2_with fail
      go_roundw
      case rel => exact ⟨k + 1, by omega, by go_num, HO4.out, HB4.out⟩
      case measure => simp [intOf]; omega
    · obtain rfl : n = k := by omega
      have hbit : ∀ z ∈ L, z = 0 ∨ z = 1 := by rw [HL.out]; exact bcods_bit _
      have hwf : ∀ j, ∀ z ∈ L ++ List.replicate j 0, -9223372036854775808 ≤ z ∧ z ≤ 9223372036854775807 := fun j z hz => by
        rcases List.mem_append.1 hz with hz | hz
        · rcases hbit z hz with e | e <;> omega
        · rw [List.eq_of_mem_replicate hz]; omega
      obtain ⟨M, hM⟩ : ∃ M, M = L.length := ⟨_, rfl⟩
      have hlenj : ∀ j, (L ++ List.replicate j (0 : Int)).length = M + j := fun j => by rw [List.length_append, List.length_replicate, hM]
      have hM2 : M ≤ 28110 := by rw [hM]; exact HLE.out
      have ho0 : OwnInts wr w.heap.size u3 (L ++ List.replicate 0 0) := by rw [List.replicate_zero, List.append_nil]; exact HO.out
      obtain ⟨a0, c0, rfl, hat0⟩ := OwnInts.sliceN ho0 (hwf 0) (hlenj 0)
      have HO0 := Lib.hid ho0
      have HWF := Lib.hid hwf
      have HLJ := Lib.hid hlenj
      have HLM := Lib.hid hM
      clear hbit hwf hlenj ho0 hat0 hM
      rw [Nat.add_zero] at HO0 ⊢
      go_wp2_with fail
      go_loopw [3] (fun v wx => ∃ (m : Nat) (a : Option Addr) (c : Nat), v = .slice a m c ∧ m ≤ 28200 ∧ Hid (∃ j, m = M + j ∧ j ≤ padn M ∧ OwnInts wx w.heap.size (.slice a m c) (L ++ List.replicate j 0) ∧ Lat w wx)) (fun v _ => match v with | .slice _ m _ => (8 - m % 8) % 8 | _ => 0)
      case atStart => exact ⟨M, a0, c0, rfl, by omega, 0, rfl, Nat.zero_le _, HO0.out, HB.out⟩
      case round =>
        obtain ⟨m, a, c, rfl, hm, hrel⟩ := hrel
        obtain ⟨j, hj, hjp, ho, hb⟩ := hrel.out
        have hpd : padn M = (8 - M % 8) % 8 := rfl
        have HO := Lib.hid ho
        have HB := Lib.hid hb
        by_cases hm8 : m % 8 = 0
        · have t0 : ((m : Int) % 8 != 0) = false := by rw [bne_eq_false_iff_eq]; omega
          have hjj : j = padn M := by rw [hpd] at hjp ⊢; omega
          have HJ := Lib.hid hj
          obtain ⟨a', c', hv, hat⟩ := OwnInts.sliceN ho (HWF.out j) (HLJ.out j)
          injection hv with q1 q2 q3
          subst q1 q3
          have hat' : IntsAt wr a m c (pad8 (bcods (cs.map Cd.c))) := by
            unfold pad8
            have e1 : bcods (cs.map Cd.c) = L := by rw [HL.out, HFIN.out]
            rw [e1, ← HLM.out, ← hjj, q2]
            exact hat
          have hfr : Fresh w a m := fun g' hg' => own_ne HO.out hg'
          have HFR := Lib.hid hfr
          have HAT := Lib.hid hat'
          clear hrel hj hjp ho hb hpd hm8 hjj hat hat' q2 hfr
          go_wp2_with fail
          go_ret
          exact ⟨a, m, c, rfl, HAT.out, HFR.out, HB.out⟩
        · have t0 : ((m : Int) % 8 != 0) = true := by rw [bne_iff_ne]; omega
          have hjj : j + 1 ≤ padn M := by rw [hpd] at hjp ⊢; omega
          have hlen : (L ++ List.replicate j (0 : Int)).length < 1000000000000 := by rw [HLJ.out]; omega
          have HJ := Lib.hid hj
          have HJJ := Lib.hid hjj
          have HLEN := Lib.hid hlen
          have HM8 := Lib.hid hm8
          have hm9 : m ≤ 28120 := by rw [hpd] at hjp; omega
          clear hrel hj hjp ho hb hpd hm8 hjj hlen
          go_wp2_with (at_builtin; refine app_int wr w _ rfl _ _ rfl _ _ _ rfl HO.out rfl HLEN.out rfl HB.out ?_)
          intro v2 w2 hown2 hb2 _
          rw [← List.replicate_succ'] at hown2
          obtain ⟨a2, c2, rfl, _⟩ := OwnInts.sliceN hown2 (HWF.out (j + 1)) (HLJ.out (j + 1))
          have HO2 := Lib.hid hown2
          have HB2 := Lib.hid hb2
          clear hown2 hb2
          go_wp2_with fail
          go_roundw
          case rel => exact ⟨M + (j + 1), a2, c2, rfl, by have := HJ.out; omega, j + 1, rfl, HJJ.out, HO2.out, HB2.out⟩
          case measure =>
            have h1 := HM8.out
            have h2 := HJ.out
            simp
            omega
end Go.Proofs.YtnnjijdpenifjaaDoor

/- A slice of ints that lies off a slice of the call's own. -/
namespace Go.Proofs.YtnnjijdpenifjaaDoor
open Go.ChangeShapes Go.WideShapes Go.ChangeAt Go.RowKit

def OffV (a : Option Addr) (n : Nat) (v : Value) : Prop := n ≠ 0 → ∀ b o, a = some ⟨b, o, none⟩ → v.ownBlock ≠ some b
theorem OffV.fresh {w : World} {a : Option Addr} {n : Nat} {v : Value} (h : Fresh w a n) (hv : ∀ k, v.ownBlock = some k → k < w.heap.size) : OffV a n v :=
  fun hn b o ha e => h b (hv b e) b o ha hn rfl
theorem IntsAt.stepV {w w' : World} {v v' : Value} {a : Option Addr} {n cap : Nat} {zs : List Int} (h : IntsAt w a n cap zs) (hs : AppStep w w' v v') (hf : OffV a n v) : IntsAt w' a n cap zs ∧ OffV a n v' := by
  refine ⟨⟨h.len, ⟨h.row.le, h.row.cap, fun hn => ?_⟩, h.wf⟩, fun hn b o ha e => ?_⟩
  · obtain ⟨b, o, ha, hc⟩ := h.row.at_ hn
    refine ⟨b, o, ha, fun j hj => ?_⟩
    rw [World.cell?_of_block (w := w) (a := ⟨b, o + j, none⟩) (hs.block b (h.lt hn ha) (fun e => hf hn b o ha e.symm))]
    exact hc j hj
  · have hb := h.lt hn ha
    rcases hs.loc with hl | ⟨g2, hl, hg2⟩
    · exact hf hn b o ha (hl ▸ e)
    · rw [hl] at e
      simp only [Option.some.injEq] at e
      omega
end Go.Proofs.YtnnjijdpenifjaaDoor

/- The contract of bytes.Pack: one answer whatever is asked. -/
namespace Go.Proofs.YtnnjijdpenifjaaDoor
open Go.ChangeShapes Go.WideShapes Go.ChangeAt Go.RowKit

theorem IntsAt.sub {w : World} {a : Option Addr} {n cap : Nat} {zs : List Int} (h : IntsAt w a n cap zs) {b o : Nat} (ha : a = some ⟨b, o, none⟩) {j : Nat} (hj : j < n) : w.cell? ⟨b, o + j, none⟩ = some (.int .i64 (zs.getD j 0)) := by
  obtain ⟨b', o', ha', hc⟩ := h.row.at_ (by omega)
  rw [ha] at ha'
  simp only [Option.some.injEq, Addr.mk.injEq] at ha'
  obtain ⟨rfl, rfl, _⟩ := ha'
  exact hc j hj
set_option maxHeartbeats 4000000 in
set_option maxRecDepth 100000 in
theorem pack_any (wd hg s : Int) (a : Option Addr) (n cap : Nat) (cs : List Cd) (w : World) (h : CodsAt w a n cap cs) :
    Calls Tryd.prog 51 #[.int .i64 wd, .int .i64 hg, .int .i64 s, .slice a n cap] w fun e w' => e = .returned (.tuple #[.string (pkS wd hg s (cs.map Cd.c)), errv (pkE wd hg s (cs.map Cd.c))]) ∧ Lat w w' := by
  have hl := h.len
  obtain ⟨E, hE⟩ : ∃ E, E = fdE wd hg s (cs.map Cd.c) := ⟨_, rfl⟩
  obtain ⟨PE, hPE⟩ : ∃ E, E = pkE wd hg s (cs.map Cd.c) := ⟨_, rfl⟩
  obtain ⟨PS, hPS⟩ : ∃ E, E = pkS wd hg s (cs.map Cd.c) := ⟨_, rfl⟩
  have hpe : PE = if E ≠ 0 then E else if 120 < (pkB wd hg s (cs.map Cd.c)).length then 4 else 0 := by rw [hPE, hE]; rfl
  have hps : PS = if PE = 0 then S (pkB wd hg s (cs.map Cd.c)) else .empty := by rw [hPS, hPE]; rfl
  rw [← hPE, ← hPS]
  have hcall := fdecode_any wd hg s a n cap cs w h
  rw [← hE] at hcall
  have HCL := Lib.hid hcall
  have HE := Lib.hid hE
  have HPE := Lib.hid hpe
  have HPS := Lib.hid hps
  have HLN := Lib.hid hl
  have H := Lib.hid h
  clear hl hE hPE hPS hpe hps hcall h
  by_cases hE0 : E = 0
  case neg =>
    have e1 : PE = E := by rw [HPE.out, if_pos hE0]
    have e2 : PS = .empty := by rw [HPS.out, if_neg (by rw [e1]; exact hE0)]
    rw [e1, e2, errv_pos hE0]
    rw [errv_pos hE0] at HCL
    clear e1 e2 hE0
    go_enter Tryd.func51, Tryd.ntmps51
    go_wp2_with fail
    refine HCL.out.mono ?_
    rintro e w1 ⟨va, vc, ds, rfl, _, _, hb1⟩
    have HB1 := Lib.hid hb1
    clear hb1
    go_wp2_with fail
    go_ret2
    exact ⟨rfl, HB1.out⟩
  subst hE0
  have hfd := fd_ok HE.out.symm
  have hn1 : 1 ≤ n := by have := hfd.n1; rw [List.length_map, HLN.out] at this; exact this
  have hn6 : n ≤ 6 := by have := hfd.n6; rw [List.length_map, HLN.out] at this; exact this
  obtain ⟨wn, rfl⟩ := Int.eq_ofNat_of_zero_le (show 0 ≤ wd by have := hfd.w1; omega)
  obtain ⟨hn, rfl⟩ := Int.eq_ofNat_of_zero_le (show 0 ≤ hg by have := hfd.h1; omega)
  obtain ⟨sn, rfl⟩ := Int.eq_ofNat_of_zero_le (show 0 ≤ s by have := hfd.s1; omega)
  have w6 : wn ≤ 6 := by have := hfd.w6; omega
  have h6 : hn ≤ 6 := by have := hfd.h6; omega
  have s64 : sn ≤ 64 := by have := hfd.s64; omega
  have hcd : ∀ k, k < n → CdOk ((wn : Int) * hn).toNat (cs.getD k default).c := fun k hk => by
    rw [← cts_getD (by rw [HLN.out]; exact hk)]; exact hfd.cd k (by rw [List.length_map, HLN.out]; exact hk)
  have hmany := hfd.many
  have hbc := fun W (hW : CodsAt W a n cap cs) => bbits_any a n cap _ cs W hW hcd hmany hn6
  obtain ⟨B, hB⟩ : ∃ B, B = pad8 (bcods (cs.map Cd.c)) := ⟨_, rfl⟩
  have hBb : ∀ z ∈ B, z = 0 ∨ z = 1 := by rw [hB]; exact pad8_bit (bcods_bit _)
  have hB8 : B.length % 8 = 0 := by rw [hB]; exact pad8_mod _
  have hBl : B.length ≤ 30000 := by
    rw [hB, pad8_len]
    have h1 := bcods_le hfd.all
    rw [List.length_map, HLN.out] at h1
    have h3 : (5 + 130 * ((wn : Int) * hn).toNat) * n ≤ 4685 * 6 := Nat.mul_le_mul (by omega) hn6
    unfold padn
    omega
  obtain ⟨q, hq⟩ : ∃ q, B.length = 8 * q := ⟨B.length / 8, by omega⟩
  have hq3 : q ≤ 3750 := by omega
  have hpk : pkB wn hn sn (cs.map Cd.c) = [UInt8.ofNat wn, UInt8.ofNat hn, UInt8.ofNat sn, UInt8.ofNat n] ++ octs B q := by
    unfold pkB
    rw [← hB, Int.toNat_natCast, Int.toNat_natCast, Int.toNat_natCast, List.length_map, HLN.out, hq, Nat.mul_div_cancel_left _ (by omega)]
  rw [← hB] at hbc
  have hpe := HPE.out
  rw [if_neg (by simp), hpk, List.length_append, octs_len] at hpe
  have hps := HPS.out
  rw [hpk] at hps
  have e8 : ∀ m : Nat, m < 256 → (UInt8.ofNat m).toNat = m := fun m hm => by rw [UInt8.toNat_ofNat']; exact Nat.mod_eq_of_lt hm
  have hown0 : ∀ W : World, w.heap.size ≤ W.heap.size → OwnBytes (W.alloc (.cells #[.int .u8 wn, .int .u8 hn, .int .u8 sn, .int .u8 n] 5)) w.heap.size (.slice (some ⟨W.heap.size, 0, none⟩) 4 4) ([UInt8.ofNat wn, UInt8.ofNat hn, UInt8.ofNat sn, UInt8.ofNat n] ++ octs B 0) := fun W hW => by
    have := Own.new W w.heap.size 5 #[.int .u8 wn, .int .u8 hn, .int .u8 sn, .int .u8 n] hW (by simp)
    show Own _ _ _ _ (List.map _ [UInt8.ofNat wn, UInt8.ofNat hn, UInt8.ofNat sn, UInt8.ofNat n])
    simp only [List.map_cons, List.map_nil, e8 wn (by omega), e8 hn (by omega), e8 sn (by omega), e8 n (by omega)]
    exact this
  have HBC := Lib.hid hbc
  have HBB := Lib.hid hBb
  have HQ := Lib.hid hq
  have HPE2 := Lib.hid hpe
  have HPS2 := Lib.hid hps
  have HOW0 := Lib.hid hown0
  rw [errv_zero rfl] at HCL
  have u1 : IntKind.u8.wrap (wn : Int) = wn := by unfold IntKind.wrap; simp [IntKind.signed, IntKind.bits]; omega
  have u2 : IntKind.u8.wrap (hn : Int) = hn := by unfold IntKind.wrap; simp [IntKind.signed, IntKind.bits]; omega
  have u3 : IntKind.u8.wrap (sn : Int) = sn := by unfold IntKind.wrap; simp [IntKind.signed, IntKind.bits]; omega
  have u4 : IntKind.u8.wrap (n : Int) = n := by unfold IntKind.wrap; simp [IntKind.signed, IntKind.bits]; omega
  clear hfd hcd hmany hbc hB hBb hB8 hBl hq hpk hpe hps hown0 e8 HPE HPS HE
  go_enter Tryd.func51, Tryd.ntmps51
  go_wp2_with fail
  refine HCL.out.mono ?_
  rintro e w1 ⟨va, vc, ds, rfl, _, _, hb1⟩
  have HB1 := Lib.hid hb1
  clear hb1
  go_wp2_with fail
  clear u1 u2 u3 u4
  have hl1 : Lat w1 (w1.alloc (.cells #[.int .u8 wn, .int .u8 hn, .int .u8 sn, .int .u8 n] 5)) := Lat.alloc _ _
  have how1 := HOW0.out w1 HB1.out.size
  have HL1 := Lib.hid hl1
  have HO1 := Lib.hid how1
  clear hl1 how1
  refine (HBC.out _ (H.out.keep (Lat.trans HB1.out HL1.out))).mono ?_
  rintro e w2 ⟨b, m, c, rfl, hat, hfr, hb2⟩
  have hoff0 : OffV b m (.slice (some ⟨w1.heap.size, 0, none⟩) 4 4) := OffV.fresh hfr (fun k hk => by have := (Own.lt HO1.out k hk).2; exact this)
  have HOFF0 := Lib.hid hoff0
  have hm8 : m = 8 * q := by rw [← HQ.out]; exact hat.len.symm
  have hmc := hat.row.le
  have hcc := hat.row.cap
  unfold maxLen at hcc
  have hm3 : m ≤ 30000 := by omega
  have HM := Lib.hid hm8
  have HO2 := Lib.hid (Own.keep HO1.out hb2)
  have HB2 := Lib.hid (Lat.trans (Lat.trans HB1.out HL1.out) hb2)
  have HAT := Lib.hid hat
  clear hm8 hat hb2 HO1 hfr hoff0
  go_wp2_with fail
  go_loopw [12, 14] (fun v i wx => ∃ I : Nat, I ≤ m ∧ i = .int .i64 I ∧ Hid (∃ k, I = 8 * k ∧ OwnBytes wx w.heap.size v ([UInt8.ofNat wn, UInt8.ofNat hn, UInt8.ofNat sn, UInt8.ofNat n] ++ octs B k) ∧ Lat w wx ∧ IntsAt wx b m c B ∧ OffV b m v)) (fun _ i _ => m - (intOf i).toNat)
  case atStart => exact ⟨0, Nat.zero_le _, rfl, 0, rfl, HO2.out, HB2.out, HAT.out, HOFF0.out⟩
  case round =>
    obtain ⟨I, hI, rfl, hrel⟩ := hrel
    obtain ⟨k, hk, ho, hb, hat, hoff⟩ := hrel.out
    have HK := Lib.hid hk
    have HO := Lib.hid ho
    have HB := Lib.hid hb
    have HAT2 := Lib.hid hat
    have HOFF := Lib.hid hoff
    by_cases hlt : I < m
    · have hI8 : I + 8 ≤ m := by have := HM.out; omega
      obtain ⟨bb, oo, rfl, hcell⟩ := hat.row.at_ (by omega)
      have j1 : (0 : Int) ≤ (I : Int) := by omega
      have j2 : (I : Int) ≤ (I : Int) + 8 := by omega
      have j3 : (I : Int) + 8 ≤ (c : Int) := by omega
      have j4 : I ≤ I + 8 := by omega
      have j5 : I + 8 ≤ c := by omega
      have HCE := Lib.hid hcell
      clear hrel hk ho hb hat hoff hcell
      go_wp2_with fail
      rw [show I + 8 - I = 8 by omega]
      go_loop [15, 53] (fun nv jv => ∃ j : Nat, j ≤ 8 ∧ jv = .int .i64 j ∧ nv = .int .i64 (val (B.drop I) j)) (fun _ jv => 8 - (intOf jv).toNat)
      case atStart => exact ⟨0, by omega, rfl, rfl⟩
      case round =>
        obtain ⟨j, hj, rfl, rfl⟩ := hrel
        have hBd : ∀ z ∈ B.drop I, z = 0 ∨ z = 1 := fun z hz => HBB.out z (List.mem_of_mem_drop hz)
        have hv := val_lt hBd j
        have hv8 : val (B.drop I) j < 256 := Nat.lt_of_lt_of_le hv (pow_le_256 hj)
        obtain ⟨V, hV⟩ : ∃ V, V = val (B.drop I) j := ⟨_, rfl⟩
        rw [← hV] at hv hv8 ⊢
        by_cases hj8 : j < 8
        · have cj := HCE.out (I + j) (by omega)
          rw [← Nat.add_assoc] at cj
          have hz := HBB.out _ (mem_getD B (I + j) (by have := HAT.out.len; omega))
          obtain ⟨cb, hcb, hcc2⟩ : ∃ c : Nat, c < 2 ∧ B.getD (I + j) 0 = c := by rcases hz with h | h; exact ⟨0, by omega, by rw [h]; rfl⟩; exact ⟨1, by omega, by rw [h]; rfl⟩
          rw [hcc2] at cj
          have hst : val (B.drop I) (j + 1) = 2 * V + cb := by
            rw [val, ← hV]
            congr 1
            rw [List.getD_eq_getElem?_getD, List.getElem?_drop, ← List.getD_eq_getElem?_getD, hcc2, Int.toNat_natCast]
          have hor := bits_or_nat (2 * V) cb (by omega) (by omega)
          rw [or_bit V cb hcb, Int.natCast_mul, Int.mul_comm] at hor
          have HST := Lib.hid hst
          have HOR := Lib.hid hor
          have k1 : (j : Int) < 8 := by omega
          clear hBd hv hV hz hcc2 hst hor
          go_wp2_with fail
          go_round
          case rel => exact ⟨j + 1, by omega, by go_num, by rw [HST.out]; exact congrArg _ HOR.out⟩
          case measure => simp [intOf]; omega
        · obtain rfl : j = 8 := by omega
          have hoct : V = oct B k := by rw [hV, HK.out]; rfl
          have u5 : IntKind.u8.wrap (V : Int) = V := by unfold IntKind.wrap; simp [IntKind.signed, IntKind.bits]; omega
          have hst : ([UInt8.ofNat wn, UInt8.ofNat hn, UInt8.ofNat sn, UInt8.ofNat n] ++ octs B k) ++ [UInt8.ofNat V] = [UInt8.ofNat wn, UInt8.ofNat hn, UInt8.ofNat sn, UInt8.ofNat n] ++ octs B (k + 1) := by rw [octs_succ, ← hoct, List.append_assoc]
          have hlen : ([UInt8.ofNat wn, UInt8.ofNat hn, UInt8.ofNat sn, UInt8.ofNat n] ++ octs B k).length < 1000000000000 := by
            rw [List.length_append, octs_len]
            have := HK.out
            simp
            omega
          obtain ⟨L, hL⟩ : ∃ L, L = [UInt8.ofNat wn, UInt8.ofNat hn, UInt8.ofNat sn, UInt8.ofNat n] ++ octs B k := ⟨_, rfl⟩
          have ho := HO.out
          rw [← hL] at hst hlen ho
          have HST := Lib.hid hst
          have HLEN := Lib.hid hlen
          have HOL := Lib.hid ho
          clear hBd hv hV hoct hst hlen hL ho
          go_wp2_with (at_builtin; refine app_u8 wr w _ rfl _ _ rfl _ _ V rfl HOL.out rfl hv8 HLEN.out rfl HB.out ?_)
          intro v2 w4 hown2 hb4 hs4
          rw [HST.out] at hown2
          have hat4 := HAT2.out.stepV (w' := w4) ⟨fun k hk hne => by
            have := hs4.block k hk hne
            exact this, hs4.size, hs4.loc⟩ HOFF.out
          have HO4 := Lib.hid hown2
          have HB4 := Lib.hid hb4
          have HAT4 := Lib.hid hat4
          clear hown2 hb4 hat4 hs4
          go_wp2_with fail
          go_roundw
          case rel => exact ⟨I + 8, by omega, by go_num, k + 1, by have := HK.out; omega, HO4.out, HB4.out, HAT4.out.1, HAT4.out.2⟩
          case measure => simp [intOf]; omega
    · obtain rfl : I = m := by have := HM.out; omega
      have hkq : k = q := by have := HM.out; omega
      rw [hkq] at ho
      have hcv := conv_own ho
      have hlen : ([UInt8.ofNat wn, UInt8.ofNat hn, UInt8.ofNat sn, UInt8.ofNat n] ++ octs B q).length = 4 + q := by rw [List.length_append, octs_len]; rfl
      obtain ⟨a1, c1, rfl, hrow⟩ := Own.slice ho
      obtain ⟨Z, hZ⟩ : ∃ Z, Z = 4 + q := ⟨_, rfl⟩
      rw [List.length_map, hlen, ← hZ] at hcv ⊢
      have hpe : PE = if 120 < Z then 4 else 0 := by rw [HPE2.out, hZ]; rfl
      have HZ := Lib.hid hZ
      clear hZ
      have hps := HPS2.out
      have HCV := Lib.hid hcv
      by_cases h120 : 120 < Z
      · have d1 : decide (120 < (Z : Int)) = true := decide_eq_true (by omega)
        rw [if_pos h120] at hpe
        rw [if_neg (by omega)] at hps
        have E1 := Lib.hid hpe
        have E2 := Lib.hid hps
        clear hrel hk ho hb hat hoff hkq hcv hlen hrow hpe hps h120
        go_wp2_with fail
        go_ret2
        exact ⟨by rw [E1.out, E2.out, errv_pos (by omega)]; rfl, HB.out⟩
      · have d1 : decide (120 < (Z : Int)) = false := decide_eq_false (by omega)
        rw [if_neg h120] at hpe
        rw [if_pos hpe] at hps
        have E1 := Lib.hid hpe
        have E2 := Lib.hid hps
        clear hrel hk ho hb hat hoff hkq hlen hrow hpe hps h120
        go_wp2_with fail
        go_ret2
        exact ⟨by rw [E1.out, E2.out, errv_zero rfl]; rfl, HB.out⟩
end Go.Proofs.YtnnjijdpenifjaaDoor

/- The contracts of rice.Put and rice.Best, one answer for every slice of up to a hundred million numbers. -/
namespace Go.Proofs.YtnnjijdpenifjaaDoor
open Go.ChangeShapes Go.WideShapes Go.ChangeAt Go.RowKit

def putE (low : Int) (zs : List Int) : Nat := if lowB low = false ∨ rgtB zs = false then 1 else if 2000 < (ricL low.toNat zs).length then 4 else 0
def putR (low : Int) (zs : List Int) : List Int := if putE low zs = 0 then ricL low.toNat zs else []
theorem putE_zero {low : Int} {zs : List Int} (h : putE low zs = 0) : 0 ≤ low ∧ low ≤ 7 ∧ (∀ z ∈ zs, -255 ≤ z ∧ z ≤ 255) ∧ (ricL low.toNat zs).length ≤ 2000 := by
  unfold putE at h
  split at h
  · omega
  · rename_i h1
    split at h
    · omega
    · rename_i h2
      have a1 : lowB low = true := by cases hq : lowB low <;> simp_all
      have a2 : rgtB zs = true := by cases hq : rgtB zs <;> simp_all
      simp only [lowB, decide_eq_true_eq] at a1
      exact ⟨a1.1, a1.2, rgtB_yes a2, by omega⟩
theorem wf_bits (low : Nat) (zs : List Int) : ∀ z ∈ ricL low zs, -9223372036854775808 ≤ z ∧ z ≤ 9223372036854775807 := fun z hz => by
  have := ricL_bit low zs z hz; omega

set_option maxHeartbeats 1000000 in
theorem put_tot (a : Option Addr) (n cap : Nat) (zs : List Int) (low : Int) (w : World) (h : IntsAt w a n cap zs) (hn : n ≤ 100000000) :
    Calls Tryd.prog 39 #[.slice a n cap, .int .i64 low] w fun e w' => ∃ b m c, e = .returned (.tuple #[.slice b m c, errv (putE low zs)]) ∧ m = (putR low zs).length ∧ IntsAt w' b m c (putR low zs) ∧ Lat w w' := by
  have hr := right_any a n cap zs w h
  have hlen := h.len
  cases hl : lowB low with
  | false =>
    have e1 : putE low zs = 1 := by unfold putE; rw [if_pos (.inl hl)]
    have e2 : putR low zs = [] := by unfold putR; rw [if_neg (by omega)]
    rw [e1, e2]
    clear e1 e2 h hr hlen
    go_enter Tryd.func39, Tryd.ntmps39
    go_wp2_with fail
    refine (rlow_any low w).mono ?_
    rw [hl]
    rintro e w' ⟨rfl, rfl⟩
    go_wp2
    go_ret2
    exact ⟨none, 0, 0, rfl, rfl, IntsAt.nil _, Lat.refl _⟩
  | true =>
  cases hq : rgtB zs with
  | false =>
    have e1 : putE low zs = 1 := by unfold putE; rw [if_pos (.inr hq)]
    have e2 : putR low zs = [] := by unfold putR; rw [if_neg (by omega)]
    rw [e1, e2]
    rw [hq] at hr
    have HR := Lib.hid hr
    clear e1 e2 h hr hlen
    go_enter Tryd.func39, Tryd.ntmps39
    go_wp2_with fail
    refine (rlow_any low w).mono ?_
    rw [hl]
    rintro e w' ⟨rfl, rfl⟩
    clear hl hq
    go_wp2_with fail
    refine HR.out.mono ?_
    rintro e w' ⟨rfl, rfl⟩
    go_wp2
    go_ret2
    exact ⟨none, 0, 0, rfl, rfl, IntsAt.nil _, Lat.refl _⟩
  | true =>
  have hl2 := hl
  simp only [lowB, decide_eq_true_eq] at hl2
  obtain ⟨l, rfl⟩ := Int.eq_ofNat_of_zero_le hl2.1
  have hz := rgtB_yes hq
  have hb := bits_any a n cap zs l w h hz (by omega) hn
  have hre : ric zs l n = ricL l zs := by rw [← hlen]; exact ric_all zs l
  rw [hre] at hb
  rw [hq] at hr
  have HR := Lib.hid hr
  have HB := Lib.hid hb
  obtain ⟨L, hL⟩ : ∃ L, L = ricL l zs := ⟨_, rfl⟩
  have hwf := wf_bits l zs
  have hc : (2000 < L.length ∧ putE l zs = 4 ∧ putR l zs = []) ∨ (L.length ≤ 2000 ∧ putE l zs = 0 ∧ putR l zs = L) := by
    by_cases hq3 : 2000 < L.length
    · have e1 : putE l zs = 4 := by unfold putE; rw [if_neg (by simp [hl, hq]), Int.toNat_natCast, ← hL, if_pos hq3]
      exact .inl ⟨hq3, e1, by unfold putR; rw [if_neg (by omega)]⟩
    · have e1 : putE l zs = 0 := by unfold putE; rw [if_neg (by simp [hl, hq]), Int.toNat_natCast, ← hL, if_neg hq3]
      exact .inr ⟨by omega, e1, by unfold putR; rw [if_pos e1, Int.toNat_natCast, ← hL]⟩
  rw [← hL] at hb hwf
  have HB := Lib.hid hb
  have HWF := Lib.hid hwf
  obtain ⟨PE, hPE⟩ : ∃ x, x = putE l zs := ⟨_, rfl⟩
  obtain ⟨PR, hPR⟩ : ∃ x, x = putR l zs := ⟨_, rfl⟩
  rw [← hPE, ← hPR] at hc ⊢
  obtain ⟨M, hM⟩ : ∃ M, M = L.length := ⟨_, rfl⟩
  rw [← hM] at hc
  have HM := Lib.hid hM
  clear hb hr hre hz h hlen hL hwf hPE hPR hq hM
  go_enter Tryd.func39, Tryd.ntmps39
  go_wp2_with fail
  refine (rlow_any l w).mono ?_
  rw [hl]
  clear hl
  rintro e w' ⟨rfl, rfl⟩
  go_wp2_with fail
  refine HR.out.mono ?_
  rintro e w' ⟨rfl, rfl⟩
  go_wp2_with fail
  refine HB.out.mono ?_
  rintro e w1 ⟨v, rfl, hown, hb1⟩
  obtain ⟨va, vc, rfl, hat⟩ := OwnInts.sliceN hown HWF.out HM.out.symm
  have HAT := Lib.hid hat
  have HB1 := Lib.hid hb1
  clear hown hat hb1
  rcases hc with ⟨h1, rfl, rfl⟩ | ⟨h1, rfl, h2⟩
  · have d1 : decide (2000 < (M : Int)) = true := decide_eq_true (by omega)
    clear h1
    go_wp2
    go_ret2
    exact ⟨none, 0, 0, rfl, rfl, IntsAt.nil _, HB1.out⟩
  · have d1 : decide (2000 < (M : Int)) = false := decide_eq_false (by omega)
    have H2 := Lib.hid h2
    clear h1 h2
    go_wp2
    go_ret2
    exact ⟨va, M, vc, rfl, by rw [H2.out]; exact HM.out, by rw [H2.out]; exact HAT.out, HB1.out⟩

def bslF (zs : List Int) (j : Nat) : Nat := (ricL j zs).length
def bslE (zs : List Int) : Nat := if rgtB zs = false then 1 else if (bstL (bslF zs) 8).1 < 0 then 4 else 0
def bslV (zs : List Int) : Int := if bslE zs = 0 then (bstL (bslF zs) 8).1 else 0
theorem bstL_bd (f : Nat → Nat) (j : Nat) : -1 ≤ (bstL f j).1 ∧ (bstL f j).1 < max j 1 ∧ 0 ≤ (bstL f j).2 ∧ (bstL f j).2 ≤ 2000 := by
  rcases bst_LR f j with ⟨h1, _, _⟩ | ⟨h1, h2, h3, h4, h5, h6⟩
  · rw [h1]; simp; omega
  · omega
set_option maxHeartbeats 2000000 in
theorem rbest_tot (a : Option Addr) (n cap : Nat) (zs : List Int) (w : World) (h : IntsAt w a n cap zs) (hn : n ≤ 100000000) :
    Calls Tryd.prog 42 #[.slice a n cap] w fun e w' => e = .returned (.tuple #[.int .i64 (bslV zs), errv (bslE zs)]) ∧ Lat w w' := by
  have hr := right_any a n cap zs w h
  have hlen := h.len
  cases hq : rgtB zs with
  | false =>
    have e1 : bslE zs = 1 := by unfold bslE; rw [if_pos hq]
    have e2 : bslV zs = 0 := by unfold bslV; rw [if_neg (by omega)]
    rw [e1, e2]
    rw [hq] at hr
    have HR := Lib.hid hr
    clear e1 e2 h hr hlen hq
    go_enter Tryd.func42, Tryd.ntmps42
    go_wp2_with fail
    refine HR.out.mono ?_
    rintro e w' ⟨rfl, rfl⟩
    go_wp2
    go_ret2
    exact ⟨rfl, Lat.refl _⟩
  | true =>
  have hz := rgtB_yes hq
  have hb : ∀ (l : Nat) (W : World), l ≤ 7 → Lat w W → Calls Tryd.prog 76 #[.slice a n cap, .int .i64 l] W fun e w' => ∃ va vc, e = .returned (.slice va (bslF zs l) vc) ∧ Lat W w' := fun l W hl hW => by
    refine (bits_any a n cap zs l W (h.keep hW) hz hl hn).mono ?_
    rintro e w1 ⟨v, rfl, hown, hb1⟩
    have hre : ric zs l n = ricL l zs := by rw [← hlen]; exact ric_all zs l
    rw [hre] at hown
    obtain ⟨va, vc, rfl, _⟩ := OwnInts.sliceN hown (wf_bits l zs) (rfl : _ = bslF zs l)
    exact ⟨va, vc, rfl, hb1⟩
  rw [hq] at hr
  obtain ⟨F, hF⟩ : ∃ F, F = bslF zs := ⟨_, rfl⟩
  obtain ⟨E, hE⟩ : ∃ E, E = bslE zs := ⟨_, rfl⟩
  obtain ⟨V, hV⟩ : ∃ V, V = bslV zs := ⟨_, rfl⟩
  have hc : ((bstL F 8).1 < 0 ∧ E = 4 ∧ V = 0) ∨ (¬ (bstL F 8).1 < 0 ∧ E = 0 ∧ V = (bstL F 8).1) := by
    rw [hE, hV, hF]
    by_cases h : (bstL (bslF zs) 8).1 < 0
    · have e1 : bslE zs = 4 := by unfold bslE; rw [if_neg (by simp [hq]), if_pos h]
      exact .inl ⟨h, e1, by unfold bslV; rw [if_neg (by omega)]⟩
    · have e1 : bslE zs = 0 := by unfold bslE; rw [if_neg (by simp [hq]), if_neg h]
      exact .inr ⟨h, e1, by unfold bslV; rw [if_pos e1]⟩
  rw [← hF] at hb
  rw [← hE, ← hV]
  have HB := Lib.hid hb
  have HR := Lib.hid hr
  have HC := Lib.hid hc
  clear hb hr hz h hlen hF hE hV hc hq
  go_enter Tryd.func42, Tryd.ntmps42
  go_wp2_with fail
  refine HR.out.mono ?_
  rintro e w' ⟨rfl, rfl⟩
  go_wp2_with fail
  go_loopw [4, 5, 12] (fun b l i wr => ∃ k : Nat, k ≤ 8 ∧ i = .int .i64 k ∧ b = .int .i64 (bstL F k).1 ∧ l = .int .i64 (bstL F k).2 ∧ Hid (Lat w wr)) (fun _ _ i _ => 8 - (intOf i).toNat)
  case atStart => exact ⟨0, Nat.zero_le _, rfl, rfl, rfl, Lat.refl _⟩
  case round =>
    obtain ⟨k, hk, rfl, rfl, rfl, hrel⟩ := hrel
    have hbd := bstL_bd F k
    obtain ⟨P1, hP1⟩ : ∃ x, x = (bstL F k).1 := ⟨_, rfl⟩
    obtain ⟨P2, hP2⟩ : ∃ x, x = (bstL F k).2 := ⟨_, rfl⟩
    rw [← hP1, ← hP2] at hbd
    rw [← hP1, ← hP2]
    by_cases hlt : k < 8
    · have hk8 : (k : Int) < 8 := by omega
      have hst : bstL F (k + 1) = if (F k : Int) < P2 ∨ ((F k : Int) = P2 ∧ P1 < 0) then ((k : Int), (F k : Int)) else (P1, P2) := by rw [bstL, ← hP1, ← hP2, hP1, hP2]
      have hcall := HB.out k wr (by omega) hrel.out
      obtain ⟨q, hFk⟩ : ∃ q, q = F k := ⟨_, rfl⟩
      rw [← hFk] at hst hcall
      have HST := Lib.hid hst
      have HCALL := Lib.hid hcall
      have hd : (decide ((q : Int) < P2) = true ∧ bstL F (k + 1) = ((k : Int), (q : Int))) ∨
          (decide ((q : Int) < P2) = false ∧ ((q : Int) == P2) = true ∧ decide (P1 < 0) = true ∧ bstL F (k + 1) = ((k : Int), (q : Int))) ∨
          (decide ((q : Int) < P2) = false ∧ ((q : Int) == P2) = true ∧ decide (P1 < 0) = false ∧ bstL F (k + 1) = (P1, P2)) ∨
          (decide ((q : Int) < P2) = false ∧ ((q : Int) == P2) = false ∧ bstL F (k + 1) = (P1, P2)) := by
        by_cases a1 : (q : Int) < P2
        · exact .inl ⟨decide_eq_true a1, by rw [hst, if_pos (.inl a1)]⟩
        · by_cases a2 : (q : Int) = P2
          · by_cases a3 : P1 < 0
            · exact .inr (.inl ⟨decide_eq_false a1, beq_iff_eq.2 a2, decide_eq_true a3, by rw [hst, if_pos (.inr ⟨a2, a3⟩)]⟩)
            · exact .inr (.inr (.inl ⟨decide_eq_false a1, beq_iff_eq.2 a2, decide_eq_false a3, by rw [hst, if_neg (by omega)]⟩))
          · exact .inr (.inr (.inr ⟨decide_eq_false a1, beq_eq_false_iff_ne.2 a2, by rw [hst, if_neg (by omega)]⟩))
      clear hst hcall hFk hP1 hP2
      rcases hd with ⟨d1, hst⟩ | ⟨d1, d2, d3, hst⟩ | ⟨d1, d2, d3, hst⟩ | ⟨d1, d2, hst⟩
      all_goals
        have HS := Lib.hid hst
        clear hst
        go_wp2_with fail
        refine HCALL.out.mono ?_
        rintro e w1 ⟨va, vc, rfl, hb1⟩
        have HB1 := Lib.hid (Lat.trans hrel.out hb1)
        clear hb1
        go_wp2
        go_roundw
        case rel => exact ⟨k + 1, by omega, by go_num, by rw [HS.out], by rw [HS.out], HB1.out⟩
        case measure => simp [intOf]; omega
    · obtain rfl : k = 8 := by omega
      rcases HC.out with ⟨h1, rfl, rfl⟩ | ⟨h1, rfl, h2⟩
      · have d1 : decide (P1 < 0) = true := decide_eq_true (by rw [hP1]; exact h1)
        clear h1 HC hP1 hP2
        go_wp2
        go_ret2
        exact ⟨rfl, hrel.out⟩
      · have d1 : decide (P1 < 0) = false := decide_eq_false (by rw [hP1]; omega)
        have h3 : V = P1 := by rw [hP1]; exact h2
        have H3 := Lib.hid h3
        clear h1 h2 HC hP1 hP2 h3
        go_wp2
        go_ret2
        exact ⟨by rw [H3.out]; rfl, hrel.out⟩
end Go.Proofs.YtnnjijdpenifjaaDoor

/- The contract of rice.Get, one answer whatever is asked. -/
namespace Go.Proofs.YtnnjijdpenifjaaDoor
open Go.ChangeShapes Go.WideShapes Go.ChangeAt Go.RowKit

def bitB (n : Int) : Bool := decide (n = 0 ∨ n = 1)
def bitsB (zs : List Int) : Bool := !zs.any fun z => !bitB z
theorem bitsB_yes {zs : List Int} (h : bitsB zs = true) : ∀ z ∈ zs, z = 0 ∨ z = 1 := by
  intro z hz
  simp only [bitsB, Bool.not_eq_true', List.any_eq_false] at h
  have := h z hz
  cases hq : bitB z with
  | true => exact of_decide_eq_true hq
  | false => exact absurd (by simp [hq]) this
theorem bitsB_of {zs : List Int} (h : ∀ z ∈ zs, z = 0 ∨ z = 1) : bitsB zs = true := by
  simp only [bitsB, Bool.not_eq_true', List.any_eq_false]
  intro z hz
  have hq : bitB z = true := decide_eq_true (h z hz)
  rw [hq]; simp
theorem getTest (zs : List Int) : TestI 78 (fun z => !bitB z) zs := by
  intro z _ w
  by_cases h0 : z = 0
  · subst h0
    go_enter Tryd.func78, Tryd.ntmps78
    go_wp2
    go_ret
    exact ⟨rfl, rfl⟩
  by_cases h1 : z = 1
  · subst h1
    go_enter Tryd.func78, Tryd.ntmps78
    go_wp2
    go_ret
    exact ⟨rfl, rfl⟩
  have d0 : (z != 0) = true := bne_iff_ne.2 h0
  have d1 : (z != 1) = true := bne_iff_ne.2 h1
  have hb : bitB z = false := decide_eq_false (fun h => by omega)
  show Calls _ _ _ w fun e w' => e = .returned (.bool (!bitB z)) ∧ w = w'
  rw [hb]
  clear h0 h1 hb
  go_enter Tryd.func78, Tryd.ntmps78
  go_wp2
  go_ret
  exact ⟨rfl, rfl⟩
theorem newReader (a : Option Addr) (n cap : Nat) (zs : List Int) (w : World) (h : IntsAt w a n cap zs) :
    Calls Tryd.prog 79 #[.slice a n cap] w fun e w' => ∃ g, e = .returned (.pointer (some ⟨g, 0, none⟩)) ∧ w.heap.size ≤ g ∧ Rd w' g a n cap 0 zs ∧ Lat w w' := by
  have hf := h.far (g := w.heap.size) (Nat.le_refl _)
  have H := Lib.hid h
  have HF := Lib.hid hf
  clear h hf
  go_enter Tryd.func79, Tryd.ntmps79
  go_wp2
  go_ret
  exact ⟨w.heap.size, rfl, Nat.le_refl _, ⟨by simp, by simp, by simp, H.out.keep (Lat.alloc _ _), HF.out, Nat.zero_le _⟩, Lat.alloc _ _⟩

/-- the numbers of just these bits -/
def gotN (low many : Nat) (zs : List Int) : Option (List Int) := match numbs low many zs with
  | some (vs, []) => some vs
  | _ => none
def getE (low many : Int) (zs : List Int) : Nat :=
  if lowB low = false ∨ many < 0 ∨ 2000 < many then 1 else if 2000 < zs.length then 4 else if bitsB zs = false then 1 else if gotN low.toNat many.toNat zs = none then 2 else 0
def getR (low many : Int) (zs : List Int) : List Int := if getE low many zs = 0 then (gotN low.toNat many.toNat zs).getD [] else []
theorem getR_bad {low many : Int} {zs : List Int} (h : getE low many zs ≠ 0) : getR low many zs = [] := by unfold getR; rw [if_neg h]
theorem gotN_none {low many : Nat} {zs vs : List Int} {ok : Bool} {q : Nat} (h : NumsPost low many zs 0 vs ok q) (hq : ok = true → zs.drop q ≠ []) : gotN low many zs = none := by
  unfold NumsPost at h
  unfold gotN
  rw [List.drop_zero] at h
  cases hn : numbs low many zs with
  | none => rfl
  | some x =>
    obtain ⟨us, r⟩ := x
    rw [hn] at h
    have := hq h.1
    rw [h.2.2] at this
    cases r with
    | nil => exact absurd rfl this
    | cons b t => rfl
theorem gotN_some {low many : Nat} {zs vs : List Int} {q : Nat} (h : NumsPost low many zs 0 vs true q) (hq : zs.drop q = []) : gotN low many zs = some vs := by
  unfold NumsPost at h
  unfold gotN
  rw [List.drop_zero] at h
  cases hn : numbs low many zs with
  | none => rw [hn] at h; exact absurd h.1 (by simp)
  | some x =>
    obtain ⟨us, r⟩ := x
    rw [hn] at h
    rw [h.2.2] at hq
    rw [hq, h.2.1]
set_option maxHeartbeats 4000000 in
theorem get_tot (a : Option Addr) (n cap : Nat) (zs : List Int) (low many : Int) (w : World) (h : IntsAt w a n cap zs) :
    Calls Tryd.prog 41 #[.slice a n cap, .int .i64 low, .int .i64 many] w fun e w' => ∃ b m c, e = .returned (.tuple #[.slice b m c, errv (getE low many zs)]) ∧ IntsAt w' b m c (getR low many zs) ∧ Lat w w' := by
  have hlen := h.len
  have hcap := h.row.cap
  have hle := h.row.le
  unfold maxLen at hcap
  have hbad : ∀ E : Nat, E ≠ 0 → getE low many zs = E → getR low many zs = [] := fun E h0 he => getR_bad (by omega)
  by_cases h1 : lowB low = false ∨ many < 0 ∨ 2000 < many
  · have e1 : getE low many zs = 1 := by unfold getE; rw [if_pos h1]
    rw [hbad 1 (by omega) e1, e1, errv_pos (show (1 : Nat) ≠ 0 by omega)]
    have hd : lowB low = false ∨ (lowB low = true ∧ decide (many < 0) = true) ∨ (lowB low = true ∧ decide (many < 0) = false ∧ decide (2000 < many) = true) := by
      cases hl : lowB low with
      | false => exact .inl rfl
      | true =>
        by_cases hm : many < 0
        · exact .inr (.inl ⟨rfl, decide_eq_true hm⟩)
        · refine .inr (.inr ⟨rfl, decide_eq_false hm, decide_eq_true ?_⟩)
          rcases h1 with h1 | h1 | h1
          · rw [hl] at h1; cases h1
          · omega
          · exact h1
    clear h1 e1 hbad h hlen
    rcases hd with d1 | ⟨d1, d2⟩ | ⟨d1, d2, d3⟩
    all_goals
      have D1 := Lib.hid d1
      clear d1
      go_enter Tryd.func41, Tryd.ntmps41
      go_wp2_with fail
      refine (rlow_any low w).mono ?_
      rw [D1.out]
      rintro e w' ⟨rfl, rfl⟩
      go_wp2
      go_ret2
      exact ⟨none, 0, 0, rfl, IntsAt.nil _, Lat.refl _⟩
  have g1 : lowB low = true := by cases hq : lowB low <;> simp_all
  have g2 : 0 ≤ many ∧ many ≤ 2000 := by
    constructor
    · by_cases h : 0 ≤ many
      · exact h
      · exact absurd (.inr (.inl (by omega))) h1
    · by_cases h : many ≤ 2000
      · exact h
      · exact absurd (.inr (.inr (by omega))) h1
  obtain ⟨k, rfl⟩ := Int.eq_ofNat_of_zero_le g2.1
  have d2 : decide ((k : Int) < 0) = false := decide_eq_false (by omega)
  have d3 : decide (2000 < (k : Int)) = false := decide_eq_false (by omega)
  have G1 := Lib.hid g1
  by_cases h2 : 2000 < n
  · have e1 : getE low k zs = 4 := by unfold getE; rw [if_neg h1, if_pos (by omega)]
    rw [hbad 4 (by omega) e1, e1, errv_pos (show (4 : Nat) ≠ 0 by omega)]
    have d4 : decide (2000 < (n : Int)) = true := decide_eq_true (by omega)
    clear h1 e1 hbad h hlen g1 g2 h2
    go_enter Tryd.func41, Tryd.ntmps41
    go_wp2_with fail
    refine (rlow_any low w).mono ?_
    rw [G1.out]
    rintro e w' ⟨rfl, rfl⟩
    go_wp2
    go_ret2
    exact ⟨none, 0, 0, rfl, IntsAt.nil _, Lat.refl _⟩
  have d4 : decide (2000 < (n : Int)) = false := decide_eq_false (by omega)
  have hc := containsFuncI 78 (enters_of Tryd.func78 (by kernel_rfl) rfl) (fun z => !bitB z) a n cap zs w h (getTest zs)
  obtain ⟨Y, hY⟩ : ∃ Y, Y = zs.any fun z => !bitB z := ⟨_, rfl⟩
  have hb : bitsB zs = !Y := by rw [hY]; rfl
  rw [← hY] at hc
  cases Y with
  | true =>
    have e1 : getE low k zs = 1 := by unfold getE; rw [if_neg h1, if_neg (by omega), if_pos (by rw [hb]; rfl)]
    rw [hbad 1 (by omega) e1, e1, errv_pos (show (1 : Nat) ≠ 0 by omega)]
    have HC := Lib.hid hc
    clear h1 e1 hbad h hlen g1 g2 h2 hc hY hb
    go_enter Tryd.func41, Tryd.ntmps41
    go_wp2_with fail
    refine (rlow_any low w).mono ?_
    rw [G1.out]
    rintro e w' ⟨rfl, rfl⟩
    go_wp2_with fail
    refine HC.out.mono ?_
    rintro e w' ⟨rfl, rfl⟩
    go_wp2
    go_ret2
    exact ⟨none, 0, 0, rfl, IntsAt.nil _, Lat.refl _⟩
  | false =>
  have hbit := bitsB_yes hb
  have gl := g1
  simp only [lowB, decide_eq_true_eq] at gl
  obtain ⟨l, rfl⟩ := Int.eq_ofNat_of_zero_le gl.1
  have hE : getE l k zs = if gotN l k zs = none then 2 else 0 := by unfold getE; rw [if_neg h1, if_neg (by omega), if_neg (by rw [hb]; simp), Int.toNat_natCast, Int.toNat_natCast]
  have hR : getR l k zs = if getE l k zs = 0 then (gotN l k zs).getD [] else [] := by unfold getR; rw [Int.toNat_natCast, Int.toNat_natCast]
  have hgo : ∀ (W : World) (g : Nat), Rd W g a n cap 0 zs → _ := fun W g hr => rnumbers_any W g a n cap 0 l k zs hr hbit (by omega) (by omega) (by omega)
  have HN := Lib.hid (newReader a n cap zs w h)
  have HGO := Lib.hid hgo
  have HE := Lib.hid hE
  have HR := Lib.hid hR
  have HLe := Lib.hid hlen
  have HC := Lib.hid hc
  obtain ⟨EE, hEE⟩ : ∃ E, E = getE l k zs := ⟨_, rfl⟩
  obtain ⟨RR, hRR⟩ : ∃ E, E = getR l k zs := ⟨_, rfl⟩
  rw [← hEE, ← hRR]
  have HEE := Lib.hid hEE
  have HRR := Lib.hid hRR
  clear h1 hbad h hlen g1 g2 h2 hc hY hb hbit hE hR hgo hEE hRR
  go_enter Tryd.func41, Tryd.ntmps41
  go_wp2_with fail
  refine (rlow_any l w).mono ?_
  rw [G1.out]
  rintro e w' ⟨rfl, rfl⟩
  go_wp2_with fail
  refine HC.out.mono ?_
  rintro e w' ⟨rfl, rfl⟩
  go_wp2_with fail
  refine HN.out.mono ?_
  rintro e w1 ⟨g, rfl, hg, hrd, hb1⟩
  have HG := Lib.hid hg
  have HRD := Lib.hid hrd
  have HB1 := Lib.hid hb1
  clear hg hrd hb1
  go_wp2_with fail
  refine (HGO.out w1 g HRD.out).mono ?_
  rintro e w2 ⟨c, m, cc, vs, ok, q, rfl, hat, hr2, hbut, hpost⟩
  have hl2 := hbut.lat HB1.out HG.out
  have k1 := hr2.c1
  have hq := hr2.le
  have HAT := Lib.hid hat
  have HL2 := Lib.hid hl2
  clear hat hl2 hbut hr2
  cases ok with
  | false =>
    have h0 := gotN_none hpost.out (by simp)
    have e1 : EE = 2 := by rw [HEE.out, HE.out, if_pos h0]
    have e2 : RR = [] := by rw [HRR.out]; exact getR_bad (by rw [← HEE.out, e1]; omega)
    subst e1 e2
    clear h0
    go_wp2
    go_ret2
    exact ⟨none, 0, 0, rfl, IntsAt.nil _, HL2.out⟩
  | true =>
    by_cases hqn : q = n
    · have h0 := gotN_some hpost.out (List.drop_eq_nil_of_le (by rw [HLe.out, hqn]; exact Nat.le_refl _))
      have e1 : EE = 0 := by rw [HEE.out, HE.out, if_neg (by rw [h0]; simp)]
      have e2 : RR = vs := by rw [HRR.out, HR.out, ← HEE.out, if_pos e1, h0]; rfl
      subst e1 e2
      have d5 : ((q : Int) != (n : Int)) = false := by rw [bne_eq_false_iff_eq]; omega
      clear h0 hqn
      go_wp2
      go_ret2
      exact ⟨c, m, cc, rfl, HAT.out, HL2.out⟩
    · have h0 := gotN_none hpost.out (fun _ hd => by
        have := congrArg List.length hd
        rw [List.length_drop, HLe.out] at this
        simp at this
        omega)
      have e1 : EE = 2 := by rw [HEE.out, HE.out, if_pos h0]
      have e2 : RR = [] := by rw [HRR.out]; exact getR_bad (by rw [← HEE.out, e1]; omega)
      subst e1 e2
      have d5 : ((q : Int) != (n : Int)) = true := by rw [bne_iff_ne]; omega
      clear h0 hqn
      go_wp2
      go_ret2
      exact ⟨none, 0, 0, rfl, IntsAt.nil _, HL2.out⟩
end Go.Proofs.YtnnjijdpenifjaaDoor

/- The contract of bytes.Unpack: one answer whatever is asked. -/
namespace Go.Proofs.YtnnjijdpenifjaaDoor
open Go.ChangeShapes Go.WideShapes Go.ChangeAt Go.RowKit

def unBits (b : ByteArray) : List Int := bitsOf (b.data.toList.drop 4)
/-- the film that bytes are, where they are one -/
def unO (b : ByteArray) : Option (List Ct) := match rdCs (bt b 0 * bt b 1) (bt b 3) (unBits b) with
  | none => none
  | some (cs, _) => if pkE (bt b 0) (bt b 1) (bt b 2) cs = 0 ∧ pkS (bt b 0) (bt b 1) (bt b 2) cs = b then some cs else none
def unE (b : ByteArray) : Nat := if 120 < b.size then 4 else if b.size < 4 then 2 else if (unO b).isSome = true then 0 else 2
def unL (b : ByteArray) : List Ct := if unE b = 0 then (unO b).getD [] else []
def unV (b : ByteArray) (j : Nat) : Int := if unE b = 0 then bt b j else 0
theorem unL_bad {b : ByteArray} (h : unE b ≠ 0) : unL b = [] := by unfold unL; rw [if_neg h]
theorem unV_bad {b : ByteArray} (h : unE b ≠ 0) (j : Nat) : unV b j = 0 := by unfold unV; rw [if_neg h]
structure UInv (g : Nat) (W1 wr : World) (v : Value) (cs : List Cd) : Prop where
  own : OwnR wr W1.heap.size 53 4 v (cs.map Cd.row)
  but : But g W1 wr
  rest : ∀ c ∈ cs, IntsAt wr c.a c.n c.cap c.c.rs ∧ Off c.a c.n g v
  glt : g < W1.heap.size
theorem UInv.sz {g : Nat} {W1 wr : World} {v : Value} {cs : List Cd} (h : UInv g W1 wr v cs) : g < wr.heap.size := Nat.lt_of_lt_of_le h.glt h.but.size
theorem UInv.onBut {g : Nat} {W1 wr wr' : World} {v : Value} {cs : List Cd} (h : UInv g W1 wr v cs) (hb : But g wr wr') : UInv g W1 wr' v cs := by
  refine ⟨⟨h.own.1, ?_⟩, h.but.trans hb, fun c hc => ⟨(h.rest c hc).1.but hb (fun hn b o ha => ((h.rest c hc).2 hn b o ha).1), (h.rest c hc).2⟩, h.glt⟩
  obtain ⟨h1, h2⟩ := h.own.2
  refine ⟨h1, ?_⟩
  rcases h2 with h2 | ⟨k, cap, cur, rfl, hbb, hh, rest⟩
  · exact .inl h2
  · exact .inr ⟨k, cap, cur, rfl, hbb, by rw [hb.block k (h.own.lt k rfl).2 (by have := h.glt; omega)]; exact hh, rest⟩
theorem UInv.app {g : Nat} {W1 wr w' : World} {v v' : Value} {cs : List Cd} (h : UInv g W1 wr v cs) {c : Cd} (hat : IntsAt wr c.a c.n c.cap c.c.rs) (hf : Off c.a c.n g v)
    (ho : OwnR w' W1.heap.size 53 4 v' (cs.map Cd.row ++ [c.row])) (hb : Below W1.heap.size wr w') (hs : AppStep wr w' v v') : UInv g W1 w' v' (cs ++ [c]) := by
  refine ⟨by rw [List.map_append]; exact ho, h.but.below hb, fun x hx => ?_, h.glt⟩
  rcases List.mem_append.1 hx with hx | hx
  · exact (h.rest x hx).1.step hs (h.rest x hx).2
  · rw [List.mem_singleton.1 hx]; exact hat.step hs hf
theorem Rd.behind {w w' : World} {g B : Nat} {a : Option Addr} {n cap p : Nat} {zs : List Int} (h : Rd w g a n cap p zs) (hb : Below B w w') (hg : g < B) (hn : n ≠ 0 → ∀ b o, a = some ⟨b, o, none⟩ → b < B) : Rd w' g a n cap p zs := by
  refine ⟨by rw [hb.cell (p := ⟨g, 0, none⟩) hg]; exact h.c0, by rw [hb.cell (p := ⟨g, 1, none⟩) hg]; exact h.c1, by rw [hb.frozen (p := ⟨g, 1, none⟩) hg]; exact h.f1, ⟨h.ints.len, ⟨h.ints.row.le, h.ints.row.cap, fun hn0 => ?_⟩, h.ints.wf⟩, h.far, h.le⟩
  obtain ⟨b, o, ha, hc⟩ := h.ints.row.at_ hn0
  exact ⟨b, o, ha, fun j hj => by rw [hb.cell (p := ⟨b, o + j, none⟩) (hn hn0 b o ha)]; exact hc j hj⟩

theorem toList_ne {a b : ByteArray} (h : a ≠ b) : (a.toList == b.toList) = false := by
  rw [beq_eq_false_iff_ne]
  intro e
  rw [ByteArray.toList_eq, ByteArray.toList_eq] at e
  exact h (bytes_inj e)
theorem take_snocB (l : List UInt8) {k : Nat} (h : k < l.length) : l.take (k + 1) = l.take k ++ [l.getD k 0] := by
  rw [List.take_add_one, List.getElem?_eq_getElem h, List.getD_eq_getElem?_getD, List.getElem?_eq_getElem h]; rfl

set_option maxHeartbeats 4000000 in
set_option maxRecDepth 100000 in
theorem unpack_any (b : ByteArray) (w : World) (hsz : b.size ≤ maxLen) :
    Calls Tryd.prog 53 #[.string b] w fun e w' => ∃ a cap cs, e = .returned (.tuple #[.int .i64 (unV b 0), .int .i64 (unV b 1), .int .i64 (unV b 2), .slice a cs.length cap, errv (unE b)]) ∧ CodsAt w' a cs.length cap cs ∧ cs.map Cd.c = unL b ∧ Lat w w' := by
  obtain ⟨E, hE⟩ : ∃ E, E = unE b := ⟨_, rfl⟩
  obtain ⟨L, hL⟩ : ∃ E, E = unL b := ⟨_, rfl⟩
  obtain ⟨V0, hV0⟩ : ∃ E, E = unV b 0 := ⟨_, rfl⟩
  obtain ⟨V1, hV1⟩ : ∃ E, E = unV b 1 := ⟨_, rfl⟩
  obtain ⟨V2, hV2⟩ : ∃ E, E = unV b 2 := ⟨_, rfl⟩
  have hbad : E ≠ 0 → L = [] ∧ V0 = 0 ∧ V1 = 0 ∧ V2 = 0 := fun h => by rw [hE] at h; rw [hL, hV0, hV1, hV2]; exact ⟨unL_bad h, unV_bad h 0, unV_bad h 1, unV_bad h 2⟩
  have hgood : E = 0 → L = (unO b).getD [] ∧ V0 = bt b 0 ∧ V1 = bt b 1 ∧ V2 = bt b 2 := fun h => by
    rw [hE] at h; rw [hL, hV0, hV1, hV2]; unfold unL unV; rw [if_pos h, if_pos h, if_pos h, if_pos h]; exact ⟨rfl, rfl, rfl, rfl⟩
  have hE2 : E = if 120 < b.size then 4 else if b.size < 4 then 2 else if (unO b).isSome = true then 0 else 2 := hE
  rw [← hE, ← hL, ← hV0, ← hV1, ← hV2]
  have HBAD := Lib.hid hbad
  have HGOOD := Lib.hid hgood
  have HE := Lib.hid hE2
  unfold maxLen at hsz
  clear hE hL hV0 hV1 hV2 hbad hgood hE2
  by_cases h120 : 120 < b.size
  · have d1 : decide (120 < (b.size : Int)) = true := decide_eq_true (by omega)
    have e1 : E = 4 := by rw [HE.out, if_pos h120]
    obtain ⟨rfl, rfl, rfl, rfl⟩ := HBAD.out (by omega)
    rw [e1, show errv 4 = eno 4 from errv_pos (by omega)]
    clear e1 h120
    go_enter Tryd.func53, Tryd.ntmps53
    go_wp2_with fail
    exact bodyPost_ret (v := .tuple #[.int .i64 0, .int .i64 0, .int .i64 0, .slice none 0 0, eno 4]) (by simp [results, Tryd.results53, go_sem]) rfl ⟨none, 0, [], rfl, CodsAt.nil _, rfl, Lat.refl _⟩
  have d1 : decide (120 < (b.size : Int)) = false := decide_eq_false (by omega)
  by_cases h4 : b.size < 4
  · have d2 : decide ((b.size : Int) < 4) = true := decide_eq_true (by omega)
    have e1 : E = 2 := by rw [HE.out, if_neg h120, if_pos h4]
    obtain ⟨rfl, rfl, rfl, rfl⟩ := HBAD.out (by omega)
    rw [e1, show errv 2 = eno 2 from errv_pos (by omega)]
    clear e1 h120 h4
    go_enter Tryd.func53, Tryd.ntmps53
    go_wp2_with fail
    exact bodyPost_ret (v := .tuple #[.int .i64 0, .int .i64 0, .int .i64 0, .slice none 0 0, eno 2]) (by simp [results, Tryd.results53, go_sem]) rfl ⟨none, 0, [], rfl, CodsAt.nil _, rfl, Lat.refl _⟩
  have d2 : decide ((b.size : Int) < 4) = false := decide_eq_false (by omega)
  have hE3 : E = if (unO b).isSome = true then 0 else 2 := by rw [HE.out, if_neg h120, if_neg h4]
  have HE3 := Lib.hid hE3
  have g0 : 0 < b.size := by omega
  have g1 : 1 < b.size := by omega
  have g2 : 2 < b.size := by omega
  have g3 : 3 < b.size := by omega
  have i0 : (0:Int) < (b.size : Int) := by omega
  have i1 : (1:Int) < (b.size : Int) := by omega
  have i2 : (2:Int) < (b.size : Int) := by omega
  have i3 : (3:Int) < (b.size : Int) := by omega
  have hb4 : 4 ≤ b.size := by omega
  have hb120 : b.size ≤ 120 := by omega
  have HX : Hid ((b[0]'g0).toNat = bt b 0 ∧ (b[1]'g1).toNat = bt b 1 ∧ (b[2]'g2).toNat = bt b 2 ∧ (b[3]'g3).toNat = bt b 3) := ⟨bt_get b 0 g0, bt_get b 1 g1, bt_get b 2 g2, bt_get b 3 g3⟩
  clear hE3 h120 h4 HE
  go_enter Tryd.func53, Tryd.ntmps53
  go_wp2_with fail
  refine wp_region_gate (fun _ => True) (fun _ => True) 1000 (by kernel_rfl) ?_
  refine gate_takeF (i := 0) (v := ?_) rfl (by kernel_rfl) (by kernel_rfl) (by kernel_rfl) (fun _ _ _ h => h) (by decide) ⟨trivial, fun _ => trivial⟩ (Or.inl ⟨by rfl, ?_⟩) ?_
  rotate_left
  · intro wq hSw; go_simp; rfl
  simp only [Act.put]
  refine gate_takeF (i := 1) (v := ?_) rfl (by kernel_rfl) (by kernel_rfl) (by kernel_rfl) (fun _ _ _ h => h) (by decide) ⟨trivial, fun _ => trivial⟩ (Or.inl ⟨by rfl, ?_⟩) ?_
  rotate_left
  · intro wq hSw; go_simp; rfl
  simp only [Act.put]
  refine gate_takeF (i := 2) (v := ?_) rfl (by kernel_rfl) (by kernel_rfl) (by kernel_rfl) (fun _ _ _ h => h) (by decide) ⟨trivial, fun _ => trivial⟩ (Or.inl ⟨by rfl, ?_⟩) ?_
  rotate_left
  · intro wq hSw; go_simp; rfl
  simp only [Act.put]
  refine gate_takeF (i := 3) (v := ?_) rfl (by kernel_rfl) (by kernel_rfl) (by kernel_rfl) (fun _ _ _ h => h) (by decide) ⟨trivial, fun _ => trivial⟩ (Or.inl ⟨by rfl, ?_⟩) ?_
  rotate_left
  · intro wq hSw; go_simp; rfl
  simp only [Act.put]
  refine gate_takeF (i := 4) (v := ?_) rfl (by kernel_rfl) (by kernel_rfl) (by kernel_rfl) (fun _ _ _ h => h) (by decide) ⟨trivial, fun _ => trivial⟩ (Or.inl ⟨by rfl, ?_⟩) ?_
  rotate_left
  · intro wq hSw; go_simp; rfl
  simp only [Act.put]
  refine gate_takeF (i := 5) (v := ?_) rfl (by kernel_rfl) (by kernel_rfl) (by kernel_rfl) (fun _ _ _ h => h) (by decide) ⟨trivial, fun _ => trivial⟩ (Or.inl ⟨by rfl, ?_⟩) ?_
  rotate_left
  · intro wq hSw; go_simp; rfl
  simp only [Act.put]
  refine gate_takeF (i := 6) (v := ?_) rfl (by kernel_rfl) (by kernel_rfl) (by kernel_rfl) (fun _ _ _ h => h) (by decide) ⟨trivial, fun _ => trivial⟩ (Or.inl ⟨by rfl, ?_⟩) ?_
  rotate_left
  · intro wq hSw; go_simp; rfl
  simp only [Act.put]
  refine gate_takeF (i := 7) (v := ?_) rfl (by kernel_rfl) (by kernel_rfl) (by kernel_rfl) (fun _ _ _ h => h) (by decide) ⟨trivial, fun _ => trivial⟩ (Or.inl ⟨by rfl, ?_⟩) ?_
  rotate_left
  · intro wq hSw; go_simp; rfl
  simp only [Act.put]
  refine gate_takeF (i := 8) (v := ?_) rfl (by kernel_rfl) (by kernel_rfl) (by kernel_rfl) (fun _ _ _ h => h) (by decide) ⟨trivial, fun _ => trivial⟩ (Or.inl ⟨by rfl, ?_⟩) ?_
  rotate_left
  · intro wq hSw; go_simp; rfl
  simp only [Act.put]
  refine gate_takeF (i := 9) (v := ?_) rfl (by kernel_rfl) (by kernel_rfl) (by kernel_rfl) (fun _ _ _ h => h) (by decide) ⟨trivial, fun _ => trivial⟩ (Or.inl ⟨by rfl, ?_⟩) ?_
  rotate_left
  · intro wq hSw; go_simp; rfl
  simp only [Act.put]
  refine gate_takeF (i := 10) (v := ?_) rfl (by kernel_rfl) (by kernel_rfl) (by kernel_rfl) (fun _ _ _ h => h) (by decide) ⟨trivial, fun _ => trivial⟩ (Or.inl ⟨by rfl, ?_⟩) ?_
  rotate_left
  · intro wq hSw; go_simp; rfl
  simp only [Act.put]
  refine gate_takeF (i := 11) (v := ?_) rfl (by kernel_rfl) (by kernel_rfl) (by kernel_rfl) (fun _ _ _ h => h) (by decide) ⟨trivial, fun _ => trivial⟩ (Or.inl ⟨by rfl, ?_⟩) ?_
  rotate_left
  · intro wq hSw; go_simp; rfl
  simp only [Act.put]
  refine gate_takeF (i := 12) (v := ?_) rfl (by kernel_rfl) (by kernel_rfl) (by kernel_rfl) (fun _ _ _ h => h) (by decide) ⟨trivial, fun _ => trivial⟩ (Or.inl ⟨by rfl, ?_⟩) ?_
  rotate_left
  · intro wq hSw; go_simp; rfl
  simp only [Act.put]
  refine gate_takeF (i := 13) (v := ?_) rfl (by kernel_rfl) (by kernel_rfl) (by kernel_rfl) (fun _ _ _ h => h) (by decide) ⟨trivial, fun _ => trivial⟩ (Or.inl ⟨by rfl, ?_⟩) ?_
  rotate_left
  · intro wq hSw; go_simp; rfl
  simp only [Act.put]
  refine gate_takeF (i := 14) (v := ?_) rfl (by kernel_rfl) (by kernel_rfl) (by kernel_rfl) (fun _ _ _ h => h) (by decide) ⟨trivial, fun _ => trivial⟩ (Or.inl ⟨by rfl, ?_⟩) ?_
  rotate_left
  · intro wq hSw; go_simp; rfl
  simp only [Act.put]
  refine gate_takeF (i := 15) (v := ?_) rfl (by kernel_rfl) (by kernel_rfl) (by kernel_rfl) (fun _ _ _ h => h) (by decide) ⟨trivial, fun _ => trivial⟩ (Or.inl ⟨by rfl, ?_⟩) ?_
  rotate_left
  · intro wq hSw; go_simp; rfl
  simp only [Act.put]
  refine gate_done (by kernel_rfl) ?_ _
  simp only [List.getElem_toArray, List.getElem_cons_succ, List.getElem_cons_zero]; go_simp
  rw [HX.out.1, HX.out.2.1, HX.out.2.2.1, HX.out.2.2.2]
  obtain ⟨A0, hA0⟩ : ∃ x, x = bt b 0 := ⟨_, rfl⟩
  obtain ⟨A1, hA1⟩ : ∃ x, x = bt b 1 := ⟨_, rfl⟩
  obtain ⟨A2, hA2⟩ : ∃ x, x = bt b 2 := ⟨_, rfl⟩
  obtain ⟨A3, hA3⟩ : ∃ x, x = bt b 3 := ⟨_, rfl⟩
  rw [← hA0, ← hA1, ← hA2, ← hA3]
  have l0 : A0 < 256 := by rw [hA0]; exact bt_lt b 0
  have l1 : A1 < 256 := by rw [hA1]; exact bt_lt b 1
  have l2 : A2 < 256 := by rw [hA2]; exact bt_lt b 2
  have l3 : A3 < 256 := by rw [hA3]; exact bt_lt b 3
  have hO : unO b = match rdCs (A0 * A1) A3 (unBits b) with
      | none => none
      | some (cs, _) => if pkE A0 A1 A2 cs = 0 ∧ pkS A0 A1 A2 cs = b then some cs else none := by rw [hA0, hA1, hA2, hA3]; rfl
  have hgood : E = 0 → L = (unO b).getD [] ∧ V0 = A0 ∧ V1 = A1 ∧ V2 = A2 := by rw [hA0, hA1, hA2]; exact HGOOD.out
  have HO2 := Lib.hid hO
  have HGOOD2 := Lib.hid hgood
  clear hA0 hA1 hA2 hA3 hO hgood HGOOD HX
  rw [show IntKind.i64.wrap (A0 : Int) = A0 from IntWalk.i64_in _ (by omega), show IntKind.i64.wrap (A1 : Int) = A1 from IntWalk.i64_in _ (by omega), show IntKind.i64.wrap (A2 : Int) = A2 from IntWalk.i64_in _ (by omega), show IntKind.i64.wrap (A3 : Int) = A3 from IntWalk.i64_in _ (by omega)]
  clear i0 i1 i2 i3 g0 g1 g2 g3
  obtain ⟨X, hX⟩ : ∃ X, X = b.extract 4 b.size := ⟨_, rfl⟩
  have hXs : X.size = b.size - 4 := by rw [hX, ByteArray.size_extract]; omega
  have hXb : ∀ j, bt X j = ((b.data.toList.drop 4).getD j 0).toNat := fun j => by
    rw [hX]
    unfold bt
    congr 1
    have : (b.extract 4 b.size).data.toList = b.data.toList.drop 4 := by
      rw [ByteArray.data_extract, Array.toList_extract]
      simp [List.take_of_length_le]
    rw [this]
  have HXS := Lib.hid hXs
  have HXB := Lib.hid hXb
  have hW0 : ∃ W, W = w.drewN 1 := ⟨_, rfl⟩
  go_wp2_with (refine wpList_conv_bytes _ rfl _ _ _ 5 rfl Tryd.underlying9 Tryd.underlying117 Tryd.underlying5 _ rfl ?_)
  rw [← hX]
  intro gc cp w1 hg hcap hb1 hszw hcell hfr
  obtain ⟨N4, hN4⟩ : ∃ N, N = b.size - 4 := ⟨_, rfl⟩
  obtain ⟨l, hl⟩ : ∃ l, l = b.data.toList.drop 4 := ⟨_, rfl⟩
  have hll : l.length = N4 := by rw [hl, hN4, List.length_drop]; rfl
  have hub : unBits b = bitsOf (l.take N4) := by rw [List.take_of_length_le (by omega), hl]; rfl
  have hcl : ∀ j, j < N4 → w1.cell? ⟨gc, j, none⟩ = some (.int .u8 ((l.getD j 0).toNat : Int)) := fun j hj => by
    rw [hl, ← HXB.out j]; exact hcell j (by omega)
  have hN : N4 ≤ 116 := by omega
  have HLL := Lib.hid hll
  have HUB := Lib.hid hub
  have HCL := Lib.hid hcl
  have hL1 : Lat w w1 := ⟨hb1.os, hb1.tape, hb1.output, hb1.size, hb1.block⟩
  have HL1 := Lib.hid hL1
  have hcp : N4 ≤ cp := by omega
  clear hcap
  go_wp2_with fail
  rw [← hN4]
  have hgl : gc < w1.heap.size := by rw [hszw, hg]; omega
  have HGL := Lib.hid hgl
  clear hl hll hub hcl hL1 HXS HXB hXs hXb hX hcell hfr hszw hb1 hgl hg hN4 hb4 hb120 hW0 hsz
  go_loopw [11, 44] (fun v i wx => ∃ k : Nat, k ≤ N4 ∧ i = .int .i64 k ∧ Hid (OwnInts wx w1.heap.size v (bitsOf (l.take k)) ∧ Lat w1 wx)) (fun _ i _ => N4 - (intOf i).toNat)
  case atStart => exact ⟨0, Nat.zero_le _, rfl, Own.nil _ _ _, Lat.refl _⟩
  case round =>
    obtain ⟨k, hk, rfl, hrel⟩ := hrel
    obtain ⟨ho, hb⟩ := hrel.out
    have HO := Lib.hid ho
    have HB := Lib.hid hb
    clear hrel ho hb
    by_cases hlt : k < N4
    · obtain ⟨D, hD⟩ : ∃ D, D = (l.getD k 0).toNat := ⟨_, rfl⟩
      have hD2 : D < 256 := by rw [hD]; exact UInt8.toNat_lt _
      have c0 : wr.cell? ⟨gc, k, none⟩ = some (.int .u8 (D : Int)) := by rw [hD]; exact HB.out.cell_at (HCL.out k hlt)
      have e1 : IntKind.i64.wrap (D : Int) = D := IntWalk.i64_in _ (by omega)
      have hstp : bitsOf (l.take (k + 1)) = bitsOf (l.take k) ++ lowb D 8 := by
        rw [take_snocB l (by have := HLL.out; omega), bitsOf_append, hD]
        show _ ++ (lowb (l.getD k 0).toNat 8 ++ []) = _
        rw [List.append_nil]
      have hsp := spread_at D 8 wr (by omega) (by omega)
      have hlen : (bitsOf (l.take k)).length ≤ 928 := by rw [bitsOf_len, List.length_take]; omega
      obtain ⟨L, hL⟩ : ∃ L, L = bitsOf (l.take k) := ⟨_, rfl⟩
      have ho := HO.out
      rw [← hL] at ho hstp hlen
      have HO := Lib.hid ho
      have HST := Lib.hid hstp
      have HLN := Lib.hid hlen
      have HSP := Lib.hid hsp
      clear hstp hsp hlen ho hL hD
      go_wp2_with fail
      refine HSP.out.mono ?_
      rintro e w3 ⟨a3, c3, rfl, hat3, hb3⟩
      have HAT3 := Lib.hid hat3
      have HO3 := Lib.hid (Own.keep HO.out hb3)
      have HB3 := Lib.hid (Lat.trans HB.out hb3)
      clear hat3 hb3 c0
      go_wp2_with (at_builtin; refine app_ints w3 w1 _ rfl _ _ rfl _ _ _ rfl HO3.out _ _ _ rfl HAT3.out (by have := HLN.out; omega) rfl HB3.out ?_)
      intro v4 w4 hown4 hb4 hs4
      have HO4 := Lib.hid hown4
      have HB4 := Lib.hid hb4
      clear hown4 hb4 hs4
      go_wp2_with fail
      go_roundw
      case rel => exact ⟨k + 1, by omega, by go_num, by rw [HST.out]; exact HO4.out, HB4.out⟩
      case measure => simp [intOf]; omega
    · obtain rfl : k = N4 := by omega
      obtain ⟨LB, hLB⟩ : ∃ L, L = unBits b := ⟨_, rfl⟩
      have ho := HO.out
      rw [← HUB.out, ← hLB] at ho
      have hbit : ∀ z ∈ LB, z = 0 ∨ z = 1 := by rw [hLB]; exact bitsOf_bit _
      have hln : LB.length ≤ 928 := by rw [hLB, HUB.out, bitsOf_len, List.length_take]; omega
      obtain ⟨nL, hnL⟩ : ∃ n, LB.length = n := ⟨_, rfl⟩
      obtain ⟨xa, xc, rfl, hat⟩ := OwnInts.sliceN ho (fun z hz => by rcases hbit z hz with h | h <;> omega) hnL
      have hO2 := HO2.out
      rw [← hLB] at hO2
      have HAT := Lib.hid hat
      have HBIT := Lib.hid hbit
      have HLW := Lib.hid (Lat.trans HL1.out HB.out)
      have HO3 := Lib.hid hO2
      have hnl : nL ≤ 928 := by omega
      clear ho hbit hat hO2 hLB HUB HLL HCL HO HB HGL hln hk hlt hnL
      go_wp2_with fail
      refine (newReader xa nL xc LB wr HAT.out).mono ?_
      rintro e w2 ⟨g, rfl, hgg, hrd, hb2⟩
      have HG := Lib.hid (Nat.le_trans HLW.out.size hgg)
      have HRD := Lib.hid hrd
      have HW2 := Lib.hid (Lat.trans HLW.out hb2)
      clear hgg hrd hb2 HAT HLW
      go_wp2_with fail
      obtain ⟨M, hM⟩ : ∃ M, M = A0 * A1 := ⟨_, rfl⟩
      have hM1 : M ≤ 65025 := by rw [hM]; exact Nat.le_trans (Nat.mul_le_mul (show A0 ≤ 255 by omega) (show A1 ≤ 255 by omega)) (by decide)
      have hmul : IntKind.i64.wrap ((A0 : Int) * (A1 : Int)) = (M : Int) := by
        rw [show (A0 : Int) * (A1 : Int) = (M : Int) by rw [hM]; exact (Int.natCast_mul _ _).symm]
        exact IntWalk.i64_in _ (by omega)
      have hO2 := HO3.out
      rw [← hM] at hO2
      have HO4 := Lib.hid hO2
      clear hM hO2 HO3
      generalize w2 = w2 at *
      go_loopw [15, 57] (fun v i wx => ∃ (k p : Nat) (cs : List Cd), k ≤ A3 ∧ i = .int .i64 k ∧ cs.length = k ∧ Hid (rdCs M k LB = some (cs.map Cd.c, LB.drop p)) ∧ Hid (UInv g w2 wx v cs ∧ Rd wx g xa nL xc p LB)) (fun _ i _ => A3 - (intOf i).toNat)
      case atStart => exact ⟨0, 0, [], Nat.zero_le _, rfl, rfl, rfl, ⟨OwnR.nil _ _ _ _, But.refl _ _, by simp, HRD.out.lt⟩, HRD.out⟩
      case round =>
        obtain ⟨k, p, cs, hk, rfl, hcl, HR, hrel⟩ := hrel
        obtain ⟨hu, hrd⟩ := hrel.out
        have HU := Lib.hid hu
        have HD := Lib.hid hrd
        have HCS := Lib.hid hcl
        clear hrel hu hrd hcl
        by_cases hlt : k < A3
        · have hcall := coded_any wr g xa nL xc p M LB HD.out HBIT.out (by omega) (by omega)
          obtain ⟨O, hO⟩ : ∃ O, O = (rdC M (LB.drop p)).isSome := ⟨_, rfl⟩
          rw [← hO] at hcall
          have HCA := Lib.hid hcall
          have HOO := Lib.hid hO
          clear hcall hO
          go_wp2_with fail
          refine HCA.out.mono ?_
          rintro e w3 ⟨c, cb, ck, cc, q, rfl, hat, hfr, hrd3, hbut, hpo⟩
          clear HCA
          have hu3 := HU.out.onBut hbut
          have hoff := Off.fresh hfr HU.out.sz (fun k hk => (HU.out.own.lt k hk).2)
          obtain ⟨gb, hgb⟩ : ∃ g, g = w3.heap.size := ⟨_, rfl⟩
          obtain ⟨W5, hW5⟩ : ∃ W, W = w3.alloc (.cells #[.bool c.al, .int .i64 c.x, .int .i64 c.y, .slice cb ck cc] 53) := ⟨_, rfl⟩
          have hl5 : Lat w3 W5 := by rw [hW5]; exact Lat.alloc _ _
          have q0 : W5.cell? ⟨gb, 0, none⟩ = some (.bool c.al) := by rw [hW5]; exact cell_new hgb rfl
          have q1 : W5.cell? ⟨gb, 1, none⟩ = some (.int .i64 c.x) := by rw [hW5]; exact cell_new hgb rfl
          have q2 : W5.cell? ⟨gb, 2, none⟩ = some (.int .i64 c.y) := by rw [hW5]; exact cell_new hgb rfl
          have q3 : W5.cell? ⟨gb, 3, none⟩ = some (.slice cb ck cc) := by rw [hW5]; exact cell_new hgb rfl
          have hu5 := hu3.onBut (But.of_lat (g := g) hl5)
          have HU5 := Lib.hid hu5
          have HD5 := Lib.hid (hrd3.keep hl5)
          have HAT5 := Lib.hid (hat.keep hl5)
          have HOFF := Lib.hid hoff
          have HPO := Lib.hid hpo.out
          clear hat hfr hrd3 hbut hpo hu3 hoff hl5 hu5
          go_upto_region 17 with fail
          rw [← hgb, ← hW5]
          clear hW5 hgb
          cases O with
          | false =>
            have hdead : rdCs M A3 LB = none := by
              have h1 := rdCs_snoc HR.out
              have h2 : rdC M (LB.drop p) = none := by
                cases hr : rdC M (LB.drop p) with
                | none => rfl
                | some v => have := HOO.out; rw [hr] at this; cases this
              rw [h2] at h1
              exact rdCs_dead h1 (by omega)
            have hun : unO b = none := by rw [HO4.out, hdead]
            have hE : E = 2 := by rw [HE3.out, hun]; rfl
            have hb := HBAD.out (by omega)
            have hlw : Lat w W5 := HU5.out.but.lat HW2.out HG.out
            have HLW := Lib.hid hlw
            have HBB := Lib.hid hb
            have HEE := Lib.hid hE
            clear hdead hun hE hb hlw q0 q1 q2 q3
            go_wp2_with fail
            exact bodyPost_ret (v := .tuple #[.int .i64 0, .int .i64 0, .int .i64 0, .slice none 0 0, eno 2]) (by simp [results, Tryd.results53, go_sem]) rfl ⟨none, 0, [], by
              rw [HBB.out.2.1, HBB.out.2.2.1, HBB.out.2.2.2, HEE.out, show errv 2 = eno 2 from errv_pos (by omega)]; rfl, CodsAt.nil _, by rw [HBB.out.1]; rfl, HLW.out⟩
          | true =>
            have hstp : rdCs M (k + 1) LB = some ((cs ++ [(⟨c, cb, ck, cc⟩ : Cd)]).map Cd.c, LB.drop q) := by
              have h1 := rdCs_snoc HR.out
              have h2 := HPO.out
              unfold CPost at h2
              cases hr : rdC M (LB.drop p) with
              | none => have := HOO.out; rw [hr] at this; cases this
              | some v =>
                obtain ⟨d, r⟩ := v
                rw [hr] at h1 h2
                obtain ⟨_, rfl, rfl⟩ := h2
                rw [h1, List.map_append]; rfl
            have HST := Lib.hid hstp
            clear hstp HPO HOO
            go_wp2_with (at_builtin; refine appR W5 w2.heap.size rfl _ _ 74 rfl 53 _ 4 48 Tryd.underlying74 info_Coded rfl (by decide) (by decide) _ _ _ (by rfl) HU5.out.own rfl (by rfl) (fun u hu => by simp at hu; rcases hu with rfl | rfl | rfl | rfl <;> rfl) (by rw [List.length_map, HCS.out]; omega) HU5.out.but.size ?_)
            intro v' w6 hown6 hb6 hstep6
            have hu6 := HU5.out.app (c := ⟨c, cb, ck, cc⟩) HAT5.out HOFF.out hown6 hb6 hstep6
            have hd6 := Rd.below HRD.out HD5.out HU5.out.but hb6
            have HU6 := Lib.hid hu6
            have HD6 := Lib.hid hd6
            clear hown6 hb6 hstep6 hu6 hd6 q0 q1 q2 q3
            go_wp2_with fail
            go_roundw
            case rel => exact ⟨k + 1, q, cs ++ [⟨c, cb, ck, cc⟩], by omega, by go_num, by rw [List.length_append, HCS.out]; rfl, HST, HU6.out, HD6.out⟩
            case measure => simp [intOf]; omega
        · obtain rfl : k = A3 := by omega
          obtain ⟨va, vc, rfl, hat⟩ := CodsAt.of HU.out.own (fun c hc => (HU.out.rest c hc).1) HCS.out
          have hun : unO b = if pkE A0 A1 A2 (cs.map Cd.c) = 0 ∧ pkS A0 A1 A2 (cs.map Cd.c) = b then some (cs.map Cd.c) else none := by rw [HO4.out, HR.out]
          have hpk := pack_any A0 A1 A2 va k vc cs wr hat
          obtain ⟨PE, hPE⟩ : ∃ x, x = pkE A0 A1 A2 (cs.map Cd.c) := ⟨_, rfl⟩
          obtain ⟨PS, hPS⟩ : ∃ x, x = pkS A0 A1 A2 (cs.map Cd.c) := ⟨_, rfl⟩
          rw [← hPE, ← hPS] at hpk hun
          have HPK := Lib.hid hpk
          have HUN := Lib.hid hun
          have HAT := Lib.hid hat
          have HLW := Lib.hid (HU.out.but.lat HW2.out HG.out)
          clear hpk hun hat hPE hPS HU HD HRD HBIT
          go_wp2_with fail
          refine HPK.out.mono ?_
          rintro e w3 ⟨rfl, hb3⟩
          have HAT3 := Lib.hid (HAT.out.keep hb3)
          have HLW3 := Lib.hid (Lat.trans HLW.out hb3)
          clear hb3
          have bad : ¬ (PE = 0 ∧ PS = b) → E = 2 := fun h => by rw [HE3.out, HUN.out, if_neg h]; rfl
          have HB2 := Lib.hid bad
          clear bad
          by_cases hp : PE = 0
          case neg =>
            have hE : E = 2 := HB2.out (fun h => hp h.1)
            have hb := HBAD.out (by omega)
            have HBB := Lib.hid hb
            have HEE := Lib.hid hE
            rw [errv_pos hp]
            clear hp hb hE
            go_wp2_with fail
            exact bodyPost_ret (v := .tuple #[.int .i64 0, .int .i64 0, .int .i64 0, .slice none 0 0, eno 2]) (by simp [results, Tryd.results53, go_sem]) rfl ⟨none, 0, [], by
              rw [HBB.out.2.1, HBB.out.2.2.1, HBB.out.2.2.2, HEE.out, show errv 2 = eno 2 from errv_pos (by omega)]; rfl, CodsAt.nil _, by rw [HBB.out.1]; rfl, HLW3.out⟩
          by_cases hs : PS = b
          case neg =>
            have hE : E = 2 := HB2.out (fun h => hs h.2)
            have hb := HBAD.out (by omega)
            have HBB := Lib.hid hb
            have HEE := Lib.hid hE
            have hbn : (PS.toList == b.toList) = false := toList_ne hs
            rw [errv_zero hp]
            clear hp hb hE hs
            go_wp2_with fail
            exact bodyPost_ret (v := .tuple #[.int .i64 0, .int .i64 0, .int .i64 0, .slice none 0 0, eno 2]) (by simp [results, Tryd.results53, go_sem]) rfl ⟨none, 0, [], by
              rw [HBB.out.2.1, HBB.out.2.2.1, HBB.out.2.2.2, HEE.out, show errv 2 = eno 2 from errv_pos (by omega)]; rfl, CodsAt.nil _, by rw [HBB.out.1]; rfl, HLW3.out⟩
          have hun : unO b = some (cs.map Cd.c) := by rw [HUN.out, if_pos ⟨hp, hs⟩]
          have hE : E = 0 := by rw [HE3.out, hun]; rfl
          obtain ⟨h1, h2, h3, h4⟩ := HGOOD2.out hE
          rw [hun] at h1
          have H1 := Lib.hid h1
          have H2 := Lib.hid h2
          have H3 := Lib.hid h3
          have H4 := Lib.hid h4
          have HEE := Lib.hid hE
          have hbn : (PS.toList == b.toList) = true := by rw [hs]; exact beq_iff_eq.2 rfl
          rw [errv_zero hp]
          clear hp hs h1 h2 h3 h4 hun hE
          go_wp2_with fail
          exact bodyPost_ret (v := .tuple #[.int .i64 A0, .int .i64 A1, .int .i64 A2, .slice va k vc, .nilIface]) (by simp [results, Tryd.results53, go_sem]) rfl ⟨va, vc, cs, by
              rw [H2.out, H3.out, H4.out, HEE.out, HCS.out, errv_zero rfl], by rw [HCS.out]; exact HAT3.out, by rw [H1.out]; rfl, HLW3.out⟩
end Go.Proofs.YtnnjijdpenifjaaDoor

/- Plain laws on films as bytes: a packed film is read as it was; cut off it is none. -/
namespace Go.Proofs.YtnnjijdpenifjaaDoor

theorem bt_S (l : List UInt8) (j : Nat) : bt (S l) j = (l.getD j 0).toNat := rfl
theorem ofNat_small {m : Nat} (h : m < 256) : (UInt8.ofNat m).toNat = m := by rw [UInt8.toNat_ofNat']; exact Nat.mod_eq_of_lt h
theorem pkE_zero {wd hg s : Int} {cs : List Ct} (h : pkE wd hg s cs = 0) : fdE wd hg s cs = 0 ∧ (pkB wd hg s cs).length ≤ 120 := by
  unfold pkE at h
  split at h
  · omega
  split at h
  · omega
  constructor <;> omega
theorem pkS_ok {wd hg s : Int} {cs : List Ct} (h : pkE wd hg s cs = 0) : pkS wd hg s cs = S (pkB wd hg s cs) := by unfold pkS; rw [if_pos h]
structure PkOk (wd hg s : Int) (cs : List Ct) (l : List UInt8) : Prop where
  b0 : (bt (S l) 0 : Int) = wd
  b1 : (bt (S l) 1 : Int) = hg
  b2 : (bt (S l) 2 : Int) = s
  b3 : bt (S l) 3 = cs.length
  many : bt (S l) 0 * bt (S l) 1 = (wd * hg).toNat
theorem pk_head {wd hg s : Int} {cs : List Ct} (h : pkE wd hg s cs = 0) (m : Nat) (hm : 4 ≤ m) : PkOk wd hg s cs ((pkB wd hg s cs).take m) := by
  have hf := fd_ok (pkE_zero h).1
  obtain ⟨m, rfl⟩ : ∃ k, m = k + 1 + 1 + 1 + 1 := ⟨m - 4, by omega⟩
  obtain ⟨wn, rfl⟩ := Int.eq_ofNat_of_zero_le (show 0 ≤ wd by have := hf.w1; omega)
  obtain ⟨hn, rfl⟩ := Int.eq_ofNat_of_zero_le (show 0 ≤ hg by have := hf.h1; omega)
  obtain ⟨sn, rfl⟩ := Int.eq_ofNat_of_zero_le (show 0 ≤ s by have := hf.s1; omega)
  have w6 := hf.w6
  have h6 := hf.h6
  have s64 := hf.s64
  have n6 := hf.n6
  have e0 : bt (S ((pkB wn hn sn cs).take (m + 1 + 1 + 1 + 1))) 0 = wn := ofNat_small (m := wn) (by omega)
  have e1 : bt (S ((pkB wn hn sn cs).take (m + 1 + 1 + 1 + 1))) 1 = hn := ofNat_small (m := hn) (by omega)
  have e2 : bt (S ((pkB wn hn sn cs).take (m + 1 + 1 + 1 + 1))) 2 = sn := ofNat_small (m := sn) (by omega)
  have e3 : bt (S ((pkB wn hn sn cs).take (m + 1 + 1 + 1 + 1))) 3 = cs.length := ofNat_small (m := cs.length) (by omega)
  exact ⟨by rw [e0], by rw [e1], by rw [e2], e3, by rw [e0, e1, ← Int.natCast_mul, Int.toNat_natCast]⟩
theorem pk_bits {wd hg s : Int} {cs : List Ct} : bitsOf ((pkB wd hg s cs).drop 4) = pad8 (bcods cs) := by
  show bitsOf (octs (pad8 (bcods cs)) ((pad8 (bcods cs)).length / 8)) = _
  exact octs_all (pad8_bit (bcods_bit cs)) (pad8_mod _)
theorem pk_read {wd hg s : Int} {cs : List Ct} (h : pkE wd hg s cs = 0) : ∃ r, rdCs (wd * hg).toNat cs.length (bitsOf ((pkB wd hg s cs).drop 4)) = some (cs, r) := by
  rw [pk_bits]
  exact ⟨_, rdCs_of _ (fd_ok (pkE_zero h).1).all⟩
/-- A PACKED FILM IS READ AS IT WAS. -/
theorem un_pk {wd hg s : Int} {cs : List Ct} (h : pkE wd hg s cs = 0) : unE (S (pkB wd hg s cs)) = 0 ∧ unL (S (pkB wd hg s cs)) = cs ∧ unV (S (pkB wd hg s cs)) 0 = wd ∧ unV (S (pkB wd hg s cs)) 1 = hg ∧ unV (S (pkB wd hg s cs)) 2 = s := by
  have hl4 : 4 ≤ (pkB wd hg s cs).length := by unfold pkB; rw [List.length_append]; simp
  have hp := pk_head h (pkB wd hg s cs).length hl4
  rw [List.take_length] at hp
  obtain ⟨r, hr⟩ := pk_read h
  have hO : unO (S (pkB wd hg s cs)) = some cs := by
    unfold unO unBits
    rw [hp.many, hp.b3, hp.b0, hp.b1, hp.b2]
    rw [show (S (pkB wd hg s cs)).data.toList = pkB wd hg s cs from rfl, hr]
    simp only
    rw [if_pos ⟨h, pkS_ok h⟩]
  have hE : unE (S (pkB wd hg s cs)) = 0 := by
    unfold unE
    rw [if_neg (by rw [S_size]; have := (pkE_zero h).2; omega), if_neg (by rw [S_size]; omega), hO, if_pos (show (some cs).isSome = true from rfl)]
  refine ⟨hE, ?_, ?_, ?_, ?_⟩
  · unfold unL; rw [if_pos hE, hO]; rfl
  · unfold unV; rw [if_pos hE]; exact hp.b0
  · unfold unV; rw [if_pos hE]; exact hp.b1
  · unfold unV; rw [if_pos hE]; exact hp.b2
/-- CUT OFF IT IS NONE. -/
theorem un_cut {wd hg s : Int} {cs : List Ct} (h : pkE wd hg s cs = 0) {m : Nat} (hm : m < (pkB wd hg s cs).length) : unE (S ((pkB wd hg s cs).take m)) = 2 := by
  have hsz : (S ((pkB wd hg s cs).take m)).size = m := by rw [S_size, List.length_take]; omega
  unfold unE
  rw [hsz, if_neg (by have := (pkE_zero h).2; omega)]
  by_cases h4 : m < 4
  · rw [if_pos h4]
  rw [if_neg h4]
  have hp := pk_head h m (by omega)
  obtain ⟨r, hr⟩ := pk_read h
  have hO : unO (S ((pkB wd hg s cs).take m)) = none := by
    unfold unO unBits
    rw [hp.many, hp.b3, hp.b0, hp.b1, hp.b2]
    show (match rdCs (wd * hg).toNat cs.length (bitsOf (((pkB wd hg s cs).take m).drop 4)) with
      | none => none
      | some (cs', _) => if pkE wd hg s cs' = 0 ∧ pkS wd hg s cs' = S ((pkB wd hg s cs).take m) then some cs' else none) = none
    cases hc : rdCs (wd * hg).toNat cs.length (bitsOf (((pkB wd hg s cs).take m).drop 4)) with
    | none => rfl
    | some v =>
      obtain ⟨cs', r'⟩ := v
      have e : (pkB wd hg s cs).drop 4 = ((pkB wd hg s cs).take m).drop 4 ++ (pkB wd hg s cs).drop m := by
        conv => lhs; rw [← List.take_append_drop m (pkB wd hg s cs)]
        rw [List.drop_append_of_le_length (by rw [List.length_take]; omega)]
      rw [e, bitsOf_append, rdCs_ext _ hc] at hr
      simp only [Option.some.injEq, Prod.mk.injEq] at hr
      obtain ⟨rfl, _⟩ := hr
      simp only
      rw [if_neg]
      rintro ⟨_, h2⟩
      rw [pkS_ok h] at h2
      have := congrArg ByteArray.size h2
      rw [hsz, S_size] at this
      omega
  rw [hO, if_neg (by simp)]
theorem un_good {b : ByteArray} (h : unE b = 0) : pkE (unV b 0) (unV b 1) (unV b 2) (unL b) = 0 ∧ pkS (unV b 0) (unV b 1) (unV b 2) (unL b) = b := by
  have h0 := h
  unfold unE at h
  split at h
  · omega
  split at h
  · omega
  split at h
  · rename_i hs
    have e0 : unV b 0 = bt b 0 := by unfold unV; rw [if_pos h0]
    have e1 : unV b 1 = bt b 1 := by unfold unV; rw [if_pos h0]
    have e2 : unV b 2 = bt b 2 := by unfold unV; rw [if_pos h0]
    have eL : unL b = (unO b).getD [] := by unfold unL; rw [if_pos h0]
    rw [e0, e1, e2, eL]
    unfold unO at hs ⊢
    cases hc : rdCs (bt b 0 * bt b 1) (bt b 3) (unBits b) with
    | none => rw [hc] at hs; simp at hs
    | some v =>
      obtain ⟨cs, r⟩ := v
      rw [hc] at hs
      simp only at hs ⊢
      split at hs
      · rename_i hq
        rw [if_pos hq]
        exact hq
      · simp at hs
  · omega
end Go.Proofs.YtnnjijdpenifjaaDoor

/- The contract of dropsame.Coded. -/
namespace Go.Proofs.YtnnjijdpenifjaaDoor
open Go.ChangeShapes Go.WideShapes Go.ChangeAt Go.RowKit

def sameC (al : Bool) (x y : Int) (zs : List Int) (al2 : Bool) (x2 y2 : Int) (ys : List Int) : Bool := decide (al = al2 ∧ x = x2 ∧ y = y2 ∧ zs = ys)
set_option maxHeartbeats 1000000 in
theorem sameCod_any (al : Bool) (x y : Int) (a : Option Addr) (n cap : Nat) (zs : List Int) (al2 : Bool) (x2 y2 : Int) (b : Option Addr) (m cap2 : Nat) (ys : List Int) (w : World) (h : IntsAt w a n cap zs) (h2 : IntsAt w b m cap2 ys) :
    Calls Tryd.prog 36 #[codV al x y a n cap, codV al2 x2 y2 b m cap2] w fun e w' => e = .returned (.bool (sameC al x y zs al2 x2 y2 ys)) ∧ Lat w w' := by
  obtain ⟨W0, hW0⟩ : ∃ W, W = (w.alloc (.cells #[.bool al, .int .i64 x, .int .i64 y, .slice a n cap] 53)).alloc (.cells #[.bool al2, .int .i64 x2, .int .i64 y2, .slice b m cap2] 53) := ⟨_, rfl⟩
  have hl0 : Lat w W0 := by rw [hW0]; exact Lat.trans (Lat.alloc _ _) (Lat.alloc _ _)
  have hp : Cells4 W0 w.heap.size (.bool al) (.int .i64 x) (.int .i64 y) (.slice a n cap) := by rw [hW0]; exact (cells4_new rfl rfl rfl rfl rfl).keep (Lat.alloc _ _)
  have hq : Cells4 W0 (w.heap.size + 1) (.bool al2) (.int .i64 x2) (.int .i64 y2) (.slice b m cap2) := by rw [hW0]; exact cells4_new (by simp) rfl rfl rfl rfl
  have hc := sameInts_any a n cap zs b m cap2 ys W0 (h.keep hl0) (h2.keep hl0)
  have HC := Lib.hid hc
  have HL0 := Lib.hid hl0
  have p0 := hp.c0
  have p1 := hp.c1
  have p2 := hp.c2
  have p3 := hp.c3
  have q0 := hq.c0
  have q1 := hq.c1
  have q2 := hq.c2
  have q3 := hq.c3
  have hd : ((al == al2) = false ∧ sameC al x y zs al2 x2 y2 ys = false) ∨ ((al == al2) = true ∧ (x == x2) = false ∧ sameC al x y zs al2 x2 y2 ys = false) ∨ ((al == al2) = true ∧ (x == x2) = true ∧ (y == y2) = false ∧ sameC al x y zs al2 x2 y2 ys = false) ∨
      ((al == al2) = true ∧ (x == x2) = true ∧ (y == y2) = true ∧ sameC al x y zs al2 x2 y2 ys = sameI zs ys) := by
    by_cases e1 : al = al2
    · by_cases e2 : x = x2
      · by_cases e3 : y = y2
        · exact .inr (.inr (.inr ⟨by simp [e1], by simp [e2], by simp [e3], by simp [sameC, sameI, e1, e2, e3]⟩))
        · exact .inr (.inr (.inl ⟨by simp [e1], by simp [e2], by simp [e3], by simp [sameC, e3]⟩))
      · exact .inr (.inl ⟨by simp [e1], by simp [e2], by simp [sameC, e2]⟩)
    · exact .inl ⟨by simp [e1], by simp [sameC, e1]⟩
  clear h h2 hl0 hp hq hc
  rcases hd with ⟨d1, d2⟩ | ⟨d1, d2, d3⟩ | ⟨d1, d2, d3, d4⟩ | ⟨d1, d2, d3, d4⟩
  · rw [d2]
    clear d2
    go_enter Tryd.func36, Tryd.ntmps36
    go_upto_region 1 with fail
    rw [← hW0]
    clear hW0
    go_wp2
    go_ret
    exact ⟨rfl, HL0.out⟩
  · rw [d3]
    clear d3
    go_enter Tryd.func36, Tryd.ntmps36
    go_upto_region 1 with fail
    rw [← hW0]
    clear hW0
    go_wp2
    go_ret
    exact ⟨rfl, HL0.out⟩
  · rw [d4]
    clear d4
    go_enter Tryd.func36, Tryd.ntmps36
    go_upto_region 1 with fail
    rw [← hW0]
    clear hW0
    go_wp2
    go_ret
    exact ⟨rfl, HL0.out⟩
  · rw [d4]
    clear d4
    go_enter Tryd.func36, Tryd.ntmps36
    go_upto_region 1 with fail
    rw [← hW0]
    clear hW0
    go_wp2_with fail
    refine HC.out.mono ?_
    rintro e w1 ⟨rfl, hb1⟩
    go_wp2
    go_ret
    exact ⟨rfl, Lat.trans HL0.out hb1⟩
end Go.Proofs.YtnnjijdpenifjaaDoor

/- The contract of dropsame.Film, where it answers yes. -/
namespace Go.Proofs.YtnnjijdpenifjaaDoor
open Go.ChangeShapes Go.WideShapes Go.ChangeAt Go.RowKit

set_option maxHeartbeats 1000000 in
set_option maxRecDepth 100000 in
theorem sameCds_yes (a : Option Addr) (n cap : Nat) (cs : List Cd) (a2 : Option Addr) (cap2 : Nat) (ds : List Cd) (w : World) (h : CodsAt w a n cap cs) (h2 : CodsAt w a2 n cap2 ds) (he : cs.map Cd.c = ds.map Cd.c) :
    Calls Tryd.prog 46 #[.slice a n cap, .slice a2 n cap2] w fun e w' => e = .returned (.bool true) ∧ Lat w w' := by
  have hc := h.cap
  have hle := h.le
  unfold maxLen at hc
  have dn : ((n : Int) != (n : Int)) = false := by simp
  have H1 := Lib.hid h
  have H2 := Lib.hid h2
  have HE := Lib.hid he
  clear h h2 he
  go_enter Tryd.func46, Tryd.ntmps46
  go_wp2_with fail
  go_loopw [5] (fun i wr => ∃ k : Nat, k ≤ n ∧ i = .int .i64 k ∧ Hid (Lat w wr)) (fun i _ => n - (intOf i).toNat)
  case atStart => exact ⟨0, Nat.zero_le _, rfl, Lat.refl _⟩
  case round =>
    obtain ⟨k, hk, rfl, hrel⟩ := hrel
    by_cases hlt : k < n
    · obtain ⟨b1, o1, rfl, _, hc1⟩ := cods_at H1.out (by omega)
      obtain ⟨b2, o2, rfl, _, hc2⟩ := cods_at H2.out (by omega)
      obtain ⟨x0, x1, x2, x3, xi⟩ := hc1 k hlt
      obtain ⟨y0, y1, y2, y3, yi⟩ := hc2 k hlt
      have hp : (cs.getD k default).c = (ds.getD k default).c := by
        rw [← cts_getD (by have := H1.out.len; omega), ← cts_getD (by have := H2.out.len; omega), HE.out]
      obtain ⟨⟨⟨pl, px, py, pz⟩, pa, pn, pc⟩, hP⟩ : ∃ p, p = cs.getD k default := ⟨_, rfl⟩
      obtain ⟨⟨⟨ql, qx, qy, qz⟩, qa, qn, qc⟩, hQ⟩ : ∃ p, p = ds.getD k default := ⟨_, rfl⟩
      rw [← hP] at x0 x1 x2 x3 xi hp
      rw [← hQ] at y0 y1 y2 y3 yi hp
      simp only [Ct.mk.injEq] at hp
      obtain ⟨rfl, rfl, rfl, rfl⟩ := hp
      have x0 := hrel.out.cell_at x0
      have x1 := hrel.out.cell_at x1
      have x2 := hrel.out.cell_at x2
      have x3 := hrel.out.cell_at x3
      have y0 := hrel.out.cell_at y0
      have y1 := hrel.out.cell_at y1
      have y2 := hrel.out.cell_at y2
      have y3 := hrel.out.cell_at y3
      have HXI := Lib.hid (xi.keep hrel.out)
      have HYI := Lib.hid (yi.keep hrel.out)
      have hsp : sameC pl px py pz pl px py pz = true := decide_eq_true ⟨rfl, rfl, rfl, rfl⟩
      have HSP := Lib.hid hsp
      clear hc1 hc2 xi yi hP hQ hsp
      go_wp2_with fail
      go_still_tail 8, (by kernel_rfl)
      change wpList _ _ _ _ _ wr.drew
      have hdr : Lat wr wr.drew := Lat.drewN wr 1
      have HDR := Lib.hid hdr
      have HWD := Lib.hid (Lat.trans hrel.out hdr)
      clear hdr
      generalize wr.drew = w4 at *
      go_wp2_with fail
      refine (sameCod_any pl px py pa pn pc pz pl px py qa qn qc pz w4 (HXI.out.keep HDR.out) (HYI.out.keep HDR.out)).mono ?_
      rw [HSP.out]
      rintro e w5 ⟨rfl, hb5⟩
      have HB5 := Lib.hid (Lat.trans HWD.out hb5)
      clear hb5
      go_wp2_with fail
      go_roundw
      case rel => exact ⟨k + 1, by omega, by go_num, HB5.out⟩
      case measure => simp [intOf]; omega
    · go_wp2_with fail
      go_ret
      exact ⟨rfl, hrel.out⟩
end Go.Proofs.YtnnjijdpenifjaaDoor

/- The contracts of dropsame.Error, Ints, Strings, where they answer yes. -/
namespace Go.Proofs.YtnnjijdpenifjaaDoor
open Go.ChangeShapes Go.WideShapes Go.ChangeAt Go.RowKit

theorem sameErr_nil (w : World) : Calls Tryd.prog 17 #[.nilIface, .int .i64 0] w fun e w' => e = .returned (.bool true) ∧ Lat w w' := by
  go_enter Tryd.func17, Tryd.ntmps17
  go_wp2_with (go_at_call 58; refine (told_nil _).mono ?_; rintro e w' ⟨rfl, hb⟩)
  go_ret
  exact ⟨rfl, hb⟩
theorem sameErr_eno (n : Int) (w : World) (hg : Hnd w) : Calls Tryd.prog 17 #[eno n, .int .i64 n] w fun e w' => e = .returned (.bool true) ∧ Lat w w' := by
  have H := Lib.hid hg
  clear hg
  go_enter Tryd.func17, Tryd.ntmps17
  go_wp2_with (go_at_call 58; refine (told_eno n _ H.out).mono ?_; rintro e w' ⟨rfl, hb⟩)
  go_ret
  exact ⟨rfl, hb⟩
theorem sameErr_any (n : Nat) (w : World) (hg : Hnd w) : Calls Tryd.prog 17 #[errv n, .int .i64 n] w fun e w' => e = .returned (.bool true) ∧ Lat w w' := by
  by_cases h : n = 0
  · subst h; exact sameErr_nil w
  · rw [errv_pos h]; exact sameErr_eno n w hg
end Go.Proofs.YtnnjijdpenifjaaDoor

/- Arguments that are coded pictures, opened. -/
namespace Go.Proofs.YtnnjijdpenifjaaDoor
open Go.ChangeShapes Go.WideShapes Go.ChangeAt Go.RowKit Go.Joins

set_option maxRecDepth 100000
theorem CodAt.keep {w w' : World} {x y : Int} {a : Option Addr} {n cap : Nat} {zs : List Int} (h : CodAt w x y a n cap zs) (hb : Lat w w') : CodAt w' x y a n cap zs := ⟨h.x, h.y, h.pix.keep hb⟩
section
variable {H : Type} {enc : TypeId × Value → H} {w : World} {base : Nat} {spare : Nat → Bool} {held : Bool}
theorem open_codCells {fuel : Nat} {cs : List Value} {d : DataW H × List MemPlace} (h : DataW.trod enc Tryd.prog w base spare held fuel 53 cs = some d) :
    ∃ (al : Bool) (x y : Int) (a : Option Addr) (n cap : Nat) (zs : List Int), cs = [.bool al, .int .i64 x, .int .i64 y, .slice a n cap] ∧ CodAt w x y a n cap zs := by
  obtain ⟨xs, n, _, _, hlen, hxl, hf⟩ := DataW.trod_struct Tryd.underlying53 h
  rw [show Tryd.prog.cellsOf 53 = 4 by kernel_rfl] at hlen
  have hxl3 : xs.length = 3 := hxl
  match cs, hlen with
  | [c0, c1, c2, c3], _ =>
    have h0 := hf 0 _ rfl
    have h1 := hf 1 _ rfl
    have h2 := hf 2 _ rfl
    rw [List.getElem?_eq_getElem (by omega)] at h0 h1 h2
    rw [show Tryd.prog.cellsOf _ = 1 by kernel_rfl] at h0
    rw [show Tryd.prog.cellsOf _ = 2 by kernel_rfl] at h1
    rw [show Tryd.prog.cellsOf _ = 1 by kernel_rfl] at h2
    have h0' : DataW.trod enc Tryd.prog w base spare held n 4 [c0] = some _ := h0
    have h1' : DataW.trod enc Tryd.prog w base spare held n 44 [c1, c2] = some _ := h1
    have h2' : DataW.trod enc Tryd.prog w base spare held n 22 [c3] = some _ := h2
    obtain ⟨al, hb, _⟩ := DataW.trod_bool Tryd.underlying4 h0'
    obtain ⟨ys, k, _, _, _, hyl, hg⟩ := DataW.trod_struct Tryd.underlying44 h1'
    have hyl2 : ys.length = 2 := hyl
    have g0 := hg 0 _ rfl
    have g1 := hg 1 _ rfl
    rw [List.getElem?_eq_getElem (by omega)] at g0 g1
    rw [show Tryd.prog.cellsOf _ = 1 by kernel_rfl] at g0 g1
    have g0' : DataW.trod enc Tryd.prog w base spare held k 3 [c1] = some _ := g0
    have g1' : DataW.trod enc Tryd.prog w base spare held k 3 [c2] = some _ := g1
    obtain ⟨x, rfl, wx⟩ := open_intCell Tryd.underlying3 g0'
    obtain ⟨y, rfl, wy⟩ := open_intCell Tryd.underlying3 g1'
    obtain ⟨a, m, cap, zs, rfl, hz⟩ := open_IntsCell Tryd.underlying22 Tryd.underlying3 (by kernel_rfl) h2'
    simp at hb
    subst hb
    exact ⟨al, x, y, a, m, cap, zs, rfl, wx, wy, hz⟩
theorem open_Cod {r : Reach} {b0 : Nat} {v : Value} {d : DataW H} {p : List MemPlace} (hv : Value.okWide Tryd.prog w r b0 53 v) (h : DataW.Trod enc Tryd.prog w base spare held 53 v d p) :
    ∃ (al : Bool) (x y : Int) (a : Option Addr) (n cap : Nat) (zs : List Int), v = codV al x y a n cap ∧ CodAt w x y a n cap zs := by
  obtain ⟨cs, rfl, hsz⟩ := okWide_struct Tryd.underlying53 hv
  obtain ⟨fuel, hf⟩ := h
  obtain ⟨al, x, y, a, n, cap, zs, hcs, hc⟩ := open_codCells hf
  refine ⟨al, x, y, a, n, cap, zs, ?_, hc⟩
  simp [Value.cells] at hcs
  cases cs
  simp_all
end
end Go.Proofs.YtnnjijdpenifjaaDoor

/- An argument that is a slice of coded pictures, opened. -/
namespace Go.Proofs.YtnnjijdpenifjaaDoor
open Go.ChangeShapes Go.WideShapes Go.ChangeAt Go.RowKit Go.Joins Go.Deep

set_option maxRecDepth 100000
section
variable {H : Type} {enc : TypeId × Value → H} {w : World} {base : Nat} {spare : Nat → Bool} {held : Bool}
theorem open_CodsAt {d : DataW H} {ps : List MemPlace} {a : Option Addr} {n cap : Nat}
    (h : DataW.Trod enc Tryd.prog w base spare held 74 (.slice a n cap) d ps) : ∃ l, CodsAt w a n cap l := by
  obtain ⟨fuel, hf⟩ := h
  rcases open_slice Tryd.underlying74 hf with h0 | ⟨x, l, c, m, k, D, Pl, hcs, _, hl, hm, hmm, hx, hi⟩
  · have hcs := h0.1
    simp [Value.cells] at hcs
    obtain ⟨rfl, rfl, rfl⟩ := hcs
    exact ⟨[], CodsAt.nil w⟩
  · simp [Value.cells] at hcs
    obtain ⟨rfl, rfl, rfl⟩ := hcs
    have hlm : n ≤ m := by rw [hmm]; split <;> omega
    have hb : ∀ i, i < n → ∃ q : Cd, (w.cell? (x.add (i * 4 + 0)) = some (.bool q.c.al) ∧ w.cell? (x.add (i * 4 + 1)) = some (.int .i64 q.c.x) ∧ w.cell? (x.add (i * 4 + 2)) = some (.int .i64 q.c.y) ∧ w.cell? (x.add (i * 4 + 3)) = some (.slice q.a q.n q.cap)) ∧ CodAt w q.c.x q.c.y q.a q.n q.cap q.c.rs := fun i hin => by
      obtain ⟨cs', hc, ht'⟩ := hi i (by omega)
      rw [show Tryd.prog.cellsOf 53 = 4 by kernel_rfl] at hc
      obtain ⟨_, hcl, hat⟩ := World.cells?_some hc
      obtain ⟨al, x', y', pa, pn, pc, zs, hcs', hcod⟩ := open_codCells ht'
      subst hcs'
      refine ⟨⟨⟨al, x', y', zs⟩, pa, pn, pc⟩, ⟨?_, ?_, ?_, ?_⟩, hcod⟩
      · rw [← Go.Deep.add_add, hat 0 (by omega)]; rfl
      · rw [← Go.Deep.add_add, hat 1 (by omega)]; rfl
      · rw [← Go.Deep.add_add, hat 2 (by omega)]; rfl
      · rw [← Go.Deep.add_add, hat 3 (by omega)]; rfl
    obtain ⟨B, hB⟩ := Go.Deep.choose_lt hb
    refine ⟨(List.range n).map B, by simp, hl, hm, fun hn => ?_, fun p hp => ?_⟩
    · have h0 := (hB 0 (by omega)).1.1
      have hs : x = ⟨x.block, x.off, none⟩ := by
        have := World.cell?_spot h0
        cases x with | mk b o s => cases s <;> simp_all [Addr.add]
      refine ⟨x.block, x.off, by rw [← hs], fun j p hp => ?_⟩
      have hj : j < n := by have := (List.getElem?_eq_some_iff.1 hp).1; simpa using this
      have hpB : p = B j := by
        rw [List.getElem?_map, List.getElem?_range hj] at hp
        injection hp with hp
        exact hp.symm
      obtain ⟨c0, c1, c2, c3⟩ := (hB j hj).1
      rw [hs, Addr.add_lit] at c0 c1 c2 c3
      subst hpB
      exact ⟨by simpa using c0, by rw [Nat.add_assoc]; exact c1, by rw [Nat.add_assoc]; exact c2, by rw [Nat.add_assoc]; exact c3⟩
    · obtain ⟨i, hi, rfl⟩ := List.mem_map.1 hp
      exact (hB i (List.mem_range.1 hi)).2.pix
end
end Go.Proofs.YtnnjijdpenifjaaDoor

/- The walk of BytesBack: it returns true, whatever it is asked. -/
namespace Go.Proofs.YtnnjijdpenifjaaDoor
open Go.ChangeShapes Go.WideShapes Go.ChangeAt Go.RowKit

theorem cods_one (w : World) (c : Cd) (h : IntsAt w c.a c.n c.cap c.c.rs) :
    CodsAt (w.alloc (.cells #[.bool c.c.al, .int .i64 c.c.x, .int .i64 c.c.y, .slice c.a c.n c.cap] 53)) (some ⟨w.heap.size, 0, none⟩) 1 1 [c] := by
  refine ⟨rfl, Nat.le_refl _, by decide, fun _ => ⟨w.heap.size, 0, rfl, fun j q hj => ?_⟩, fun q hq => ?_⟩
  · match j, hj with
    | 0, hj =>
      simp at hj; subst hj
      exact ⟨cell_new rfl rfl, cell_new rfl rfl, cell_new rfl rfl, cell_new rfl rfl⟩
  · simp at hq; subst hq; exact h.keep (Lat.alloc _ _)
theorem fact_pk : pkE 1 1 1 [⟨true, 0, 0, [0]⟩] = 0 ∧ pkS 1 1 1 [⟨true, 0, 0, [0]⟩] = ⟨#[1, 1, 1, 1, 128]⟩ := by decide +kernel

set_option maxHeartbeats 4000000 in
set_option maxRecDepth 100000 in
theorem walk_bytesBack (wd hg s : Int) (a : Option Addr) (n cap : Nat) (cs : List Cd) (b : ByteArray) (cut : Int) (w : World) (hgn : Hnd w) (_ : (Lit.int .i64 wd).wf = true) (_ : (Lit.int .i64 hg).wf = true) (_ : (Lit.int .i64 s).wf = true) (h : CodsAt w a n cap cs) (hb : b.size ≤ maxLen) (_ : (Lit.int .i64 cut).wf = true) :
    Calls Tryd.prog 12 #[.int .i64 wd, .int .i64 hg, .int .i64 s, .slice a n cap, .string b, .int .i64 cut] w fun e w' => e = .returned (.bool true) ∧ Lat w w' := by
  have hl := h.len
  have HLN := Lib.hid hl
  have H := Lib.hid h
  have HG := Lib.hid hgn
  -- the first facts
  obtain ⟨W1, hW1⟩ : ∃ W, W = w.alloc (.cells #[.int .i64 0] 3) := ⟨_, rfl⟩
  have hi1 : IntsAt W1 (some ⟨w.heap.size, 0, none⟩) 1 1 [0] := by rw [hW1]; exact ints_new w [0] 3 (by simp) (by intro z hz; simp at hz; omega)
  have hl1 : Lat w W1 := by rw [hW1]; exact Lat.alloc _ _
  have hco := cods_one W1 ⟨⟨true, 0, 0, [0]⟩, some ⟨w.heap.size, 0, none⟩, 1, 1⟩ hi1
  rw [show W1.heap.size = w.heap.size + 1 by rw [hW1]; simp] at hco
  have hfp := pack_any 1 1 1 (some ⟨w.heap.size + 1, 0, none⟩) 1 1 [⟨⟨true, 0, 0, [0]⟩, some ⟨w.heap.size, 0, none⟩, 1, 1⟩] _ hco
  have hf1 : pkE 1 1 1 ([(⟨⟨true, 0, 0, [0]⟩, some ⟨w.heap.size, 0, none⟩, 1, 1⟩ : Cd)].map Cd.c) = 0 := fact_pk.1
  have hf2 : pkS 1 1 1 ([(⟨⟨true, 0, 0, [0]⟩, some ⟨w.heap.size, 0, none⟩, 1, 1⟩ : Cd)].map Cd.c) = ⟨#[1, 1, 1, 1, 128]⟩ := fact_pk.2
  rw [hf1, hf2, errv_zero rfl] at hfp
  have HFP := Lib.hid hfp
  have HL1 := Lib.hid (Lat.trans hl1 (Lat.alloc W1 (.cells #[.bool true, .int .i64 0, .int .i64 0, .slice (some ⟨w.heap.size, 0, none⟩) 1 1] 53)))
  have k1 := fun W => unpack_any b W hb
  obtain ⟨E1, hE1⟩ : ∃ E, E = unE b := ⟨_, rfl⟩
  obtain ⟨V0, hV0⟩ : ∃ E, E = unV b 0 := ⟨_, rfl⟩
  obtain ⟨V1, hV1⟩ : ∃ E, E = unV b 1 := ⟨_, rfl⟩
  obtain ⟨V2, hV2⟩ : ∃ E, E = unV b 2 := ⟨_, rfl⟩
  obtain ⟨L1, hL1⟩ : ∃ E, E = unL b := ⟨_, rfl⟩
  have hgood : E1 = 0 → pkE V0 V1 V2 L1 = 0 ∧ pkS V0 V1 V2 L1 = b := fun h => by rw [hV0, hV1, hV2, hL1]; exact un_good (by rw [← hE1]; exact h)
  simp only [← hE1, ← hV0, ← hV1, ← hV2, ← hL1] at k1
  have K1 := Lib.hid k1
  have HGOOD := Lib.hid hgood
  have k2 := fun W (hW : Lat w W) => pack_any wd hg s a n cap cs W (h.keep hW)
  obtain ⟨CT, hCT⟩ : ∃ C, C = cs.map Cd.c := ⟨_, rfl⟩
  obtain ⟨PE, hPE⟩ : ∃ E, E = pkE wd hg s CT := ⟨_, rfl⟩
  obtain ⟨PS, hPS⟩ : ∃ E, E = pkS wd hg s CT := ⟨_, rfl⟩
  simp only [← hCT, ← hPE, ← hPS] at k2
  have hpk : PE = 0 → PS = S (pkB wd hg s CT) := fun h => by rw [hPS]; exact pkS_ok (by rw [← hPE]; exact h)
  have K2 := Lib.hid k2
  have HPK := Lib.hid hpk
  have HPE := Lib.hid hPE
  have HCT := Lib.hid hCT
  clear hl h hgn hi1 hl1 hco hfp hf1 hf2 k1 hE1 hV0 hV1 hV2 hL1 hgood k2 hCT hPE hPS hpk
  go_enter Tryd.func12, Tryd.ntmps12
  go_wp2_with fail
  rw [← hW1]
  clear hW1
  refine HFP.out.mono ?_
  rintro e w1 ⟨rfl, hb1⟩
  have HB1 := Lib.hid (Lat.trans HL1.out hb1)
  clear hb1
  go_wp2_with fail
  refine (K1.out w1).mono ?_
  rintro e w2 ⟨xa, xc, xs, rfl, hat, hxs, hb2⟩
  have HX := Lib.hid hat
  have HXS := Lib.hid hxs
  have HB2 := Lib.hid (Lat.trans HB1.out hb2)
  clear hat hxs hb2
  obtain ⟨TE, hTE⟩ : ∃ T, T = decide (E1 = 0) := ⟨_, rfl⟩
  have heq := errv_eql E1
  rw [← hTE] at heq
  have hgd := fun op a => errv_guard op a E1
  have HTE := Lib.hid hTE
  clear hTE
  go_upto_if 48 with fail
  clear heq hgd
  go_cut [48] (fun _ wx => Hid (Lat w wx))
  case first =>
    by_cases he : E1 = 0
    · have hte : TE = true := by rw [HTE.out]; exact decide_eq_true he
      subst hte
      clear HTE
      subst he
      obtain ⟨g1, g2⟩ := HGOOD.out rfl
      rw [errv_zero rfl]
      have hp := pack_any V0 V1 V2 xa xs.length xc xs w2 HX.out
      rw [HXS.out, g1, g2, errv_zero rfl] at hp
      have hfd := (pkE_zero g1).1
      have HP := Lib.hid hp
      have HFD := Lib.hid hfd
      clear hp hfd g1 g2
      go_wp2_with fail
      refine HP.out.mono ?_
      rintro e w3 ⟨rfl, hb3⟩
      have hd := fdecode_any V0 V1 V2 xa xs.length xc xs w3 (HX.out.keep hb3)
      rw [HXS.out, HFD.out, errv_zero rfl] at hd
      have HD := Lib.hid hd
      have HB3 := Lib.hid (Lat.trans HB2.out hb3)
      clear hd hb3
      go_wp2_with fail
      refine HD.out.mono ?_
      rintro e w4 ⟨ya, yc, ys, rfl, _, _, hb4⟩
      have HB4 := Lib.hid (Lat.trans HB3.out hb4)
      have t0 : (b.toList == b.toList) = true := beq_iff_eq.2 rfl
      clear hb4
      go_wp2_with fail
      go_meet
      case rel => exact HB4.out
    · have hte : TE = false := by rw [HTE.out]; exact decide_eq_false he
      subst hte
      clear he HTE
      go_wp2_with fail
      go_meet
      case rel => exact HB2.out
  case rest =>
  have HB3 := Lib.hid hcut.out
  clear hcut HX HXS HB2
  generalize wc = w3 at *
  go_wp2_with fail
  refine (K2.out w3 HB3.out).mono ?_
  rintro e w4 ⟨rfl, hb4⟩
  have HB4 := Lib.hid (Lat.trans HB3.out hb4)
  clear hb4
  by_cases hp0 : PE = 0
  case neg =>
    rw [errv_pos hp0]
    clear hp0
    go_wp2_with fail
    go_ret
    exact ⟨rfl, HB4.out⟩
  subst hp0
  have hps := HPK.out rfl
  rw [errv_zero rfl]
  have hpz := HPE.out.symm
  obtain ⟨u1, u2, u3, u4, u5⟩ := un_pk hpz
  have hlen := (pkE_zero hpz).2
  rw [← hps] at u1 u2 u3 u4 u5
  have hsz : PS.size = (pkB wd hg s CT).length := by rw [hps, S_size]
  have hsm : PS.size ≤ 120 := by omega
  have k3 := fun W => unpack_any PS W (by unfold maxLen; omega)
  simp only [u1, u2, u3, u4, u5, errv_zero rfl] at k3
  have hcutE : ∀ m, m < PS.size → unE (PS.extract 0 m) = 2 := fun m hm => by
    have := un_cut hpz (m := m) (by omega)
    rw [hps]
    have e : (S (pkB wd hg s CT)).extract 0 m = S ((pkB wd hg s CT).take m) := by
      unfold S
      rw [ByteArray.extract_mk]
      congr 1
    rw [e]
    exact this
  have K3 := Lib.hid k3
  have HCU := Lib.hid hcutE
  clear hps hpz u1 u2 u3 u4 u5 hlen hsz k3 hcutE
  go_wp2_with fail
  refine (K3.out w4).mono ?_
  rintro e w5 ⟨za, zc, zs, rfl, hat, hzs, hb5⟩
  have hzl : zs.length = n := by
    have h1 := congrArg List.length hzs
    rw [List.length_map, HCT.out, List.length_map] at h1
    rw [h1]; exact HLN.out
  rw [hzl] at hat ⊢
  have HZ := Lib.hid hat
  have HZS := Lib.hid hzs
  have HB5 := Lib.hid (Lat.trans HB4.out hb5)
  have t1 : (wd != wd) = false := by simp
  have t2 : (hg != hg) = false := by simp
  have t3 : (s != s) = false := by simp
  clear hat hzs hb5 hzl
  go_wp2_with fail
  refine (sameCds_yes za n zc zs a cap cs w5 HZ.out (H.out.keep HB5.out) (by rw [HZS.out, HCT.out])).mono ?_
  rintro e w6 ⟨rfl, hb6⟩
  have HB6 := Lib.hid (Lat.trans HB5.out hb6)
  clear hb6
  have hd : (decide (cut < 0) = true ∨ (decide (cut < 0) = false ∧ decide ((PS.size : Int) ≤ cut) = true)) ∨ (decide (cut < 0) = false ∧ decide ((PS.size : Int) ≤ cut) = false ∧ ∃ m : Nat, cut = m ∧ m < PS.size) := by
    by_cases h1 : cut < 0
    · exact .inl (.inl (decide_eq_true h1))
    by_cases h2 : (PS.size : Int) ≤ cut
    · exact .inl (.inr ⟨decide_eq_false h1, decide_eq_true h2⟩)
    obtain ⟨m, rfl⟩ := Int.eq_ofNat_of_zero_le (show 0 ≤ cut by omega)
    exact .inr ⟨decide_eq_false h1, decide_eq_false h2, m, rfl, by omega⟩
  rcases hd with (d1 | ⟨d1, d2⟩) | ⟨d1, d2, m, rfl, hm⟩
  · go_wp2_with fail
    go_ret
    exact ⟨rfl, HB6.out⟩
  · go_wp2_with fail
    go_ret
    exact ⟨rfl, HB6.out⟩
  · have k4 := fun W => unpack_any (PS.extract 0 m) W (by rw [ByteArray.size_extract]; unfold maxLen; omega)
    simp only [HCU.out m hm, show errv 2 = eno 2 from errv_pos (by omega)] at k4
    have K4 := Lib.hid k4
    have j1 : (0 : Int) ≤ (m : Int) := by omega
    have j2 : (m : Int) ≤ (PS.size : Int) := by omega
    have j3 : m ≤ PS.size := by omega
    clear k4
    go_wp2_with fail
    refine (K4.out w6).mono ?_
    rintro e w7 ⟨ya, yc, ys, rfl, _, _, hb7⟩
    have HB7 := Lib.hid (Lat.trans HB6.out hb7)
    clear hb7
    go_wp2_with fail
    refine (sameErr_eno 2 _ (HG.out.keep HB7.out)).mono ?_
    rintro e w8 ⟨rfl, hb8⟩
    go_wp2_with fail
    go_ret
    exact ⟨rfl, Lat.trans HB7.out hb8⟩
end Go.Proofs.YtnnjijdpenifjaaDoor

