/- The walk of BlocksTell: it returns true, whatever it is asked. -/
import Derived.Test.YtllnipmkoibagaaDoorJoin
import Derived.Test.YtllnipmkoibagaaDoorRefSplit
import Derived.Test.YtllnipmkoibagaaDoorRefMix
import Derived.Test.YtllnipmkoibagaaDoorSame
import Derived.Test.YtllnipmkoibagaaDoorSameStrs
import Derived.Deep.DeepCutAuto
import Derived.Deep.CutBlock
namespace Go.Proofs.YtllnipmkoibagaaDoor
open Go.ChangeShapes Go.WideShapes Go.ChangeAt Go.RowKit

theorem flatB_take {ss : List ByteArray} {j : Nat} (h : j < ss.length) : S (flatB (ss.take j)) ++ ss.getD j ByteArray.empty = S (flatB (ss.take (j + 1))) := by
  unfold flatB
  rw [List.take_add_one, List.getElem?_eq_getElem h, List.map_append, List.flatten_append, List.getD_eq_getElem?_getD, List.getElem?_eq_getElem h, ← S_append]
  congr 1
  simp
theorem flatB_take_le {ss : List ByteArray} (j : Nat) : (flatB (ss.take j)).length ≤ (flatB ss).length := by
  conv => rhs; rw [← List.take_append_drop j ss]
  unfold flatB
  rw [List.map_append, List.flatten_append, List.length_append]
  exact Nat.le_add_right _ _
set_option maxHeartbeats 2000000 in
set_option maxRecDepth 100000 in
theorem walk_blocksTell (D : ByteArray) (s : Int) (a : Option Addr) (n cap : Nat) (ss : List ByteArray) (x : Int) (w : World) (hg : Hnd w) (hD : D.size ≤ maxLen) (_ : (Lit.int .i64 s).wf = true) (h : StrsAt w a n cap ss) (_ : (Lit.int .i64 x).wf = true) :
    Calls Tryd.prog 8 #[.string D, .int .i64 s, .slice a n cap, .int .i64 x] w fun e w' => e = .returned (.bool true) ∧ Lat w w' := by
  have hc1 := fun W => refSplit_any D s W hD
  have hc2 := fun W => split_any D s W hD
  obtain ⟨L, hL⟩ : ∃ L, L = spl D s := ⟨_, rfl⟩
  obtain ⟨E, hE⟩ : ∃ E, E = spE D.size s := ⟨_, rfl⟩
  rw [← hL, ← hE] at hc1 hc2
  have HC1 := Lib.hid hc1
  have HC2 := Lib.hid hc2
  have hc3 := fun W q => refBlocks a n cap ss W q
  have hc4 := fun W q => check_any a n cap ss W q
  have hc5 := fun W q => join_any a n cap ss x W q
  obtain ⟨C, hC⟩ : ∃ C, C = chk ss := ⟨_, rfl⟩
  obtain ⟨JE, hJE⟩ : ∃ C, C = jnE ss x := ⟨_, rfl⟩
  obtain ⟨JS, hJS⟩ : ∃ C, C = jnS ss x := ⟨_, rfl⟩
  rw [← hC] at hc3 hc4
  rw [← hJE, ← hJS] at hc5
  have HC3 := Lib.hid hc3
  have HC4 := Lib.hid hc4
  have HC5 := Lib.hid hc5
  have HCC := Lib.hid hC
  have HJE := Lib.hid hJE
  have HJS := Lib.hid hJS
  have HG := Lib.hid hg
  have H := Lib.hid h
  clear hc1 hc2 hc3 hc4 hc5 hL hE hC hJE hJS hg h
  go_enter Tryd.func8, Tryd.ntmps8
  go_wp2_with fail
  refine (HC1.out _).mono ?_
  rintro e w1 ⟨a1, c1, rfl, hat1, hb1⟩
  have HA1 := Lib.hid hat1
  have HB1 := Lib.hid hb1
  clear hat1 hb1
  go_wp2_with fail
  refine (HC2.out _).mono ?_
  rintro e w2 ⟨a2, c2, rfl, hat2, hb2⟩
  have HA2 := Lib.hid hat2
  have HA1' := Lib.hid (HA1.out.keep hb2)
  have HB2 := Lib.hid (Lat.trans HB1.out hb2)
  clear hat2 hb2 HA1 HB1
  go_wp2_with fail
  refine (sameErr_any E _ (HG.out.keep HB2.out)).mono ?_
  rintro e w3 ⟨rfl, hb3⟩
  have HA2' := Lib.hid (HA2.out.keep hb3)
  have HA1 := Lib.hid (HA1'.out.keep hb3)
  have HB3 := Lib.hid (Lat.trans HB2.out hb3)
  clear hb3 HA2 HA1' HB2
  go_wp2_with fail
  refine (sameStrs_yes a2 _ c2 L a1 c1 _ HA2'.out HA1.out).mono ?_
  rintro e w4 ⟨rfl, hb4⟩
  have HB4 := Lib.hid (Lat.trans HB3.out hb4)
  clear hb4 HB3 HA2' HA1
  go_wp2_with fail
  refine (HC3.out _ (H.out.keep HB4.out)).mono ?_
  rintro e w5 ⟨rfl, hb5⟩
  have HB5 := Lib.hid (Lat.trans HB4.out hb5)
  clear hb5 HB4
  go_wp2_with fail
  refine (HC4.out _ (H.out.keep HB5.out)).mono ?_
  rintro e w6 ⟨rfl, hb6⟩
  have HB6 := Lib.hid (Lat.trans HB5.out hb6)
  clear hb6 HB5
  go_wp2_with fail
  refine (sameErr_any C _ (HG.out.keep HB6.out)).mono ?_
  rintro e w7 ⟨rfl, hb7⟩
  have HB7 := Lib.hid (Lat.trans HB6.out hb7)
  clear hb7 HB6
  go_upto_if 46 with fail
  go_cut [10, 15, 16] (fun e t _ wx => e = .int .i64 JE ∧ t = .string JS ∧ w7 = wx)
  case first =>
    by_cases hC0 : C = 0
    case neg =>
      have d1 : ((C : Int) == 0) = false := beq_eq_false_iff_ne.2 (by omega)
      have e1 : JE = C := by rw [HJE.out, HCC.out]; unfold jnE; rw [if_pos (by rw [← HCC.out]; exact hC0)]
      have e2 : JS = .empty := by rw [HJS.out]; unfold jnS; rw [if_neg (by rw [← HJE.out]; omega)]
      have HE1 := Lib.hid e1
      have HE2 := Lib.hid e2
      clear e1 e2 hC0
      go_wp2_with fail
      go_meet
      case rel => exact ⟨by rw [HE1.out], by rw [HE2.out]; rfl, rfl⟩
    have hok : chk ss = 0 := by rw [← HCC.out]; exact hC0
    have d1 : ((C : Int) == 0) = true := beq_iff_eq.2 (by omega)
    have hk := chk_ok hok
    have hl := H.out.len
    have hfl := chk_flat hok
    have hn1 : 1 ≤ n := by have := hk.pos; omega
    have hn2 : n ≤ 16 := by have := hk.most; omega
    obtain ⟨bb, o, rfl, hcs⟩ := (H.out.keep HB7.out).row.at_ (by omega)
    obtain ⟨A, hA⟩ : ∃ A, A = S (flatB ss) := ⟨_, rfl⟩
    have hAs : A.size = (flatB ss).length := by rw [hA, S_size]
    have hA8 : A.size ≤ 128 := by rw [hAs]; exact hfl.2
    obtain ⟨s0, hs0⟩ : ∃ s, s = ss.getD 0 ByteArray.empty := ⟨_, rfl⟩
    have c0 : w7.cell? ⟨bb, o, none⟩ = some (.string (ss.getD 0 ByteArray.empty)) := hcs 0 (by omega)
    rw [← hs0] at c0
    have hz : szAt ss 0 = s0.size := by unfold szAt; rw [hs0]
    have m1 : 1 ≤ s0.size := by rw [← hz]; exact hk.one
    have m8 : s0.size ≤ 8 := by rw [← hz]; exact hk.eight
    have hd : (decide (x < 0) = true ∧ jnE ss x = 1) ∨ (decide (x < 0) = false ∧ decide ((A.size : Int) < x) = true ∧ jnE ss x = 1) ∨
        (∃ y : Nat, x = y ∧ y ≤ A.size ∧ many y s0.size ≠ n ∧ jnE ss x = 1) ∨ (∃ y : Nat, x = y ∧ y ≤ A.size ∧ many y s0.size = n ∧ jnE ss x = 0 ∧ jnS ss x = A.extract 0 y) := by
      have e : jnE ss x = if x < 0 ∨ ((flatB ss).length : Int) < x ∨ many x.toNat (szAt ss 0) ≠ ss.length then 1 else 0 := by unfold jnE; rw [if_neg (by rw [hok]; simp)]
      by_cases q1 : x < 0
      · exact .inl ⟨decide_eq_true q1, by rw [e, if_pos (.inl q1)]⟩
      by_cases q2 : (A.size : Int) < x
      · exact .inr (.inl ⟨decide_eq_false q1, decide_eq_true q2, by rw [e, if_pos (.inr (.inl (by omega)))]⟩)
      obtain ⟨y, rfl⟩ := Int.eq_ofNat_of_zero_le (show 0 ≤ x by omega)
      rw [Int.toNat_natCast, hz, hl] at e
      by_cases q3 : many y s0.size = n
      · have e0 : jnE ss (y : Nat) = 0 := by rw [e, if_neg (by omega)]
        refine .inr (.inr (.inr ⟨y, rfl, by omega, q3, e0, ?_⟩))
        unfold jnS
        rw [if_pos e0, hA, Int.toNat_natCast]
        unfold S
        rw [ByteArray.extract_mk]
        rfl
      · exact .inr (.inr (.inl ⟨y, rfl, by omega, q3, by rw [e, if_pos (.inr (.inr q3))]⟩))
    have hjs : jnE ss x = 1 → jnS ss x = .empty := fun e => by unfold jnS; rw [if_neg (by omega)]
    have hst : ∀ j, j < n → S (flatB (ss.take j)) ++ ss.getD j ByteArray.empty = S (flatB (ss.take (j + 1))) := fun j hj => flatB_take (by omega)
    have hle : ∀ j, (S (flatB (ss.take j))).size ≤ 128 := fun j => by rw [S_size]; exact Nat.le_trans (flatB_take_le j) hfl.2
    have hs8 : ∀ j, j < n → (ss.getD j ByteArray.empty).size ≤ 8 := fun j hj => by
      have := hk.all j (by omega)
      have h8 := hk.eight
      unfold szAt at this h8
      omega
    have hend : S (flatB (ss.take n)) = A := by rw [hA, ← hl, List.take_length]
    have HD := Lib.hid hd
    have HJX := Lib.hid hjs
    have HST := Lib.hid hst
    have HLE := Lib.hid hle
    have HS8 := Lib.hid hs8
    have HEND := Lib.hid hend
    have HCS := Lib.hid hcs
    have dp : (0 : Int) < (n : Int) := by omega
    have HC0 := Lib.hid hC0
    clear hd hjs hst hle hs8 hend hcs hA hAs hs0 hz hk hl hfl hok hC0
    go_wp2_with fail
    go_loop [15, 16] (fun t i => ∃ j : Nat, j ≤ n ∧ i = .int .i64 j ∧ t = .string (S (flatB (ss.take j)))) (fun _ i => n - (intOf i).toNat)
    case atStart => exact ⟨0, Nat.zero_le _, rfl, rfl⟩
    case round =>
      obtain ⟨j, hj, rfl, rfl⟩ := hrel
      by_cases hlt : j < n
      · have b1 := HLE.out j
        have b2 := HS8.out j hlt
        have b3 := HST.out j hlt
        have b4 := HCS.out j hlt
        obtain ⟨X, hX⟩ : ∃ X, X = S (flatB (ss.take j)) := ⟨_, rfl⟩
        obtain ⟨Y, hY⟩ : ∃ Y, Y = ss.getD j ByteArray.empty := ⟨_, rfl⟩
        rw [← hX, ← hY] at b3
        rw [← hX] at b1 ⊢
        rw [← hY] at b2 b4
        have B3 := Lib.hid b3
        clear hX hY b3
        go_wp2_with fail
        go_round
        case rel => exact ⟨j + 1, hlt, by go_num, congrArg Value.string B3.out⟩
        case measure => simp [intOf]; omega
      · obtain rfl : j = n := by omega
        rw [HEND.out]
        rcases HD.out with ⟨d1, e1⟩ | ⟨d1, d2, e1⟩ | ⟨y, rfl, hy, hm, e1⟩ | ⟨y, rfl, hy, hm, e1, e2⟩
        · have H1 := Lib.hid e1
          clear e1
          go_wp2_with fail
          go_meet
          case rel => exact ⟨by rw [HJE.out, H1.out]; rfl, by rw [HJS.out, HJX.out H1.out]; rfl, rfl⟩
        · have H1 := Lib.hid e1
          clear e1
          go_wp2_with fail
          go_meet
          case rel => exact ⟨by rw [HJE.out, H1.out]; rfl, by rw [HJS.out, HJX.out H1.out]; rfl, rfl⟩
        · have H1 := Lib.hid e1
          have d1 : decide ((y : Int) < 0) = false := decide_eq_false (by omega)
          have d2 : decide ((A.size : Int) < (y : Int)) = false := decide_eq_false (by omega)
          have d3 : (((many y s0.size : Nat) : Int) != (j : Int)) = true := by rw [bne_iff_ne]; omega
          clear e1 hm
          go_wp2_with fail
          refine (refMany_any y s0.size _ m1 m8 (by omega)).mono ?_
          rintro e w8 ⟨rfl, rfl⟩
          go_wp2_with fail
          go_meet
          case rel => exact ⟨by rw [HJE.out, H1.out]; rfl, by rw [HJS.out, HJX.out H1.out]; rfl, rfl⟩
        · have H1 := Lib.hid e1
          have H2' := Lib.hid e2
          have d1 : decide ((y : Int) < 0) = false := decide_eq_false (by omega)
          have d2 : decide ((A.size : Int) < (y : Int)) = false := decide_eq_false (by omega)
          have d3 : (((many y s0.size : Nat) : Int) != (j : Int)) = false := by rw [bne_eq_false_iff_eq]; omega
          clear e1 hm e2
          go_wp2_with fail
          refine (refMany_any y s0.size _ m1 m8 (by omega)).mono ?_
          rintro e w8 ⟨rfl, rfl⟩
          go_wp2_with fail
          go_meet
          case rel => exact ⟨by rw [HJE.out, H1.out, HC0.out], by rw [HJS.out, H2'.out], rfl⟩
  case rest =>
  obtain ⟨rfl, rfl, rfl⟩ := hcut
  go_wp2_with fail
  refine (HC5.out _ (H.out.keep HB7.out)).mono ?_
  rintro e w8 ⟨rfl, hb8⟩
  have HB8 := Lib.hid (Lat.trans HB7.out hb8)
  clear hb8
  have t0 : (JS.toList == JS.toList) = true := beq_iff_eq.2 rfl
  go_wp2_with fail
  refine (sameErr_any JE _ (HG.out.keep HB8.out)).mono ?_
  rintro e w9 ⟨rfl, hb9⟩
  have HB9 := Lib.hid (Lat.trans HB8.out hb9)
  clear hb9
  go_wp2_with fail
  go_ret
  exact ⟨rfl, HB9.out⟩
end Go.Proofs.YtllnipmkoibagaaDoor
