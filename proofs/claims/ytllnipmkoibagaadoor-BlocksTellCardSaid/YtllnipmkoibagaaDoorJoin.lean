/- The contract of blocks.Join: one answer whatever is asked. -/
import Derived.Test.YtllnipmkoibagaaDoorSplit
import Derived.Test.YtllnipmkoibagaaDoorBlocks
namespace Go.Proofs.YtllnipmkoibagaaDoor
open Go.ChangeShapes Go.WideShapes Go.ChangeAt Go.RowKit

theorem join_bad (a : Option Addr) (n cap : Nat) (ss : List ByteArray) (x : Int) (w : World) (h : StrsAt w a n cap ss) (hb : chk ss ≠ 0) :
    Calls Tryd.prog 38 #[.slice a n cap, .int .i64 x] w fun e w' => e = .returned (.tuple #[.string .empty, errv (chk ss)]) ∧ Lat w w' := by
  have hc := check_bad a n cap ss w h hb
  rw [errv_pos hb]
  obtain ⟨E, hE⟩ : ∃ E, E = chk ss := ⟨_, rfl⟩
  rw [← hE] at hc ⊢
  have HC := Lib.hid hc
  clear hc hb hE
  go_enter Tryd.func38, Tryd.ntmps38
  go_wp2_with fail
  refine HC.out.mono ?_
  rintro e w1 ⟨rfl, hb1⟩
  go_wp2_with fail
  go_ret2
  exact ⟨rfl, hb1⟩

set_option maxHeartbeats 400000 in
theorem join_good (a : Option Addr) (n cap : Nat) (ss : List ByteArray) (x : Int) (w : World) (h : StrsAt w a n cap ss) (hok : chk ss = 0) :
    Calls Tryd.prog 38 #[.slice a n cap, .int .i64 x] w fun e w' => e = .returned (.tuple #[.string (jnS ss x), errv (jnE ss x)]) ∧ Lat w w' := by
  have hc := check_ok a n cap ss w h hok
  have hk := chk_ok hok
  have hl := h.len
  have hfl := chk_flat hok
  obtain ⟨bb, o, rfl, hcs⟩ := h.row.at_ (by have := hk.pos; omega)
  have c0 : w.cell? ⟨bb, o, none⟩ = some (.string (ss.getD 0 ByteArray.empty)) := hcs 0 (by have := hk.pos; omega)
  have hbk := World.block_lt_of_cell? _ _ c0
  have hcells : ∀ (j : Nat) y, ss[j]? = some y → w.cell? ⟨bb, o + j, none⟩ = some (.string y) := fun j y hj => by
    obtain ⟨hj1, hj2⟩ := List.getElem?_eq_some_iff.1 hj
    rw [hcs j (by omega), List.getD_eq_getElem?_getD, hj]; rfl
  have hj := fun W (hW : Lat w W) => Tryd.strings_Join bb o cap ss .empty W (fun j y q => hW.cell_at (hcells j y q)) (Nat.lt_of_lt_of_le hbk hW.size) (by have := hk.most; omega) (by have := h.row.le; omega)
    (by rw [show ByteArray.empty.data.toList = [] from rfl, join_flat]; omega)
  rw [show ByteArray.empty.data.toList = [] from rfl, join_flat, hl] at hj
  obtain ⟨A, hA⟩ : ∃ A, A = S (flatB ss) := ⟨_, rfl⟩
  change ∀ W, Lat w W → Calls Tryd.prog _ _ W fun e w' => e = .returned (.string (S (flatB ss))) ∧ _ at hj
  rw [← hA] at hj
  have hAs : A.size = (flatB ss).length := by rw [hA, S_size]
  obtain ⟨s0, hs0⟩ : ∃ s, s = ss.getD 0 ByteArray.empty := ⟨_, rfl⟩
  rw [← hs0] at c0
  have hz : szAt ss 0 = s0.size := by unfold szAt; rw [hs0]
  have m1 : 1 ≤ s0.size := by rw [← hz]; exact hk.one
  have m8 : s0.size ≤ 8 := by rw [← hz]; exact hk.eight
  have hA8 : A.size ≤ 128 := by rw [hAs]; exact hfl.2
  have hn1 : 1 ≤ n := by have := hk.pos; omega
  have hn2 : n ≤ 16 := by have := hk.most; omega
  have hd : (decide (x < 0) = true ∧ jnE ss x = 1) ∨ (decide (x < 0) = false ∧ decide ((A.size : Int) < x) = true ∧ jnE ss x = 1) ∨
      (∃ y : Nat, x = y ∧ y ≤ A.size ∧ many y s0.size ≠ n ∧ jnE ss x = 1) ∨ (∃ y : Nat, x = y ∧ y ≤ A.size ∧ many y s0.size = n ∧ jnE ss x = 0 ∧ jnS ss x = A.extract 0 y) := by
    have e : jnE ss x = if x < 0 ∨ ((flatB ss).length : Int) < x ∨ many x.toNat (szAt ss 0) ≠ ss.length then 1 else 0 := by unfold jnE; rw [if_neg (by rw [hok]; simp)]
    by_cases q1 : x < 0
    · exact .inl ⟨decide_eq_true q1, by rw [e, if_pos (.inl q1)]⟩
    by_cases q2 : (A.size : Int) < x
    · exact .inr (.inl ⟨decide_eq_false q1, decide_eq_true q2, by rw [e, if_pos (.inr (.inl (by omega)))]⟩)
    obtain ⟨y, rfl⟩ := Int.eq_ofNat_of_zero_le (show 0 ≤ x by omega)
    rw [Int.toNat_natCast, hz, hl] at e
    by_cases q3 : many y s0.size = n
    · have e0 : jnE ss (y : Nat) = 0 := by rw [e, if_neg (by omega)]
      refine .inr (.inr (.inr ⟨y, rfl, by omega, q3, e0, ?_⟩))
      unfold jnS
      rw [if_pos e0, hA, Int.toNat_natCast]
      unfold S
      rw [ByteArray.extract_mk]
      rfl
    · exact .inr (.inr (.inl ⟨y, rfl, by omega, q3, by rw [e, if_pos (.inr (.inr q3))]⟩))
  have hjs : jnE ss x = 1 → jnS ss x = .empty := fun e => by unfold jnS; rw [if_neg (by omega)]
  have HC := Lib.hid hc
  have HJ := Lib.hid hj
  have HJS := Lib.hid hjs
  have HD := Lib.hid hd
  obtain ⟨E, hE⟩ : ∃ E, E = jnE ss x := ⟨_, rfl⟩
  obtain ⟨R, hR⟩ : ∃ E, E = jnS ss x := ⟨_, rfl⟩
  rw [← hE, ← hR]
  have HE := Lib.hid hE
  have HR := Lib.hid hR
  have dp : (0 : Int) < (n : Int) := by omega
  clear hc hk hfl hcs hbk hcells hj hA hAs hs0 hz hd hjs hok h hE hR
  go_enter Tryd.func38, Tryd.ntmps38
  go_wp2_with fail
  refine HC.out.mono ?_
  rintro e w1 ⟨rfl, hb1⟩
  go_wp2_with fail
  refine (HJ.out _ hb1).mono ?_
  rintro e w2 ⟨rfl, hb2⟩
  have hb := Lat.trans hb1 hb2
  have c2 := hb.cell_at c0
  have HB := Lib.hid hb
  clear hb1 hb2 hb c0
  rcases HD.out with ⟨d1, e1⟩ | ⟨d1, d2, e1⟩ | ⟨y, rfl, hy, hm, e1⟩ | ⟨y, rfl, hy, hm, e1, e2⟩
  · have H1 := Lib.hid e1
    clear e1
    go_wp2_with fail
    go_ret2
    exact ⟨by rw [HR.out, HE.out, HJS.out H1.out, H1.out]; rfl, HB.out⟩
  · have H1 := Lib.hid e1
    clear e1
    go_wp2_with fail
    go_ret2
    exact ⟨by rw [HR.out, HE.out, HJS.out H1.out, H1.out]; rfl, HB.out⟩
  · have H1 := Lib.hid e1
    have d1 : decide ((y : Int) < 0) = false := decide_eq_false (by omega)
    have d2 : decide ((A.size : Int) < (y : Int)) = false := decide_eq_false (by omega)
    have d3 : (((many y s0.size : Nat) : Int) != (n : Int)) = true := by rw [bne_iff_ne]; omega
    clear e1 hm
    go_wp2_with fail
    refine (many_any y s0.size _ m1 m8 (by omega)).mono ?_
    rintro e w3 ⟨rfl, rfl⟩
    go_wp2_with fail
    go_ret2
    exact ⟨by rw [HR.out, HE.out, HJS.out H1.out, H1.out]; rfl, HB.out⟩
  · have H1 := Lib.hid e1
    have H2 := Lib.hid e2
    have d1 : decide ((y : Int) < 0) = false := decide_eq_false (by omega)
    have d2 : decide ((A.size : Int) < (y : Int)) = false := decide_eq_false (by omega)
    have d3 : (((many y s0.size : Nat) : Int) != (n : Int)) = false := by rw [bne_eq_false_iff_eq]; omega
    clear e1 hm e2
    go_wp2_with fail
    refine (many_any y s0.size _ m1 m8 (by omega)).mono ?_
    rintro e w3 ⟨rfl, rfl⟩
    go_wp2_with fail
    go_ret2
    exact ⟨by rw [HR.out, HE.out, H2.out, H1.out]; rfl, HB.out⟩
theorem join_any (a : Option Addr) (n cap : Nat) (ss : List ByteArray) (x : Int) (w : World) (h : StrsAt w a n cap ss) :
    Calls Tryd.prog 38 #[.slice a n cap, .int .i64 x] w fun e w' => e = .returned (.tuple #[.string (jnS ss x), errv (jnE ss x)]) ∧ Lat w w' := by
  by_cases hok : chk ss = 0
  · exact join_good a n cap ss x w h hok
  · have e1 : jnE ss x = chk ss := by unfold jnE; rw [if_pos hok]
    have e2 : jnS ss x = .empty := by unfold jnS; rw [if_neg (by omega)]
    rw [e1, e2]
    exact join_bad a n cap ss x w h hok
theorem check_any (a : Option Addr) (n cap : Nat) (ss : List ByteArray) (w : World) (h : StrsAt w a n cap ss) :
    Calls Tryd.prog 36 #[.slice a n cap] w fun e w' => e = .returned (errv (chk ss)) ∧ Lat w w' := by
  by_cases hok : chk ss = 0
  · rw [errv_zero hok]; exact check_ok a n cap ss w h hok
  · rw [errv_pos hok]; exact check_bad a n cap ss w h hok
end Go.Proofs.YtllnipmkoibagaaDoor
