/- The contracts of package air: has, Give, Lose, Twice, All. -/
import Derived.Test.YtooepflfofgnnaaDoorAir
namespace Go.Proofs.YtooepflfofgnnaaDoor
open Go.ChangeShapes Go.WideShapes Go.ChangeAt Go.RowKit

set_option maxRecDepth 100000
/-- is there such a one? -/
def inA (ds : List Dr) (i : Int) : Bool := decide (0 ≤ i ∧ i < ds.length)
theorem inA_yes {ds : List Dr} {i : Int} (h : inA ds i = true) : ∃ k : Nat, i = k ∧ k < ds.length := by
  have := of_decide_eq_true h
  obtain ⟨k, rfl⟩ := Int.eq_ofNat_of_zero_le this.1
  exact ⟨k, rfl, by omega⟩
theorem inA_no {ds : List Dr} {i : Int} (h : inA ds i = false) : i < 0 ∨ (ds.length : Int) ≤ i := by
  have := of_decide_eq_false h; omega
theorem air_has (p : Nat) (a : Option Addr) (n cap : Nat) (i : Int) (w : World) (hc : w.cell? ⟨p, 0, none⟩ = some (.slice a n cap)) :
    Calls Tryd.prog 55 #[.pointer (some ⟨p, 0, none⟩), .int .i64 i] w fun e w' => e = .returned (.bool (decide (0 ≤ i ∧ i < n))) ∧ w = w' := by
  by_cases h1 : 0 ≤ i
  · have d1 : decide (0 ≤ i) = true := decide_eq_true h1
    by_cases h2 : i < n
    · have d2 : decide (i < (n : Int)) = true := decide_eq_true h2
      rw [show decide (0 ≤ i ∧ i < n) = true from decide_eq_true ⟨h1, h2⟩]
      go_enter Tryd.func55, Tryd.ntmps55
      go_wp2
      go_ret
      exact ⟨rfl, rfl⟩
    · have d2 : decide (i < (n : Int)) = false := decide_eq_false h2
      rw [show decide (0 ≤ i ∧ i < n) = false from decide_eq_false (fun h => h2 h.2)]
      go_enter Tryd.func55, Tryd.ntmps55
      go_wp2
      go_ret
      exact ⟨rfl, rfl⟩
  · have d1 : decide (0 ≤ i) = false := decide_eq_false h1
    rw [show decide (0 ≤ i ∧ i < n) = false from decide_eq_false (fun h => h1 h.1)]
    go_enter Tryd.func55, Tryd.ntmps55
    go_wp2
    go_ret
    exact ⟨rfl, rfl⟩

/-- what is wrong with a number; which drop it is; what is left -/
def giE (ds : List Dr) (i : Int) : Nat := if inA ds i = true then 0 else 1
def giV (ds : List Dr) (i : Int) : Dr := if inA ds i = true then ds.getD i.toNat ⟨0, .empty⟩ else ⟨0, .empty⟩
def giD (ds : List Dr) (i : Int) : List Dr := if inA ds i = true then ds.eraseIdx i.toNat else ds

/-- a drop of a row lies there -/
theorem row_cells {S : Nat → Prop} {p : Nat} {ds : List Dr} {w : World} (h : AirO S p ds w) {k : Nat} (hk : k < ds.length) : ∃ b cap, w.cell? ⟨p, 0, none⟩ = some (.slice (some ⟨b, 0, none⟩) ds.length cap) ∧ OwnR w 0 24 2 (.slice (some ⟨b, 0, none⟩) ds.length cap) (ds.map Dr.row) ∧ S b ∧ b ≠ p ∧
    ds.length ≤ cap ∧ cap ≤ maxLen ∧ ∀ j d, ds[j]? = some d → w.cell? ⟨b, j * 2, none⟩ = some (.int .i64 d.s) ∧ w.cell? ⟨b, j * 2 + 1, none⟩ = some (.string d.t) := by
  obtain ⟨a, cap, hc, ho, hb⟩ := h.row
  have ho1 := ho
  obtain ⟨a', cap', hv, hr⟩ := OwnR.slice ho (show (ds.map Dr.row).length = ds.length by rw [List.length_map])
  injection hv with e1 e2 e3
  subst e1
  subst e3
  have h0 := ho.2.2
  rcases h0 with ⟨he, h0⟩ | ⟨g, cap', cur, he, _, hh, hnc, hcm, hcs, htk⟩
  · rw [List.length_map] at h0; omega
  injection he with e1 e2 e3
  subst e1
  subst e3
  rw [List.length_map] at hnc
  refine ⟨g, cap, hc, ho1, (hb g rfl).1, (hb g rfl).2, hnc, hcm, fun j d hd => ?_⟩
  obtain ⟨b, o, hbo, hcell⟩ := hr.at_ (by omega)
  injection hbo with hbo
  injection hbo with e1 e2 _
  subst e1
  subst e2
  have hr2 : (ds.map Dr.row)[j]? = some d.row := by rw [List.getElem?_map, hd]; rfl
  obtain ⟨_, hc2⟩ := hcell j _ hr2
  have c0 := hc2 0 _ rfl
  have c1 := hc2 1 _ rfl
  rw [Nat.zero_add] at c0 c1
  exact ⟨c0, c1⟩
theorem map_eraseIdx {α β : Type} (f : α → β) (l : List α) (i : Nat) : (l.take i ++ l.drop (i + 1)).map f = (l.map f).take i ++ (l.map f).drop (i + 1) := by
  rw [List.map_append, List.map_take, List.map_drop]

theorem two_set' {w : World} {g : Nat} {a b : Value} (c0 : w.cell? ⟨g, 0, none⟩ = some a) (c1 : w.cell? ⟨g, 1, none⟩ = some b) (x y : Value) :
    ((w.setCell ⟨g, 0, none⟩ x).setCell ⟨g, 1, none⟩ y).cell? ⟨g, 0, none⟩ = some x ∧ ((w.setCell ⟨g, 0, none⟩ x).setCell ⟨g, 1, none⟩ y).cell? ⟨g, 1, none⟩ = some y := by
  constructor
  · rw [World.cell?_setCell_other _ _ _ _ (by simp)]; exact World.cell?_setCell_same _ _ _ c0
  · exact World.cell?_setCell_same _ _ _ ((World.cell?_setCell_other _ _ _ _ (by simp)).trans c1)
set_option maxHeartbeats 4000000 in
theorem air_give_yes (S : Nat → Prop) (p : Nat) (ds : List Dr) (k : Nat) (w : World) (h : AirO S p ds w) (hk : k < ds.length) (hlen : ds.length ≤ 1000000) :
    Calls Tryd.prog 24 #[.pointer (some ⟨p, 0, none⟩), .int .i64 k] w fun e w' => e = .returned (.tuple #[(ds.getD k ⟨0, .empty⟩).v, .nilIface]) ∧ AirStep S p (ds.eraseIdx k) w w' := by
  obtain ⟨b, cap, hc, ho, hSb, hbp, hnc, hcm, hcell⟩ := row_cells h hk
  have hd : ds[k]? = some (ds.getD k ⟨0, .empty⟩) := by rw [List.getD_eq_getElem?_getD, List.getElem?_eq_getElem hk]; rfl
  obtain ⟨c0, c1⟩ := hcell k _ hd
  have herase : ds.eraseIdx k = ds.take k ++ ds.drop (k + 1) := List.eraseIdx_eq_take_drop_succ ds k
  have hlenE : (ds.eraseIdx k).length = ds.length - 1 := List.length_eraseIdx_of_lt hk
  have hfl := h.free
  have hplt := h.lt _ h.at_
  have hblt := h.lt _ hSb
  obtain ⟨n, hn⟩ : ∃ n, n = ds.length := ⟨_, rfl⟩
  obtain ⟨s, t, hst⟩ : ∃ s t, ds.getD k ⟨0, .empty⟩ = ⟨s, t⟩ := ⟨_, _, rfl⟩
  rw [hst] at c0 c1 ⊢
  simp only at c0 c1
  rw [← hn] at hc ho hk hlen hnc
  -- the worlds ahead of the Delete
  obtain ⟨W1, hW1⟩ : ∃ W, W = (w.alloc (.cells #[.int .i64 0, .string .empty] 24)).alloc (.cells #[.int .i64 s, .string t] 24) := ⟨_, rfl⟩
  have hl1 : Lat w W1 := by rw [hW1]; exact Lat.trans (Lat.alloc _ _) (Lat.alloc _ _)
  have hone : ∀ r ∈ ds.map Dr.row, ∀ u ∈ r, u.oneCell' = true := fun r hr u hu => by
    obtain ⟨d, _, rfl⟩ := List.mem_map.1 hr
    simp [Dr.row] at hu
    rcases hu with rfl | rfl <;> rfl
  have hdel := delete_own (some ⟨b, 0, none⟩) n cap (ds.map Dr.row) k (k + 1) W1 (ho.keep hl1) hone (by omega) (by omega)
  rw [show n - (k + 1 - k) = n - 1 by omega, show ((k + 1 : Nat) : Int) = (k : Int) + 1 by omega] at hdel
  have hsz : W1.heap.size = w.heap.size + 2 := by rw [hW1]; simp
  have z00 : W1.cell? ⟨w.heap.size, 0, none⟩ = some (.int .i64 0) ∧ W1.cell? ⟨w.heap.size, 1, none⟩ = some (.string .empty) := by rw [hW1]; exact ⟨(Lat.alloc _ _).cell_at (by simp), (Lat.alloc _ _).cell_at (by simp)⟩
  have z10 : W1.cell? ⟨w.heap.size + 1, 0, none⟩ = some (.int .i64 s) ∧ W1.cell? ⟨w.heap.size + 1, 1, none⟩ = some (.string t) := by rw [hW1]; exact ⟨by simp, by simp⟩
  have f00 : W1.frozen? ⟨w.heap.size, 0, none⟩ = false ∧ W1.frozen? ⟨w.heap.size, 1, none⟩ = false := by rw [hW1]; exact ⟨(Lat.alloc _ _).free_at (by simp) (by simp), (Lat.alloc _ _).free_at (by simp) (by simp)⟩
  have hhas : ∀ W : World, Lat w W → Calls Tryd.prog 55 #[.pointer (some ⟨p, 0, none⟩), .int .i64 (k : Int)] W fun e w' => e = .returned (.bool true) ∧ W = w' := fun W hW => by
    have := air_has p _ n cap k W (hW.cell_at hc)
    rwa [show decide (0 ≤ (k : Int) ∧ (k : Int) < n) = true from decide_eq_true (by omega)] at this
  have b0 := Lat.alloc w (.cells #[.int .i64 0, .string .empty] 24)
  have q0 := b0.cell_at hc
  have q1 := b0.cell_at c0
  have q2 := b0.cell_at c1
  have HHAS := Lib.hid (hhas _ b0)
  have HDEL := Lib.hid hdel
  have HSZ := Lib.hid hsz; have HZ0 := Lib.hid z00; have HZ1 := Lib.hid z10; have HF0 := Lib.hid f00; have HW1 := Lib.hid hW1; have HL1 := Lib.hid hl1; have HN := Lib.hid hn; have HH := Lib.hid h; have HC := Lib.hid hc; have HFL := Lib.hid hfl; have HER := Lib.hid herase; have HLE := Lib.hid hlenE
  unfold maxLen at hcm
  have i1 : (0 : Int) ≤ (k : Int) := by omega
  have i2 : (k : Int) < (n : Int) := by omega
  clear hhas hdel hsz z00 z10 f00 hl1 hn h hc hfl herase hlenE hd hst hcell hone ho b0 c0 c1
  go_enter Tryd.func24, Tryd.ntmps24
  go_upto_region 4 with (go_at_call 55; refine HHAS.out.mono ?_; rintro e w' ⟨rfl, rfl⟩)
  rw [← hW1]
  clear hW1 q0 q1 q2
  have q0 := HL1.out.cell_at HC.out
  go_wp2_with fail
  refine HDEL.out.mono ?_
  rintro e w2 ⟨rfl, hown2, hfr2⟩
  have cp : w2.cell? ⟨p, 0, none⟩ = some (.slice (some ⟨b, 0, none⟩) n cap) := hfr2.cell_at q0 (fun e => hbp (Option.some.inj e))
  have fp : w2.frozen? ⟨p, 0, none⟩ = false := hfr2.free_at (by have := HSZ.out; simp; omega) (HL1.out.free_at hplt HFL.out) (fun e => hbp (Option.some.inj e))
  have ne0 : ¬ (Value.slice (some ⟨b, 0, none⟩) n cap).ownBlock = some w.heap.size := fun e => by have : b = w.heap.size := Option.some.inj e; omega
  have ne1 : ¬ (Value.slice (some ⟨b, 0, none⟩) n cap).ownBlock = some (w.heap.size + 1) := fun e => by have : b = w.heap.size + 1 := Option.some.inj e; omega
  have z00 : w2.cell? ⟨w.heap.size, 0, none⟩ = some (.int .i64 0) := hfr2.cell_at HZ0.out.1 ne0
  have z01 : w2.cell? ⟨w.heap.size, 1, none⟩ = some (.string .empty) := hfr2.cell_at HZ0.out.2 ne0
  have z10 : w2.cell? ⟨w.heap.size + 1, 0, none⟩ = some (.int .i64 s) := hfr2.cell_at HZ1.out.1 ne1
  have z11 : w2.cell? ⟨w.heap.size + 1, 1, none⟩ = some (.string t) := hfr2.cell_at HZ1.out.2 ne1
  have f00 : w2.frozen? ⟨w.heap.size, 0, none⟩ = false := hfr2.free_at (by rw [HSZ.out]; simp) HF0.out.1 ne0
  have f01 : w2.frozen? ⟨w.heap.size, 1, none⟩ = false := hfr2.free_at (by rw [HSZ.out]; simp) HF0.out.2 ne0
  have np0 : p ≠ w.heap.size := by omega
  have np1 : p ≠ w.heap.size + 1 := by omega
  have hne0 : ∀ i : Nat, (⟨p, 0, none⟩ : Addr) ≠ ⟨w.heap.size, i, none⟩ := fun i e => np0 (by injection e)
  have hne1 : ∀ i : Nat, (⟨p, 0, none⟩ : Addr) ≠ ⟨w.heap.size + 1, i, none⟩ := fun i e => np1 (by injection e)
  obtain ⟨w3, hw3⟩ : ∃ w3, w3 = w2.setCell ⟨p, 0, none⟩ (.slice (some ⟨b, 0, none⟩) (n - 1) cap) := ⟨_, rfl⟩
  have y00 : w3.cell? ⟨w.heap.size, 0, none⟩ = some (.int .i64 0) := by rw [hw3, World.cell?_setCell_other _ _ _ _ (hne0 _)]; exact z00
  have y01 : w3.cell? ⟨w.heap.size, 1, none⟩ = some (.string .empty) := by rw [hw3, World.cell?_setCell_other _ _ _ _ (hne0 _)]; exact z01
  have y10 : w3.cell? ⟨w.heap.size + 1, 0, none⟩ = some (.int .i64 s) := by rw [hw3, World.cell?_setCell_other _ _ _ _ (hne1 _)]; exact z10
  have y11 : w3.cell? ⟨w.heap.size + 1, 1, none⟩ = some (.string t) := by rw [hw3, World.cell?_setCell_other _ _ _ _ (hne1 _)]; exact z11
  have g00 : w3.frozen? ⟨w.heap.size, 0, none⟩ = false := by rw [hw3, World.frozen?_setCell]; exact f00
  have g01 : w3.frozen? ⟨w.heap.size, 1, none⟩ = false := by rw [hw3, World.frozen?_setCell]; exact f01
  have hz3 : w3.heap.size = w2.heap.size := by rw [hw3]; simp [World.setCell]
  have f2 : Fr S w w2 := (Fr.lat HL1.out : Fr S w W1).trans hfr2 (fun i _ e => by rw [← (Option.some.inj e : b = i)]; exact hSb)
  have f3 : Fr S w w3 := by rw [hw3]; exact f2.then_set ⟨p, 0, none⟩ _ (.inl HH.out.at_)
  have ho3 : AirO S p (ds.eraseIdx k) w3 := by
    refine ⟨fun i hi => Nat.lt_of_lt_of_le (HH.out.lt i hi) f3.size, HH.out.at_, by rw [hw3, World.frozen?_setCell]; exact fp, some ⟨b, 0, none⟩, cap, ?_, ?_, fun i hi => ?_⟩
    · rw [HLE.out, ← HN.out, hw3]; exact World.cell?_setCell_same _ _ _ cp
    · rw [HLE.out, ← HN.out, HER.out, map_eraseIdx, hw3]
      exact OwnR.fr hown2 (Fr.set (S := fun k => k = p) w2 ⟨p, 0, none⟩ _ rfl) (fun i hi e => hbp (by rw [← e]; exact Option.some.inj hi))
    · have e : b = i := Option.some.inj hi
      subst e
      exact ⟨hSb, hbp⟩
  have hl4 : ∀ x y : Value, AirStep S p (ds.eraseIdx k) w ((w3.setCell ⟨w.heap.size, 0, none⟩ x).setCell ⟨w.heap.size, 1, none⟩ y) := fun x y => by
    have hf : Fr (fun k => k = w.heap.size) w3 ((w3.setCell ⟨w.heap.size, 0, none⟩ x).setCell ⟨w.heap.size, 1, none⟩ y) :=
      (Fr.set (S := fun k => k = w.heap.size) w3 ⟨w.heap.size, 0, none⟩ x rfl).trans (Fr.set (S := fun k => k = w.heap.size) _ ⟨w.heap.size, 1, none⟩ y rfl) (fun _ _ e => e)
    exact ⟨f3.trans hf (fun i hi e => by omega), S, ho3.fr hf (fun i hi e => by have := HH.out.lt i hi; omega), fun i hi => .inl hi⟩
  have HL4 := Lib.hid hl4
  have q := two_set' y00 y01 (.int .i64 s) (.string t)
  clear hl4 ho3 f3 f2 hown2 hfr2 ne0 ne1 z00 z01 z10 z11 f00 f01 hne0 hne1 q0 hz3
  go_upto_region 5 with fail
  rw [← hw3]
  clear hw3
  go_wp2
  exact bodyPost_ret (v := .tuple #[.agg #[.int .i64 s, .string t], .nilIface]) (by simp [results, Tryd.results24, go_sem, q.1, q.2]) rfl ⟨rfl, HL4.out _ _⟩
end Go.Proofs.YtooepflfofgnnaaDoor
