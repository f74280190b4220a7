/- What a round of peel.learn leaves in memory: the laws of its steps. -/
import Derived.Test.YtcpookgbneoilaaDoorPeelW
import Derived.Test.YtcpookgbneoilaaDoorPeelIx
namespace Go.Proofs.YtcpookgbneoilaaDoor
open Go.ChangeShapes Go.WideShapes Go.ChangeAt Go.RowKit Go.Sort

/-- slices.Sort of a slice of the call's own, by what it turns -/
theorem sort_fr (B : Nat) (v : Value) (zs : List Int) (w : World) (h : OwnInts w B v zs) (hl : zs.length ≤ 1000000) :
    Calls Tryd.prog 55 #[v] w fun e w' => e = .returned (.tuple #[]) ∧ OwnInts w' B v (zs.mergeSort fun x y => decide (x ≤ y)) ∧ Fr (fun i => v.ownBlock = some i) w w' := by
  obtain ⟨hlen, hor⟩ := h
  rw [List.length_map] at hor
  rcases hor with ⟨rfl, h0⟩ | ⟨g, cap, cur, rfl, hg, hh, hn, hc, hs, ht⟩
  · obtain rfl := List.eq_nil_of_length_eq_zero h0
    refine (sort_none none 0 w).mono ?_
    rintro e w' ⟨he, rfl⟩
    exact ⟨he, by rw [List.mergeSort_nil]; exact Own.nil _ _ _, Fr.refl _ _⟩
  · have hgl : g < w.heap.size := (Array.getElem?_eq_some_iff.1 hh).1
    rw [Nat.mul_one] at ht hs
    have hH : Holds (Value.int .i64) w g 0 zs.toArray := by
      intro j hj
      have hj' : j < zs.length := by simpa using hj
      refine ⟨?_, by simp [World.frozen?, hh]⟩
      have h1 : (cur.toList.take zs.length)[j]? = (zs.map encI)[j]? := by rw [ht]
      rw [List.getElem?_take_of_lt hj'] at h1
      simp only [World.cell?, hh, Nat.zero_add]
      simp only [Option.isSome_none, Bool.false_eq_true, if_false]
      rw [← Array.getElem?_toList, h1]
      simp [hj']
    refine (Tryd.slices_Sort_int g 0 cap zs w hH hgl (by omega)).mono ?_
    rintro e w' ⟨he, n, os, rfl⟩
    have hts : (zs.mergeSort fun x y => decide (x ≤ y)).length = zs.length := List.length_mergeSort _
    refine ⟨he, ⟨by simp, .inr ⟨g, cap, putCells encI 0 (zs.mergeSort fun x y => decide (x ≤ y)).toArray cur, ?_, hg, ?_, by simpa using hn, hc, by simp [putCells, hs], ?_⟩⟩, ?_⟩
    · simp
    · rw [heap_grow_old _ _ (by simpa using hgl)]
      simp [putRow, mapBlock, Sort.ahead, Array.getElem?_modify, hh, onCells]
    · rw [Nat.mul_one, List.length_map]; exact take_putI cur _ (by omega)
    · refine ⟨rfl, rfl, rfl, by simp, fun k hk hne => ?_⟩
      rw [heap_grow_old _ _ (by simp; omega)]
      have : g ≠ k := fun e => hne (by rw [e]; rfl)
      simp [putRow, mapBlock, Sort.ahead, Array.getElem?_modify, this]

/-- an append of one int, by what it turns and where it lies -/
theorem app_intL (wr : World) (B : Nat) {ops : Array Oper} {rest : List Oper} {o : Oper} {a : Act} {Q : Exit → Act → World → Prop}
    (hg : o.guard = none) (s x : Operand) (ho : o.op = .call { callee := .builtin .append, args := #[s, x], argTypes := #[32, 32] })
    (v : Value) (zs : List Int) (z : Int) (hs : a.eval s = v) (hown : OwnInts wr B v zs) (hx : a.eval x = .slice (some ⟨wr.heap.size, 0, none⟩) 1 1)
    (hn : zs.length < 1000000) (hB : B ≤ wr.heap.size)
    (K : ∀ v' w', OwnInts w' B v' (zs ++ [z]) → Fr (fun j => v.ownBlock = some j) wr w' → (∀ i, v'.ownBlock = some i → v.ownBlock = some i ∨ wr.heap.size ≤ i) → wpList Tryd.prog ops Q rest (a.put o.dst v') w') :
    wpList Tryd.prog ops Q (o :: rest) a (wr.alloc (.cells #[.int .i64 z] 3)) := by
  have hal : OwnInts (wr.alloc (.cells #[.int .i64 z] 3)) B v zs := Own.alloc hown _
  have hrow1 : RowAt (wr.alloc (.cells #[.int .i64 z] 3)) (some ⟨wr.heap.size, 0, none⟩) 1 1 (fun j => [Value.int .i64 z].getD j undef) := by
    refine ⟨Nat.le_refl _, by unfold maxLen; omega, fun _ => ⟨wr.heap.size, 0, rfl, fun j hj => ?_⟩⟩
    obtain rfl : j = 0 := by omega
    simp
  obtain ⟨v', w', hrun, h2, h3, h4⟩ := run_app_many (P := Tryd.prog) (wr.alloc (.cells #[.int .i64 z] 3)) B 32 o.type 3 (.int .i64 0) 8 Tryd.underlying32 info_int rfl (by decide) v _ hal (some ⟨wr.heap.size, 0, none⟩) 1 1 [.int .i64 z] rfl
    hrow1 (fun u hu => by rw [List.mem_singleton.1 hu]; rfl) (by rw [List.length_map]; omega) (by simp; omega)
  refine wpList_plain hg fun K' hK => ?_
  unfold Oper.wp execOp
  simp only [ho, resolve, invoke, builtin, Sem.run_bind, Sem.run_pure, Result.andThen_ok, List.map_toArray, List.map_cons, List.map_nil, hs, hx, hrun]
  refine hK _ _ (K v' w' (by simpa [OwnInts] using h2) ⟨h3.os, h3.tape, h3.output, ?_, fun k hk hne => ?_⟩ (fun i hi => ?_))
  · have := h3.size; simp at this; omega
  · rw [h3.block k (by simp; omega) (fun e => hne e.symm)]; exact heap_alloc_old wr _ hk
  · rcases h4 with h | h
    · exact .inl (by rw [← h]; exact hi)
    · rw [h] at hi
      injection hi with hi
      exact .inr (by rw [← hi]; simp)

/-- the blocks of the peeler while 'learn' runs: w: ahead of it; v: what it hands back -/
def GG (G : Nat → Prop) (w wr : World) (v : Value) (i : Nat) : Prop := i < wr.heap.size ∧ (G i ∨ w.heap.size ≤ i) ∧ v.ownBlock ≠ some i
section
variable {G : Nat → Prop} {p kb tb k m : Nat} {K K' : Kn} {T : List Int} {L : List Wt} {a : Option Addr} {cap : Nat} {w w1 w2 wr wx : World} {v v' : Value}
theorem PeelIn.gg (h : PeelIn (GG G w w1 v) p kb tb k m K T L a cap w1) (hb : Lat w1 w2) : PeelIn (GG G w w2 v) p kb tb k m K T L a cap w2 :=
  (h.keep hb).grow (fun _ hi => ⟨Nat.lt_of_lt_of_le hi.1 hb.size, hi.2⟩) (fun _ hi => hi.1)
/-- a block is known -/
theorem PeelIn.know (h : PeelIn G p kb tb k m K T L a cap w1) (hkn : KnAt w2 kb k K') (hf : Fr (fun i => i = kb) w1 w2) (hok : WOk k m K' L) : PeelIn G p kb tb k m K' T L a cap w2 := by
  obtain ⟨rows, ho, hw⟩ := h.row
  have np : ¬ p = kb := h.nk
  exact ⟨fun i hi => Nat.lt_of_lt_of_le (h.lt i hi) hf.size, h.gp, h.gk, h.gt, h.nk, h.nt, h.nkt, hf.cell_at h.c0 np, hf.cell_at h.c1 np, hf.cell_at h.c2 np, hf.cell_at h.c3 np, hf.cell_at h.c4 np, hf.free_at (h.lt _ h.gp) h.free np,
    hkn, h.tk.fr hf (fun e => h.nkt e.symm), ⟨rows, ho.fr hf (fun i hi e => (h.own i hi).2.2.1 e), hw.fr hf (fun i _ e _ => .inr (.inl e))⟩, h.own, hok, h.most⟩
/-- another slice is handed back: it lay nowhere -/
theorem PeelIn.other (h : PeelIn (GG G w w1 v) p kb tb k m K T L a cap w1) (hf : Fr (fun i => v.ownBlock = some i) w1 w2) (hloc : ∀ i, v'.ownBlock = some i → v.ownBlock = some i ∨ w1.heap.size ≤ i) : PeelIn (GG G w w2 v') p kb tb k m K T L a cap w2 := by
  have h2 := h.fr hf (fun i hi e => hi.2.2 e)
  refine PeelIn.grow ⟨h2.lt, h2.gp, h2.gk, h2.gt, h2.nk, h2.nt, h2.nkt, h2.c0, h2.c1, h2.c2, h2.c3, h2.c4, h2.free, h2.kn, h2.tk, h2.row, h2.own, h2.ok, h2.most⟩ (fun i hi => ⟨Nat.lt_of_lt_of_le hi.1 hf.size, hi.2.1, fun e => ?_⟩) (fun _ hi => hi.1)
  rcases hloc i e with h3 | h3
  · exact hi.2.2 h3
  · have := hi.1; omega
/-- what is left is stored -/
theorem PeelIn.left (h : PeelIn (GG G w wr v) p kb tb k m K T L a cap wr) (hv : ∀ i, v.ownBlock = some i → i < wr.heap.size) (hw : w.heap.size ≤ wr.heap.size) (hl : Lat wr wx) {la : Option Addr} {ll lc : Nat} {rows : List (List Value)} (ho : OwnR wx wr.heap.size 74 2 (.slice la ll lc) rows)
    (hws : WtsAt wx (fun i => (Value.slice la ll lc).ownBlock = some i) (fun i => wr.heap.size ≤ i) rows (leftW K L)) (hll : (leftW K L).length = ll) :
    PeelIn (GG G w (wx.setCell ⟨p, 4, none⟩ (.slice la ll lc)) v) p kb tb k m K T (leftW K L) la lc (wx.setCell ⟨p, 4, none⟩ (.slice la ll lc)) := by
  have hs : (wx.setCell ⟨p, 4, none⟩ (.slice la ll lc)).heap.size = wx.heap.size := by simp [World.setCell]
  have hp := h.lt _ h.gp
  have hkb := h.lt _ h.gk
  have htb := h.lt _ h.gt
  have hf : Fr (fun i => i = p) wx (wx.setCell ⟨p, 4, none⟩ (.slice la ll lc)) := Fr.set _ _ _ rfl
  have h2 := h.keep hl
  have hlz := hl.size
  have hup : ∀ i, GG G w wr v i → GG G w (wx.setCell ⟨p, 4, none⟩ (.slice la ll lc)) v i := fun i hi => ⟨by rw [hs]; exact Nat.lt_of_lt_of_le hi.1 hl.size, hi.2⟩
  have hlen : (leftW K L).length ≤ L.length := by
    unfold leftW
    refine Nat.le_trans (List.length_filter_le _ _) ?_
    rw [List.length_map]; exact Nat.le_refl _
  have hob := OwnR.lt ho
  have c : ∀ j x, j ≠ 4 → wx.cell? ⟨p, j, none⟩ = some x → (wx.setCell ⟨p, 4, none⟩ (.slice la ll lc)).cell? ⟨p, j, none⟩ = some x := fun j x hj hx => by
    rw [World.cell?_setCell_other _ _ _ _ (by intro e; injection e with _ e _; exact hj e.symm)]; exact hx
  refine ⟨fun i hi => hi.1, hup _ h.gp, hup _ h.gk, hup _ h.gt, h.nk, h.nt, h.nkt, c _ _ (by decide) h2.c0, c _ _ (by decide) h2.c1, c _ _ (by decide) h2.c2, c _ _ (by decide) h2.c3, by rw [hll]; exact World.cell?_setCell_same _ _ _ h2.c4, by rw [World.frozen?_setCell]; exact h2.free,
    h2.kn.fr hf (fun e => h.nk e.symm), h2.tk.fr hf (fun e => h.nt e.symm), ⟨rows, ?_, ?_⟩, fun i hi => ?_, h.ok.left, Nat.le_trans hlen h.most⟩
  · rw [hll]; exact (ho.base (Nat.zero_le _)).fr hf (fun i hi e => by have := (hob i hi).1; omega)
  · rw [hll]
    refine (hws.fr hf (fun i _ e hi => ?_)).off (fun i _ hi e => ?_) (fun i hi hi2 hn => ⟨hi, ?_, fun e => ?_⟩)
    · omega
    · rcases e with e | e | e | e
      · omega
      · omega
      · omega
      · exact e
    · exact .inr (Nat.le_trans hw hi2)
    · have := hv i e; omega
  · rw [hll] at hi
    obtain ⟨g1, g2⟩ := hob i hi
    refine ⟨⟨by rw [hs]; exact g2, .inr (by omega), fun e => ?_⟩, by omega, by omega, by omega⟩
    have := hv i e
    omega
end
end Go.Proofs.YtcpookgbneoilaaDoor
