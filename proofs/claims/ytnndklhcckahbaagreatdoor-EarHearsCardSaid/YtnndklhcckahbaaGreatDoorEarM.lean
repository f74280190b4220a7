/- The ear in memory: its cells, its peeler, the drops that were new. -/
import Derived.Test.YtnndklhcckahbaaGreatDoorPeelTk
import Derived.Test.YtnndklhcckahbaaGreatDoorUnitPl
import Derived.Test.YtnndklhcckahbaaGreatDoorOpenDrop
namespace Go.Proofs.YtnndklhcckahbaaGreatDoor
open Go.ChangeShapes Go.WideShapes Go.ChangeAt Go.RowKit

theorem info_DropE : (Tryz.prog.info? 33).map (fun i => (i.zero, i.size, i.bytes)) = some (some (.agg #[.int .i64 0, .string { data := #[] }]), 2, 24) := by kernel_rfl
/-- The ear at block x: its peeler at p, of the blocks Gp; the drops that were new the slice a; G: the blocks of it all. -/
structure EarIn (G Gp : Nat → Prop) (x p k m n : Nat) (q : Int) (K : Kn) (L : List Wt) (ds : List Dr) (a : Option Addr) (cap : Nat) (w : World) : Prop where
  lt : ∀ i, G i → i < w.heap.size
  gx : G x
  sub : ∀ i, Gp i → G i
  npx : ¬ Gp x
  c0 : w.cell? ⟨x, 0, none⟩ = some (.pointer (some ⟨p, 0, none⟩))
  c1 : w.cell? ⟨x, 1, none⟩ = some (.int .i64 k)
  c2 : w.cell? ⟨x, 2, none⟩ = some (.int .i64 m)
  c3 : w.cell? ⟨x, 3, none⟩ = some (.int .i64 n)
  c4 : w.cell? ⟨x, 4, none⟩ = some (.int .i64 q)
  c5 : w.cell? ⟨x, 5, none⟩ = some (.slice a ds.length cap)
  f4 : w.frozen? ⟨x, 4, none⟩ = false
  f5 : w.frozen? ⟨x, 5, none⟩ = false
  peel : PeelO Gp p k m K (ds.map Dr.s) L w
  row : OwnR w 0 33 2 (.slice a ds.length cap) (ds.map Dr.row)
  own : ∀ i, (Value.slice a ds.length cap).ownBlock = some i → G i ∧ i ≠ x ∧ ¬ Gp i
  ok : ∀ d ∈ ds, drpE k m d.s d.t = 0
/-- The ear at block x. -/
def EarO (G : Nat → Prop) (x k m n : Nat) (q : Int) (K : Kn) (L : List Wt) (ds : List Dr) (w : World) : Prop := ∃ Gp p a cap, EarIn G Gp x p k m n q K L ds a cap w
theorem PeelO.most {G : Nat → Prop} {p k m : Nat} {K : Kn} {T : List Int} {L : List Wt} {w : World} (h : PeelO G p k m K T L w) : T.length ≤ 60 := by
  obtain ⟨kb, tb, a, cap, h⟩ := h
  exact h.tk.most
theorem PeelO.lt {G : Nat → Prop} {p k m : Nat} {K : Kn} {T : List Int} {L : List Wt} {w : World} (h : PeelO G p k m K T L w) : ∀ i, G i → i < w.heap.size := by
  obtain ⟨kb, tb, a, cap, h⟩ := h
  exact h.lt
section
variable {G Gp H : Nat → Prop} {x p k m n : Nat} {q : Int} {K K' : Kn} {L L' : List Wt} {ds : List Dr} {a : Option Addr} {cap : Nat} {w w1 w2 w3 w4 w' : World}
theorem EarIn.most (h : EarIn G Gp x p k m n q K L ds a cap w) : ds.length ≤ 60 := by have := h.peel.most; rwa [List.length_map] at this
theorem EarIn.fr (h : EarIn G Gp x p k m n q K L ds a cap w) (hf : Fr H w w') (hd : ∀ i, G i → ¬ H i) : EarIn G Gp x p k m n q K L ds a cap w' := by
  have dx := hd _ h.gx
  have lx := h.lt _ h.gx
  exact ⟨fun i hi => Nat.lt_of_lt_of_le (h.lt i hi) hf.size, h.gx, h.sub, h.npx, hf.cell_at h.c0 dx, hf.cell_at h.c1 dx, hf.cell_at h.c2 dx, hf.cell_at h.c3 dx, hf.cell_at h.c4 dx, hf.cell_at h.c5 dx, hf.free_at lx h.f4 dx, hf.free_at lx h.f5 dx,
    h.peel.fr hf (fun i hi => hd i (h.sub i hi)), h.row.fr hf (fun i hi => hd _ (h.own i hi).1), h.own, h.ok⟩
theorem EarIn.keep (h : EarIn G Gp x p k m n q K L ds a cap w) (hb : Lat w w') : EarIn G Gp x p k m n q K L ds a cap w' := h.fr (H := fun _ => False) (Fr.lat hb) (fun _ _ e => e)
theorem EarO.fr (h : EarO G x k m n q K L ds w) (hf : Fr H w w') (hd : ∀ i, G i → ¬ H i) : EarO G x k m n q K L ds w' := by
  obtain ⟨Gp, p, a, cap, h⟩ := h
  exact ⟨Gp, p, a, cap, h.fr hf hd⟩
theorem EarO.keep (h : EarO G x k m n q K L ds w) (hb : Lat w w') : EarO G x k m n q K L ds w' := by
  obtain ⟨Gp, p, a, cap, h⟩ := h
  exact ⟨Gp, p, a, cap, h.keep hb⟩
theorem EarO.lt (h : EarO G x k m n q K L ds w) : ∀ i, G i → i < w.heap.size := by
  obtain ⟨Gp, p, a, cap, h⟩ := h
  exact h.lt
theorem EarO.most (h : EarO G x k m n q K L ds w) : ds.length ≤ 60 := by
  obtain ⟨Gp, p, a, cap, h⟩ := h
  exact h.most
/-- counted -/
theorem EarIn.count (h : EarIn G Gp x p k m n q K L ds a cap w) (q' : Int) : EarIn G Gp x p k m n q' K L ds a cap (w.setCell ⟨x, 4, none⟩ (.int .i64 q')) := by
  have hf : Fr (fun i => i = x) w (w.setCell ⟨x, 4, none⟩ (.int .i64 q')) := Fr.set _ _ _ rfl
  have hs : (w.setCell ⟨x, 4, none⟩ (.int .i64 q')).heap.size = w.heap.size := by simp [World.setCell]
  have c : ∀ j v, j ≠ 4 → w.cell? ⟨x, j, none⟩ = some v → (w.setCell ⟨x, 4, none⟩ (.int .i64 q')).cell? ⟨x, j, none⟩ = some v := fun j v hj hx => by
    rw [World.cell?_setCell_other _ _ _ _ (by intro e; injection e with _ e _; exact hj e.symm)]; exact hx
  exact ⟨fun i hi => by rw [hs]; exact h.lt i hi, h.gx, h.sub, h.npx, c _ _ (by decide) h.c0, c _ _ (by decide) h.c1, c _ _ (by decide) h.c2, c _ _ (by decide) h.c3, World.cell?_setCell_same _ _ _ h.c4, c _ _ (by decide) h.c5,
    by rw [World.frozen?_setCell]; exact h.f4, by rw [World.frozen?_setCell]; exact h.f5, h.peel.fr hf (fun i hi e => h.npx (e ▸ hi)), h.row.fr hf (fun i hi e => (h.own i hi).2.1 e), h.own, h.ok⟩
/-- one more was new: behind the peeler's Take (w2), the append (w4), the store -/
theorem EarIn.heard {Gp' : Nat → Prop} {d : Dr} {g cap' : Nat} (h : EarIn G Gp x p k m n q K L ds a cap w1) (hf : Fr Gp w1 w2) (hp : PeelO Gp' p k m K' (ds.map Dr.s ++ [d.s]) L' w2) (hGp : ∀ i, Gp' i → Gp i ∨ w1.heap.size ≤ i) (hl : Lat w2 w3)
    (hs : AppStep w3 w4 (.slice a ds.length cap) (.slice (some ⟨g, 0, none⟩) (ds.length + 1) cap')) (hb : Below 0 w3 w4) (ho : OwnR w4 0 33 2 (.slice (some ⟨g, 0, none⟩) (ds.length + 1) cap') (ds.map Dr.row ++ [d.row])) (hd : drpE k m d.s d.t = 0) :
    EarIn (fun i => i < (w4.setCell ⟨x, 5, none⟩ (.slice (some ⟨g, 0, none⟩) (ds.length + 1) cap')).heap.size ∧ (G i ∨ w1.heap.size ≤ i)) Gp' x p k m n q K' L' (ds ++ [d]) (some ⟨g, 0, none⟩) cap' (w4.setCell ⟨x, 5, none⟩ (.slice (some ⟨g, 0, none⟩) (ds.length + 1) cap')) := by
  obtain ⟨w5, hw5⟩ : ∃ w5, w5 = w4.setCell ⟨x, 5, none⟩ (.slice (some ⟨g, 0, none⟩) (ds.length + 1) cap') := ⟨_, rfl⟩
  have hfa : Fr (fun i => (Value.slice a ds.length cap).ownBlock = some i) w3 w4 := ⟨hb.os, hb.tape, hb.output, hs.size, fun i hi hne => hs.block i hi (fun e => hne e.symm)⟩
  have hf5 : Fr (fun i => i = x) w4 w5 := by rw [hw5]; exact Fr.set _ _ _ rfl
  have hs5 : w5.heap.size = w4.heap.size := by rw [hw5]; simp [World.setCell]
  have hlx := h.lt _ h.gx
  have h12 := hf.size
  have h23 := hl.size
  have h34 := hs.size
  have no : ¬ (Value.slice a ds.length cap).ownBlock = some x := fun e => (h.own x e).2.1 rfl
  have c : ∀ j v, j ≠ 5 → w1.cell? ⟨x, j, none⟩ = some v → w5.cell? ⟨x, j, none⟩ = some v := fun j v hj hx => by
    rw [hw5, World.cell?_setCell_other _ _ _ _ (by intro e; injection e with _ e _; exact hj e.symm)]
    exact hfa.cell_at (hl.cell_at (hf.cell_at hx h.npx)) no
  have c5 : w5.cell? ⟨x, 5, none⟩ = some (.slice (some ⟨g, 0, none⟩) (ds.length + 1) cap') := by rw [hw5]; exact World.cell?_setCell_same _ _ _ (hfa.cell_at (hl.cell_at (hf.cell_at h.c5 h.npx)) no)
  have fz : ∀ j, w1.frozen? ⟨x, j, none⟩ = false → w5.frozen? ⟨x, j, none⟩ = false := fun j hj => by
    rw [hw5, World.frozen?_setCell]
    exact hfa.free_at (show x < w3.heap.size by omega) (hl.free_at (show x < w2.heap.size by omega) (hf.free_at hlx hj h.npx)) no
  have hg : ((Value.slice a ds.length cap).ownBlock = some g) ∨ w3.heap.size ≤ g := by
    rcases hs.loc with e | ⟨g2, e, hg⟩
    · exact .inl e.symm
    · have : g = g2 := Option.some.inj e
      exact .inr (by omega)
  have hgl := (OwnR.lt ho g rfl).2
  have hpl := hp.lt
  have hgx : g ≠ x := by
    rcases hg with e | e
    · exact (h.own g e).2.1
    · omega
  have hgp : ¬ Gp' g := fun e => by
    rcases hg with e2 | e2
    · rcases hGp g e with e3 | e3
      · exact (h.own g e2).2.2 e3
      · have := h.lt g (h.own g e2).1; omega
    · have := hpl g e; omega
  have hpf : ∀ i, Gp' i → ¬ (Value.slice a ds.length cap).ownBlock = some i := fun i hi e => by
    rcases hGp i hi with e3 | e3
    · exact (h.own i e).2.2 e3
    · have := h.lt i (h.own i e).1; omega
  have hpx : ¬ Gp' x := fun e => by
    rcases hGp x e with e3 | e3
    · exact h.npx e3
    · omega
  rw [← hw5]
  have hll : (ds ++ [d]).length = ds.length + 1 := by rw [List.length_append]; rfl
  refine ⟨fun i hi => hi.1, ⟨by omega, .inl h.gx⟩, fun i hi => ⟨by have := hpl i hi; omega, (hGp i hi).imp (h.sub i) id⟩, hpx, c _ _ (by decide) h.c0, c _ _ (by decide) h.c1, c _ _ (by decide) h.c2, c _ _ (by decide) h.c3, c _ _ (by decide) h.c4, by rw [hll]; exact c5, fz _ h.f4, fz _ h.f5, ?_, ?_, fun i hi => ?_, fun d' hd' => ?_⟩
  · rw [List.map_append]
    exact ((hp.keep hl).fr hfa hpf).fr hf5 (fun i hi e => hpx (e ▸ hi))
  · rw [hll, List.map_append]
    exact ho.fr hf5 (fun i hi e => hgx (by rw [← e]; exact Option.some.inj hi))
  · rw [hll] at hi
    obtain rfl : g = i := Option.some.inj hi
    refine ⟨⟨by omega, ?_⟩, hgx, hgp⟩
    rcases hg with e | e
    · exact .inl (h.own g e).1
    · exact .inr (by omega)
  · rcases List.mem_append.1 hd' with h1 | h1
    · exact h.ok d' h1
    · rw [List.mem_singleton.1 h1]; exact hd
end
/-- What a call on it leaves. -/
structure EarStep (G : Nat → Prop) (x k m n : Nat) (q : Int) (K : Kn) (L : List Wt) (ds : List Dr) (w w' : World) : Prop where
  fr : Fr G w w'
  obj : ∃ G', EarO G' x k m n q K L ds w' ∧ ∀ i, G' i → G i ∨ w.heap.size ≤ i
set_option maxHeartbeats 1000000 in
set_option maxRecDepth 100000 in
theorem ear_seeds (G : Nat → Prop) (x k m n : Nat) (q : Int) (K : Kn) (L : List Wt) (ds : List Dr) (w : World) (h : EarO G x k m n q K L ds w) :
    Calls Tryz.prog 18 #[.pointer (some ⟨x, 0, none⟩)] w fun e w' => ∃ a c, e = .returned (.slice a ds.length c) ∧ IntsAt w' a ds.length c (ds.map Dr.s) ∧ Lat w w' := by
  obtain ⟨Gp, p, a, cap, h⟩ := h
  have hm60 := h.most
  have c5 := h.c5
  obtain ⟨nd, hnd⟩ : ∃ nd, nd = ds.length := ⟨_, rfl⟩
  obtain ⟨a', cap', he, hat⟩ := OwnR.slice h.row (show (ds.map Dr.row).length = nd by rw [List.length_map, hnd])
  injection he with e1 _ e3
  subst e1
  subst e3
  have hwf : ∀ d ∈ ds, I64 d.s := fun d hd => by
    have := drpE_zero (h.ok d hd)
    unfold I64; omega
  rw [← hnd] at c5 hm60 ⊢
  have hle := hat.le
  have hcm := hat.cap
  unfold maxLen at hcm
  have HR := Lib.hid hat; have HN := Lib.hid hnd; have HWF := Lib.hid hwf
  clear h hat hnd hwf
  go_enter Tryz.func18, Tryz.ntmps18
  go_wp2
  clear c5
  go_loopw [3, 11] (fun v i wr => ∃ j : Nat, j ≤ nd ∧ i = .int .i64 j ∧ Hid (OwnInts wr w.heap.size v ((ds.map Dr.s).take j) ∧ Lat w wr)) (fun _ i _ => nd - (intOf i).toNat)
  case atStart => exact ⟨0, Nat.zero_le _, rfl, by rw [List.take_zero]; exact Own.nil _ _ _, Lat.refl _⟩
  case round =>
    obtain ⟨j, hj, rfl, hrel⟩ := hrel
    by_cases hlt : j < nd
    · obtain ⟨b, o, rfl, hcell⟩ := HR.out.at_ (by omega)
      have hjl : j < ds.length := by rw [← HN.out]; exact hlt
      obtain ⟨V, hV⟩ : ∃ V, V = ds[j] := ⟨_, rfl⟩
      have hd : ds[j]? = some V := by rw [hV]; exact List.getElem?_eq_getElem hjl
      have hr2 : (ds.map Dr.row)[j]? = some V.row := by rw [List.getElem?_map, hd]; rfl
      have c0 := (hcell j _ hr2).2 0 _ rfl
      have c1 := (hcell j _ hr2).2 1 _ rfl
      rw [Nat.add_zero] at c0
      rw [← Nat.add_assoc] at c1
      have c0 := hrel.out.2.cell_at c0
      have c1 := hrel.out.2.cell_at c1
      have hst : (ds.map Dr.s).take (j + 1) = (ds.map Dr.s).take j ++ [V.s] := by
        rw [List.take_succ_eq_append_getElem (by rw [List.length_map]; exact hjl), List.getElem_map, ← hV]
      have hl : ((ds.map Dr.s).take j).length < 1000000000000 := by rw [List.length_take]; omega
      obtain ⟨s, t⟩ := V
      simp only at c0 c1 hst
      have HST := Lib.hid hst; have HL := Lib.hid hl
      have i1 : (0 : Int) ≤ (j : Int) := by omega
      have i2 : (j : Int) < (nd : Int) := by omega
      clear hst hl hcell hd hV hjl hr2
      go_wp2_with (at_builtin; refine app_int (wr.alloc (.cells #[.int .i64 s, .string t] 33)) w _ rfl _ _ rfl _ _ s rfl (Own.keep hrel.out.1 (Lat.alloc _ _)) (by rw [show (wr.alloc (.cells #[.int .i64 s, .string t] 33)).heap.size = wr.heap.size + 1 from by simp]; rfl) HL.out rfl (Lat.trans hrel.out.2 (Lat.alloc _ _)) ?_; intro v' w2 hown' hb' _)
      go_roundw
      case rel => exact ⟨j + 1, by omega, by go_num, by rw [HST.out]; exact hown', hb'⟩
      case measure => simp [intOf]; omega
    · obtain rfl : j = nd := by omega
      have hfin : (ds.map Dr.s).take j = ds.map Dr.s := List.take_of_length_le (by rw [List.length_map, HN.out]; exact Nat.le_refl _)
      have hrl := hrel.out
      rw [hfin] at hrl
      obtain ⟨a, cap, rfl, hat⟩ := OwnInts.sliceN (n := j) hrl.1 (fun z hz => by obtain ⟨d, hd, rfl⟩ := List.mem_map.1 hz; exact HWF.out d hd) (by rw [List.length_map, HN.out])
      have HA := Lib.hid hat; have HB := Lib.hid hrl.2
      clear hfin hrl hrel hat
      go_wp2
      go_ret
      exact ⟨a, cap, rfl, HA.out, HB.out⟩
end Go.Proofs.YtnndklhcckahbaaGreatDoor
