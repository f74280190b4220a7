/- The contract of slices.Delete at drops, on a slice of the call's own. -/
import Derived.Test.YtooepflfofgnnaaDoorFr
import Derived.Test.YtooepflfofgnnaaDoorOpenDrop
import Derived.Deep.RegionLaw
import Derived.Deep.LoopGhost
namespace Go.Proofs.YtooepflfofgnnaaDoor
open Go.ChangeShapes Go.WideShapes Go.ChangeAt Go.RowKit

set_option maxRecDepth 100000
theorem info_Drop : (Tryd.prog.info? 24).map (fun i => (i.zero, i.size, i.bytes)) = some (some (.agg #[.int .i64 0, .string .empty]), 2, 24) := by kernel_rfl
theorem zero_Drop (w : World) : (zeroValue 24).run Tryd.prog w = .ok (.agg #[.int .i64 0, .string .empty]) w := by kernel_rfl
theorem zeroCells_Drop (n : Nat) : (∀ v ∈ (Builtin.zeroCells (Value.agg #[.int .i64 0, .string .empty]).cells n).toList, v.oneCell' = true) ∧ (Builtin.zeroCells (Value.agg #[.int .i64 0, .string .empty]).cells n).size = n * 2 := by
  have hc : (Value.agg #[.int .i64 0, .string .empty]).cells = #[.int .i64 0, .string .empty] := rfl
  refine ⟨fun v hv => ?_, by rw [size_zeroCells, hc]; rfl⟩
  rw [hc] at hv
  unfold Builtin.zeroCells at hv
  rw [Array.toList_map, List.mem_map] at hv
  obtain ⟨i, _, rfl⟩ := hv
  have hi : i % 2 = 0 ∨ i % 2 = 1 := by omega
  show (#[Value.int .i64 0, .string .empty][i % 2]!).oneCell' = true
  rcases hi with e | e <;> rw [e] <;> rfl
/-- What is left in the block behind the move to the left. -/
theorem del_row {cur : List Value} {xs : List (List Value)} {n i j : Nat} (hxs : ∀ r ∈ xs, r.length = 2) (hn : xs.length = n) (hi : i ≤ j) (hj : j ≤ n) (ht : cur.take (n * 2) = xs.flatten) (hc : n * 2 ≤ cur.length) {c1 c2 Z : List Value}
    (h1 : c1 = cur.take (i * 2) ++ xs.flatten.drop (j * 2) ++ cur.drop (i * 2 + (xs.flatten.drop (j * 2)).length)) (h2 : c2 = c1.take ((i + (n - j)) * 2) ++ Z ++ c1.drop ((i + (n - j)) * 2 + Z.length)) :
    c2.take ((i + (n - j)) * 2) = (xs.take i ++ xs.drop j).flatten := by
  have hfl := flat_len hxs
  rw [hn] at hfl
  have hl1 : (cur.take (i * 2)).length = i * 2 := by rw [List.length_take]; omega
  have hl2 : (xs.flatten.drop (j * 2)).length = (n - j) * 2 := by rw [List.length_drop, hfl, Nat.sub_mul]
  have hlen1 : (c1.take ((i + (n - j)) * 2)).length = (i + (n - j)) * 2 := by
    rw [h1, List.length_take, List.length_append, List.length_append, hl1, hl2]; omega
  have e1 : c1.take ((i + (n - j)) * 2) = cur.take (i * 2) ++ xs.flatten.drop (j * 2) := by
    rw [h1, List.take_append_of_le_length (by rw [List.length_append, hl1, hl2]; omega), List.take_of_length_le (by rw [List.length_append, hl1, hl2]; omega)]
  rw [h2, List.append_assoc, List.take_append_of_le_length (by omega), List.take_take, Nat.min_self, e1, List.flatten_append, flat_take i hxs, flat_drop j hxs, ← ht, List.take_take, Nat.min_eq_left (by omega)]

theorem isSome_of_row {w : World} {g q : Nat} {cs : Array Value} {t : TypeId} (h : w.heap[g]? = some (.cells cs t (0, 0))) (hq : q < cs.size) : (w.cell? ⟨g, q, none⟩).isSome = true := by
  simp [World.cell?, h, hq]

set_option maxHeartbeats 4000000 in
theorem delete_own (a : Option Addr) (n cap : Nat) (xs : List (List Value)) (i j : Nat) (w : World) (h : OwnR w 0 24 2 (.slice a n cap) xs) (hu : ∀ r ∈ xs, ∀ u ∈ r, u.oneCell' = true) (hlt : i < j) (hj : j ≤ n) :
    Calls Tryd.prog 56 #[.slice a n cap, .int .i64 i, .int .i64 j] w fun e w' =>
      e = .returned (.slice a (n - (j - i)) cap) ∧ OwnR w' 0 24 2 (.slice a (n - (j - i)) cap) (xs.take i ++ xs.drop j) ∧ Fr (fun k => (Value.slice a n cap).ownBlock = some k) w w' := by
  obtain ⟨hxs, hrow⟩ := h
  have hrow0 := hrow
  obtain ⟨_, h2⟩ := hrow
  rcases h2 with ⟨he, h0⟩ | ⟨g, cap', cur, he, _, hh, hnc, hcm, hcs, htk⟩
  · injection he with e1 e2 e3; omega
  injection he with e1 e2 e3
  subst e1
  subst e2
  subst e3
  obtain ⟨i0, hi0, hz0, hz1, hz2⟩ := info_parts info_Drop
  have hfl := flat_len hxs
  obtain ⟨news, hnews⟩ : ∃ news, news = xs.flatten.drop (j * 2) := ⟨_, rfl⟩
  have hlen : news.length = (xs.length - j) * 2 := by rw [hnews, List.length_drop, hfl, Nat.sub_mul]
  have hcell : ∀ q u, xs.flatten[q]? = some u → w.cell? ⟨g, q, none⟩ = some u := fun q u hq => by
    have := World.ownsRow.cells hrow0 (g := g) rfl q u hq
    rw [Addr.add_lit, Nat.zero_add] at this
    exact this
  have hone : ∀ q, q < xs.length * 2 → (w.cell? ⟨g, q, none⟩).isSome = true ∧ w.frozen? ⟨g, q, none⟩ = false := fun q hq => by
    refine ⟨?_, frozen_of_row w g q cur _ hh⟩
    rw [hcell q _ (List.getElem?_eq_getElem (by omega))]; rfl
  obtain ⟨A, hA, hsrc⟩ : ∃ A : Addr, (if cap = j then some (⟨g, 0, none⟩ : Addr) else some ⟨g, j * 2, none⟩) = some A ∧ Hid (∀ t u, news[t]? = some u → w.drew.cell? (A.add t) = some u) := by
    by_cases hc : cap = j
    · refine ⟨⟨g, 0, none⟩, by simp [hc], fun t u hu => ?_⟩
      have h0 : news.length = 0 := by rw [hlen]; omega
      rw [List.length_eq_zero_iff.1 h0] at hu
      simp at hu
    · refine ⟨⟨g, j * 2, none⟩, by simp [hc], fun t u hu => ?_⟩
      rw [hnews, List.getElem?_drop] at hu
      rw [Addr.add_lit]
      exact hcell _ _ hu
  have s1 : Hid (news.length = (xs.length - j) * 2) := hlen
  have s2 : Hid (∀ u ∈ news, u.oneCell' = true) := by
    intro u h
    rw [hnews] at h
    obtain ⟨r, hr, hur⟩ := List.mem_flatten.1 (List.mem_of_mem_drop h)
    exact hu r hr u hur
  have s3 : Hid (∀ t, t < news.length → (w.drew.cell? ⟨g, 0 + i * 2 + t, none⟩).isSome = true ∧ w.drew.frozen? ⟨g, 0 + i * 2 + t, none⟩ = false) := by
    intro t ht
    exact hone (0 + i * 2 + t) (by omega)
  obtain ⟨W1, hW1⟩ : ∃ W1, W1 = w.drew.setCells g (0 + i * 2) news := ⟨_, rfl⟩
  obtain ⟨c1, hc1, hc1l⟩ := heap_setCells g 24 news (0 + i * 2) w.drew cur hh (by omega)
  rw [← hW1] at hc1
  obtain ⟨m, hm⟩ : ∃ m, m = xs.length - (i + (xs.length - j)) := ⟨_, rfl⟩
  have hZ := zeroCells_Drop m
  obtain ⟨Z, hZZ⟩ : ∃ Z, Z = Builtin.zeroCells (Value.agg #[.int .i64 0, .string .empty]).cells m := ⟨_, rfl⟩
  rw [← hZZ] at hZ
  have hcm2 : i + (xs.length - j) < xs.length := by omega
  have hZl : Z.toList.length = m * 2 := (Array.length_toList (xs := Z)).trans hZ.2
  have hcl0 : cur.toList.length = cur.size := Array.length_toList
  have hc1s : c1.size = cur.size := by
    have e1 : c1.toList.length = c1.size := Array.length_toList
    rw [← e1, hc1l, List.length_append, List.length_append, List.length_take, List.length_drop, hcl0]
    omega
  have hcl : ∀ ty, (Builtin.clear_ #[48] ty #[.slice (some ⟨g, (i + (xs.length - j)) * 2, none⟩) (xs.length - (i + (xs.length - j))) (cap - (i + (xs.length - j)))]).run Tryd.prog W1 = .ok (.tuple #[]) (W1.setCells g ((i + (xs.length - j)) * 2) Z.toList) := fun ty => by
    rw [hZZ, hm]
    refine run_clear_rows W1 _ _ ty _ Tryd.underlying48 zero_Drop g _ _ _ (by omega) (by rw [← hm, ← hZZ]; exact hZ.1) (fun q hq => ?_) (fun q _ => frozen_of_row W1 g _ c1 _ hc1)
    rw [← hm, ← hZZ, hZ.2, hm] at hq
    exact isSome_of_row hc1 (by rw [hc1s, hcs]; omega)
  obtain ⟨c2, hc2, hc2l⟩ := heap_setCells g 24 Z.toList ((i + (xs.length - j)) * 2) W1 c1 hc1 (by rw [hc1s, hcs, hZl]; omega)
  have hfin : OwnR (W1.setCells g ((i + (xs.length - j)) * 2) Z.toList) 0 24 2 (.slice (some ⟨g, 0, none⟩) (xs.length - (j - i)) cap) (xs.take i ++ xs.drop j) := by
    have hrl : ∀ r ∈ xs.take i ++ xs.drop j, r.length = 2 := fun r hr => by
      rcases List.mem_append.1 hr with h | h
      · exact hxs r (List.mem_of_mem_take h)
      · exact hxs r (List.mem_of_mem_drop h)
    have hln : (xs.take i ++ xs.drop j).length = xs.length - (j - i) := by rw [List.length_append, List.length_take, List.length_drop]; omega
    have e3 : i + (xs.length - j) = xs.length - (j - i) := by omega
    have e2 : c2.size = cur.size := by
      have e1 : c2.toList.length = c2.size := Array.length_toList
      have e4 : c1.toList.length = c1.size := Array.length_toList
      rw [← e1, hc2l, List.length_append, List.length_append, List.length_take, List.length_drop, e4, hc1s, hZl]
      omega
    refine ⟨hrl, by rw [flat_len hrl], .inr ⟨g, cap, c2, by rw [hln], Nat.zero_le _, hc2, by omega, hcm, by rw [e2, hcs], ?_⟩⟩
    rw [hln, ← e3]
    exact del_row (i := i) (j := j) hxs rfl (by omega) hj htk (by rw [hcl0, hcs]; omega) (by rw [hc1l, hnews, Nat.zero_add]) hc2l
  have hfr : Fr (fun k => (Value.slice (some ⟨g, 0, none⟩) xs.length cap).ownBlock = some k) w (W1.setCells g ((i + (xs.length - j)) * 2) Z.toList) := by
    have f1 : Fr (fun k => k = g) w W1 := by rw [hW1]; exact Fr.trans (S := fun k => k = g) (Fr.refl _ w).drew (Fr.setCells g news (0 + i * 2) w.drew) (fun _ _ e => e)
    exact (f1.trans (Fr.setCells g Z.toList _ W1) (fun _ _ e => e)).mono fun k _ e => by rw [e]; rfl
  have HF := Lib.hid hfin
  have HFR := Lib.hid hfr
  have hW : Hid (W1 = w.drew.setCells g (0 + i * 2) news) := hW1
  have hic : i ≤ cap := by omega
  have hjc : j ≤ cap := by omega
  have hnn : xs.length ≤ 9223372036854775807 := by unfold maxLen at hcm; omega
  have hcc : cap ≤ 9223372036854775807 := by unfold maxLen at hcm; omega
  obtain ⟨n, hn⟩ : ∃ n, n = xs.length := ⟨_, rfl⟩
  have HN := Lib.hid hn
  have e5 : n - (i + (n - j)) = j - i := by omega
  clear hcl0 hc1s hZl
  clear hW1 hfin hfr hZZ hZ hm hc1 hc1l hc2 hc2l hone hcell hfl hnews hlen hcs htk hh hrow0 hxs hu hcm
  go_enter Tryd.func56, Tryd.ntmps56
  go_wp2_with fail
  go_region_law (refine step_append_room rfl (.tmp 22) (.tmp 25) 48 rfl 24 i0 2 Tryd.underlying48 hi0 hz1 g 0 i cap (by simp [Act.eval, Act.put]) A (xs.length - j) (cap - j) news (by simp [Act.eval, Act.put]) s1.out hsrc.out s2.out (by omega) s3.out ?_; rw [← hW.out])
  go_wp2
  go_ret
  exact ⟨congrArg (fun x => Ending.returned (.slice (some ⟨g, 0, none⟩) x cap)) (show i + (xs.length - j) = xs.length - (j - i) by omega), HF.out, HFR.out⟩
end Go.Proofs.YtooepflfofgnnaaDoor
