/- Plain: the peeler's state behind some drops of blocks: what is known, how many wait, in whatever order. No program in sight. -/
import Derived.Test.YtmkmkaiapgedjaaDoorPeelPl2
import Derived.Test.YtmkmkaiapgedjaaDoorPeelTk
import Derived.Test.YtmkmkaiapgedjaaDoorOpenDrop
namespace Go.Proofs.YtmkmkaiapgedjaaDoor

theorem sumTo_fold (ss : List ByteArray) (m : Nat) (zs : List Int) : ∀ j, j ≤ zs.length → sumTo ss m zs j = (zs.take j).foldl (ovB fun z => bl ss z.toNat) (noughts m)
  | 0, _ => rfl
  | j + 1, h => by
    rw [List.take_succ_eq_append_getElem (by omega), List.foldl_append]
    show xorL (sumTo ss m zs j) _ = xorL _ _
    rw [sumTo_fold ss m zs j (by omega), List.getD_eq_getElem?_getD, List.getElem?_eq_getElem (by omega)]; rfl
/-- a drop as it comes to wait -/
def wtD (k : Nat) (d : Dr) : Wt := (setZ k d.s.toNat, d.t.data.toList)
theorem made_ok {ss : List ByteArray} (hc : chk ss = 0) {ds : List Dr} (h : ∀ d ∈ ds, dmkE ss d.s = 0 ∧ d.t = dmkD ss d.s) : DOk ss.length (szAt ss 0) (fun z => bl ss z.toNat) (ds.map (wtD ss.length)) := by
  have ho := chk_ok hc
  have hp := ho.pos
  refine ⟨fun x hx => ?_, fun z h0 h1 => bl_lens ho _ (by omega), fun x hx => ?_, fun x hx => ?_⟩
  all_goals (obtain ⟨d, hd, rfl⟩ := List.mem_map.1 hx; obtain ⟨h1, h2⟩ := h d hd; obtain ⟨-, a1, a2, -, a4, -⟩ := made_sum h1)
  · exact setZ_lt _ _ (by omega) (by omega)
  · exact (setZ_rises _ _).imp fun h => by omega
  · show d.t.data.toList = _
    rw [h2, a4]
    show sumTo _ _ _ _ = _
    rw [sumTo_fold ss _ _ _ (Nat.le_refl _), List.take_length]
    rfl
theorem knw_unk (K : Kn) : ∀ k, (knwL K k).length + unkC K k = k
  | 0 => rfl
  | k + 1 => by
    have ih := knw_unk K k
    have h1 : unkC K (k + 1) = unkC K k + if unkn K (k : Int) = true then 1 else 0 := by
      unfold unkC
      rw [List.range_succ, List.filter_append, List.length_append]
      congr 1
      show ([k].filter _).length = _
      rw [List.filter_cons]
      cases unkn K (k : Int) <;> rfl
    rw [knwL_succ, h1]
    unfold unkn
    cases K (k : Int) with
    | none => simp; omega
    | some b => simp; omega
/-- The state behind the drops ds. -/
structure PS (ss : List ByteArray) (ds : List Dr) (K : Kn) (L : List Wt) : Prop where
  made : ∀ d ∈ ds, dmkE ss d.s = 0 ∧ d.t = dmkD ss d.s
  pi : PI ss.length (szAt ss 0) (fun z => bl ss z.toNat) (ds.map (wtD ss.length)) K L
  left : L = leftW K (ds.map (wtD ss.length))
  none1 : ∀ x ∈ L, x.1.length ≠ 1
theorem PS.nil (ss : List ByteArray) : PS ss [] (fun _ => none) [] := ⟨fun _ h => (by cases h), ⟨rfl, fun _ h => absurd rfl h, fun _ _ h => (by cases h)⟩, rfl, fun _ h => (by cases h)⟩
/-- One drop more: what is known by it is as much more. -/
theorem PS.take {ss : List ByteArray} (hc : chk ss = 0) {ds : List Dr} {K : Kn} {L : List Wt} (h : PS ss ds K L) {s : Int} {t : Bts} (hs : dmkE ss s = 0) (ht : dmkD ss s = S t) :
    PS ss (ds ++ [⟨s, S t⟩]) (lrnK ss.length K (L ++ [(setZ ss.length s.toNat, t)])) (lrnL ss.length K (L ++ [(setZ ss.length s.toNat, t)])) ∧ (knwL K ss.length).length + (lrnO ss.length K (L ++ [(setZ ss.length s.toNat, t)])).length = (knwL (lrnK ss.length K (L ++ [(setZ ss.length s.toNat, t)])) ss.length).length := by
  have hm : ∀ d ∈ ds ++ [(⟨s, S t⟩ : Dr)], dmkE ss d.s = 0 ∧ d.t = dmkD ss d.s := fun d hd => by
    rcases List.mem_append.1 hd with h1 | h1
    · exact h.made d h1
    · rw [List.mem_singleton.1 h1]; exact ⟨hs, ht.symm⟩
  have hD := made_ok hc hm
  have hpi : PI ss.length (szAt ss 0) (fun z => bl ss z.toNat) ((ds ++ [(⟨s, S t⟩ : Dr)]).map (wtD ss.length)) K (L ++ [(setZ ss.length s.toNat, t)]) := by
    refine ⟨?_, fun z hz => (h.pi.just z hz).mono fun x hx => ?_, h.pi.val⟩
    · rw [leftW_append, List.map_append, leftW_append, h.pi.left]; rfl
    · rw [List.map_append]; exact List.mem_append_left _ hx
  have hu := unkC_le K ss.length
  obtain ⟨r1, r2, r3, -, r5⟩ := learn_law hD (ss.length + 1) K (L ++ [(setZ ss.length s.toNat, t)]) [] hpi (by omega)
  refine ⟨⟨hm, r1, r2, r3⟩, ?_⟩
  have k1 := knw_unk K ss.length
  have k2 := knw_unk (lrnK ss.length K (L ++ [(setZ ss.length s.toNat, t)])) ss.length
  have hl : (lrnO ss.length K (L ++ [(setZ ss.length s.toNat, t)])).length = (learnF (ss.length + 1) K (L ++ [(setZ ss.length s.toNat, t)]) []).2.2.length := List.length_mergeSort _
  unfold lrnK at *
  rw [List.length_nil] at r5
  omega
/-- What must be known is known. -/
theorem PS.all {ss : List ByteArray} (hc : chk ss = 0) {ds : List Dr} {K : Kn} {L : List Wt} (h : PS ss ds K L) {z : Int} (hz : Cl (ds.map (wtD ss.length)) z) : K z ≠ none := by
  have hD := made_ok hc h.made
  induction hz with
  | step x z hx hzx _ ih =>
    intro hKz
    have hf : x.1.filter (unkn K) = [z] := by
      have hn := (hD.dif x hx).filter (unkn K)
      have hall : ∀ y ∈ x.1.filter (unkn K), y = z := fun y hy => by
        obtain ⟨h1, h2⟩ := List.mem_filter.1 hy
        refine Classical.byContradiction fun hne => ih y h1 hne ?_
        unfold unkn at h2
        cases hk : K y with
        | none => rfl
        | some b => rw [hk] at h2; cases h2
      have hzm : z ∈ x.1.filter (unkn K) := List.mem_filter.2 ⟨hzx, by unfold unkn; rw [hKz]; rfl⟩
      cases hq : x.1.filter (unkn K) with
      | nil => rw [hq] at hzm; cases hzm
      | cons a r =>
        rw [hq] at hn hall
        have ha := hall a (List.mem_cons_self ..)
        cases r with
        | nil => rw [ha]
        | cons b r =>
          have hb := hall b (List.mem_cons_of_mem _ (List.mem_cons_self ..))
          have := (List.nodup_cons.1 hn).1
          exact absurd (by rw [ha, hb]; exact List.mem_cons_self ..) this
    have hm : wout K x ∈ L := by
      rw [h.left]
      refine List.mem_filter.2 ⟨List.mem_map.2 ⟨x, hx, rfl⟩, ?_⟩
      unfold some1 wout
      rw [hf]; rfl
    refine h.none1 _ hm ?_
    show (x.1.filter (unkn K)).length = 1
    rw [hf]; rfl
/-- Of the same drops in another order the same is known. -/
theorem PS.same {ss : List ByteArray} (hc : chk ss = 0) {ds es : List Dr} {K K' : Kn} {L L' : List Wt} (h : PS ss ds K L) (h' : PS ss es K' L') (he : ∀ d, d ∈ ds ↔ d ∈ es) (z : Int) : (K z).isSome = (K' z).isSome := by
  have hm : ∀ x, x ∈ ds.map (wtD ss.length) ↔ x ∈ es.map (wtD ss.length) := fun x => by
    constructor
    · intro hx; obtain ⟨d, hd, e⟩ := List.mem_map.1 hx; exact List.mem_map.2 ⟨d, (he d).1 hd, e⟩
    · intro hx; obtain ⟨d, hd, e⟩ := List.mem_map.1 hx; exact List.mem_map.2 ⟨d, (he d).2 hd, e⟩
  cases hk : K z with
  | some b =>
    have hcl := (h.pi.just z (by rw [hk]; exact fun e => by cases e)).mono fun x hx => (hm x).1 hx
    have := h'.all hc hcl
    cases hk' : K' z with
    | some c => rfl
    | none => exact absurd hk' this
  | none =>
    cases hk' : K' z with
    | none => rfl
    | some c =>
      have hcl := (h'.pi.just z (by rw [hk']; exact fun e => by cases e)).mono fun x hx => (hm x).2 hx
      exact absurd hk (h.all hc hcl)
theorem knwL_congr {K K' : Kn} (h : ∀ z, (K z).isSome = (K' z).isSome) (k : Nat) : knwL K k = knwL K' k := by
  unfold knwL
  exact List.filter_congr fun z _ => h z
theorem leftW_count (K : Kn) : ∀ Ds : List Wt, (leftW K Ds).length = (Ds.filter fun x => x.1.any (unkn K)).length
  | [] => rfl
  | x :: Ds => by
    have e : some1 (wout K x) = x.1.any (unkn K) := by
      unfold some1 wout
      show decide (0 < (x.1.filter (unkn K)).length) = _
      cases hq : x.1.any (unkn K) with
      | true =>
        obtain ⟨z, hz, hu⟩ := List.any_eq_true.1 hq
        exact decide_eq_true (List.length_pos_iff_exists_mem.2 ⟨z, List.mem_filter.2 ⟨hz, hu⟩⟩)
      | false =>
        refine decide_eq_false fun hp => ?_
        obtain ⟨z, hz⟩ := List.length_pos_iff_exists_mem.1 hp
        obtain ⟨h1, h2⟩ := List.mem_filter.1 hz
        rw [List.any_eq_true.2 ⟨z, h1, h2⟩] at hq; cases hq
    rw [leftW_cons, List.filter_cons, e]
    cases x.1.any (unkn K) with
    | true => simp [leftW_count K Ds]
    | false => simp [leftW_count K Ds]
theorem PS.waits {ss : List ByteArray} (hc : chk ss = 0) {ds : List Dr} {K K' : Kn} {L L' : List Wt} (h : PS ss ds K L) (h' : PS ss ds.reverse K' L') : L.length = L'.length := by
  have hs := h.same hc h' (fun d => List.mem_reverse.symm)
  rw [h.left, h'.left, leftW_count, leftW_count, List.map_reverse, List.filter_reverse, List.length_reverse]
  congr 1
  refine List.filter_congr fun x _ => ?_
  congr 1
  funext z
  have hz := hs z
  unfold unkn
  cases h1 : K z <;> cases h2 : K' z <;> rw [h1, h2] at hz <;> first | rfl | cases hz
end Go.Proofs.YtmkmkaiapgedjaaDoor
