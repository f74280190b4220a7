/- Plain: what is known of drops of blocks is so, and in whatever order it is the same. No program in sight. -/
import Derived.Test.YtmkmkaiapgedjaaDoorPeelLW
import Derived.Test.YtmkmkaiapgedjaaDoorUnitPl
namespace Go.Proofs.YtmkmkaiapgedjaaDoor

def Ext (K K' : Kn) : Prop := ∀ z b, K z = some b → K' z = some b
theorem xorL_swap3 (d b c : Bts) : xorL (xorL d b) c = xorL (xorL d c) b := by rw [xorL_assoc, xorL_assoc, xorL_comm b c]
theorem ovK_swap (K K' : Kn) (d : Bts) (y z : Int) : ovK K (ovK K' d z) y = ovK K' (ovK K d y) z := by
  unfold ovK
  cases K y <;> cases K' z <;> first | rfl | exact xorL_swap3 _ _ _
theorem fold_swap (K K' : Kn) (z : Int) : ∀ (l : List Int) (d : Bts), l.foldl (ovK K) (ovK K' d z) = ovK K' (l.foldl (ovK K) d) z
  | [], _ => rfl
  | y :: l, d => by
    rw [List.foldl_cons, List.foldl_cons, ovK_swap]
    exact fold_swap K K' z l _
theorem fold_twice {K K' : Kn} (h : Ext K K') : ∀ (l : List Int) (d : Bts), (l.filter (unkn K)).foldl (ovK K') (l.foldl (ovK K) d) = l.foldl (ovK K') d
  | [], _ => rfl
  | z :: l, d => by
    rw [List.foldl_cons, List.foldl_cons]
    cases hz : K z with
    | some b =>
      have hu : unkn K z = false := by unfold unkn; rw [hz]; rfl
      have h1 : ovK K d z = xorL d b := by unfold ovK; rw [hz]
      have h2 : ovK K' d z = xorL d b := by unfold ovK; rw [h z b hz]
      rw [List.filter_cons_of_neg (by rw [hu]; decide), h1, h2]
      exact fold_twice h l _
    | none =>
      have hu : unkn K z = true := by unfold unkn; rw [hz]; rfl
      have h1 : ovK K d z = d := by unfold ovK; rw [hz]
      rw [List.filter_cons_of_pos hu, List.foldl_cons, h1, fold_swap, fold_swap, fold_twice h l]
theorem unkn_ext {K K' : Kn} (h : Ext K K') (z : Int) (hz : unkn K' z = true) : unkn K z = true := by
  unfold unkn at *
  cases hk : K z with
  | none => rfl
  | some b => rw [h z b hk] at hz; cases hz
theorem filter_twice {K K' : Kn} (h : Ext K K') (l : List Int) : (l.filter (unkn K)).filter (unkn K') = l.filter (unkn K') := by
  rw [List.filter_filter]
  refine List.filter_congr fun z _ => ?_
  cases hz : unkn K' z with
  | false => rfl
  | true => rw [unkn_ext h z hz]; rfl
theorem wout_twice {K K' : Kn} (h : Ext K K') (x : Wt) : wout K' (wout K x) = wout K' x := by
  unfold wout
  rw [fold_twice h, filter_twice h]
theorem some1_ext {K K' : Kn} (h : Ext K K') (x : Wt) (hx : some1 (wout K' x) = true) : some1 (wout K x) = true := by
  unfold some1 wout at *
  have h1 := of_decide_eq_true hx
  refine decide_eq_true ?_
  obtain ⟨z, hz⟩ := List.length_pos_iff_exists_mem.1 h1
  obtain ⟨hm, hu⟩ := List.mem_filter.1 hz
  exact List.length_pos_iff_exists_mem.2 ⟨z, List.mem_filter.2 ⟨hm, unkn_ext h z hu⟩⟩
theorem leftW_cons (K : Kn) (x : Wt) (L : List Wt) : leftW K (x :: L) = if some1 (wout K x) = true then wout K x :: leftW K L else leftW K L := by
  unfold leftW
  rw [List.map_cons, List.filter_cons]
theorem leftW_append (K : Kn) (L M : List Wt) : leftW K (L ++ M) = leftW K L ++ leftW K M := by
  unfold leftW
  rw [List.map_append, List.filter_append]
theorem leftW_twice {K K' : Kn} (h : Ext K K') : ∀ L : List Wt, leftW K' (leftW K L) = leftW K' L
  | [] => rfl
  | x :: L => by
    rw [leftW_cons K, leftW_cons K']
    by_cases h1 : some1 (wout K x) = true
    · rw [if_pos h1, leftW_cons, wout_twice h, leftW_twice h L]
    · rw [if_neg h1, if_neg (fun e => h1 (some1_ext h x e)), leftW_twice h L]
theorem Ext.refl (K : Kn) : Ext K K := fun _ _ h => h
theorem Ext.trans {K K' K'' : Kn} (h : Ext K K') (k : Ext K' K'') : Ext K K'' := fun z b e => k z b (h z b e)
theorem Ext.upd {K : Kn} {z : Int} (h : K z = none) (b : Bts) : Ext K (updK K z b) := fun y c e => by
  unfold updK
  rw [if_neg (fun e2 => by rw [e2, h] at e; cases e)]; exact e

theorem filter_one {α : Type} {p q : α → Bool} : ∀ {l : List α} {a : α}, l.Nodup → a ∈ l → q a = true → p a = false → (∀ x, x ≠ a → p x = q x) → (l.filter p).length + 1 = (l.filter q).length
  | [], a, _, h, _, _, _ => by cases h
  | x :: r, a, hn, h, hq, hp, hs => by
    obtain ⟨hx, hr⟩ := List.nodup_cons.1 hn
    rw [List.filter_cons, List.filter_cons]
    by_cases e : x = a
    · subst e
      have hc : r.filter p = r.filter q := List.filter_congr fun y hy => hs y fun e => hx (e ▸ hy)
      rw [hq, hp, hc]; simp
    · have ih := filter_one hr ((List.mem_cons.1 h).resolve_left fun e2 => e e2.symm) hq hp hs
      rw [hs x e]
      cases q x <;> simp <;> omega
theorem unkC_upd1 {k : Nat} {K : Kn} {z : Int} (b : Bts) (hz : 0 ≤ z ∧ z < (k : Int)) (hn : K z = none) : unkC (updK K z b) k + 1 = unkC K k := by
  unfold unkC
  refine filter_one (a := z.toNat) List.nodup_range (List.mem_range.2 (by omega)) ?_ ?_ fun x hx => ?_
  · unfold unkn; rw [Int.toNat_of_nonneg hz.1, hn]; rfl
  · unfold unkn updK; rw [Int.toNat_of_nonneg hz.1, if_pos rfl]; rfl
  · unfold unkn updK
    rw [if_neg (fun e => hx (by omega))]
/-- What must be known: of a drop of which all others are known, the last one. -/
inductive Cl (Ds : List Wt) : Int → Prop where
  | step (x : Wt) (z : Int) : x ∈ Ds → z ∈ x.1 → (∀ y ∈ x.1, y ≠ z → Cl Ds y) → Cl Ds z
theorem Cl.mono {Ds Es : List Wt} (h : ∀ x ∈ Ds, x ∈ Es) {z : Int} (hz : Cl Ds z) : Cl Es z := by
  induction hz with
  | step x z hx hm _ ih => exact .step x z (h x hx) hm ih
/-- some blocks over one another -/
def ovB (B : Int → Bts) (d : Bts) (z : Int) : Bts := xorL d (B z)
theorem ovB_swap (B : Int → Bts) (z : Int) : ∀ (l : List Int) (d : Bts), l.foldl (ovB B) (ovB B d z) = ovB B (l.foldl (ovB B) d) z
  | [], _ => rfl
  | y :: l, d => by
    rw [List.foldl_cons, List.foldl_cons, show ovB B (ovB B d z) y = ovB B (ovB B d y) z from xorL_swap3 _ _ _]
    exact ovB_swap B z l _
theorem ovB_len {B : Int → Bts} {m : Nat} : ∀ (l : List Int) (d : Bts), (∀ z ∈ l, (B z).length = m) → d.length = m → (l.foldl (ovB B) d).length = m
  | [], _, _, h => h
  | z :: l, d, hB, h => ovB_len l _ (fun y hy => hB y (List.mem_cons_of_mem _ hy)) (by unfold ovB; rw [xorL_length _ _ (by rw [h, hB z (List.mem_cons_self ..)])]; exact h)
theorem fold_right {K : Kn} {B : Int → Bts} {m : Nat} (hK : ∀ z b, K z = some b → b = B z) : ∀ (l : List Int) (d : Bts), (∀ z ∈ l, (B z).length = m) → d.length = m → l.foldl (ovK K) (l.foldl (ovB B) d) = (l.filter (unkn K)).foldl (ovB B) d
  | [], _, _, _ => rfl
  | z :: l, d, hB, hd => by
    have hBz := hB z (List.mem_cons_self ..)
    have hBl : ∀ y ∈ l, (B y).length = m := fun y hy => hB y (List.mem_cons_of_mem _ hy)
    rw [List.foldl_cons, List.foldl_cons]
    cases hz : K z with
    | some b =>
      have hu : unkn K z = false := by unfold unkn; rw [hz]; rfl
      have h1 : ∀ e, ovK K e z = xorL e (B z) := fun e => by unfold ovK; rw [hz]; show xorL e b = _; rw [hK z b hz]
      rw [List.filter_cons_of_neg (by rw [hu]; decide), h1, ovB_swap]
      show l.foldl (ovK K) (xorL (xorL (l.foldl (ovB B) d) (B z)) (B z)) = _
      rw [xorL_back _ _ (by rw [ovB_len l d hBl hd, hBz])]
      exact fold_right hK l d hBl hd
    | none =>
      have hu : unkn K z = true := by unfold unkn; rw [hz]; rfl
      have h1 : ∀ e, ovK K e z = e := fun e => by unfold ovK; rw [hz]
      rw [List.filter_cons_of_pos hu, List.foldl_cons, h1]
      exact fold_right hK l _ hBl (by unfold ovB; rw [xorL_length _ _ (by rw [hd, hBz])]; exact hd)

/-- Drops that are right: each makes its blocks over one another. -/
structure DOk (k m : Nat) (B : Int → Bts) (Ds : List Wt) : Prop where
  of : ∀ x ∈ Ds, ∀ z ∈ x.1, 0 ≤ z ∧ z < (k : Int)
  len : ∀ z : Int, 0 ≤ z → z < (k : Int) → (B z).length = m
  dif : ∀ x ∈ Ds, x.1.Nodup
  eq : ∀ x ∈ Ds, x.2 = x.1.foldl (ovB B) (noughts m)
/-- What holds while one finds one by one. -/
structure PI (k m : Nat) (B : Int → Bts) (Ds : List Wt) (K : Kn) (L : List Wt) : Prop where
  left : leftW K L = leftW K Ds
  just : ∀ z, K z ≠ none → Cl Ds z
  val : ∀ z b, K z = some b → 0 ≤ z ∧ z < (k : Int) ∧ b = B z
theorem learn_law {k m : Nat} {B : Int → Bts} {Ds : List Wt} (hD : DOk k m B Ds) : ∀ (f : Nat) (K : Kn) (L : List Wt) (out : List Int), PI k m B Ds K L → unkC K k < f →
    PI k m B Ds (learnF f K L out).1 (learnF f K L out).2.1 ∧ (learnF f K L out).2.1 = leftW (learnF f K L out).1 Ds ∧ (∀ x ∈ (learnF f K L out).2.1, x.1.length ≠ 1) ∧ Ext K (learnF f K L out).1 ∧ (learnF f K L out).2.2.length + unkC (learnF f K L out).1 k = out.length + unkC K k
  | 0, _, _, _, _, h => absurd h (Nat.not_lt_zero _)
  | f + 1, K, L, out, h, hf => by
    cases hq : (leftW K L).find? one1 with
    | none =>
      have e : learnF (f + 1) K L out = (K, leftW K L, out) := by rw [learnF, hq]
      rw [e]
      refine ⟨⟨by show leftW K (leftW K L) = _; rw [leftW_twice (Ext.refl K)]; exact h.left, h.just, h.val⟩, h.left, fun x hx hl => ?_, Ext.refl K, rfl⟩
      have := List.find?_eq_none.1 hq x hx
      exact this (decide_eq_true hl)
    | some x =>
      have e : learnF (f + 1) K L out = learnF f (updK K (x.1.headD 0) x.2) (leftW K L) (out ++ [x.1.headD 0]) := by rw [learnF, hq]
      obtain ⟨hxm, z, hz, hKz⟩ := leftW_one hq
      rw [e, hz]
      simp only [List.headD_cons]
      rw [h.left] at hxm
      obtain ⟨y, hy, rfl⟩ := List.mem_map.1 (List.mem_filter.1 hxm).1
      have hzf : z ∈ y.1.filter (unkn K) := by
        have : (wout K y).1 = y.1.filter (unkn K) := rfl
        rw [← this, hz]; exact List.mem_singleton.2 rfl
      have hzy := (List.mem_filter.1 hzf).1
      have hzr := hD.of y hy z hzy
      have hval : (wout K y).2 = B z := by
        show y.1.foldl (ovK K) y.2 = B z
        rw [hD.eq y hy, fold_right (m := m) (fun z b e => (h.val z b e).2.2) y.1 _ (fun z hz => hD.len z (hD.of y hy z hz).1 (hD.of y hy z hz).2) (by simp [noughts])]
        have : y.1.filter (unkn K) = [z] := hz
        rw [this]
        exact xorL_noughts_l _ _ (hD.len z hzr.1 hzr.2)
      have hex := Ext.upd hKz (wout K y).2
      have hun := unkC_upd (k := k) (K := K) (wout K y).2 hzr hKz
      have hun1 : unkC (updK K z (wout K y).2) k + 1 = unkC K k := unkC_upd1 (k := k) (K := K) (wout K y).2 hzr hKz
      have hpi : PI k m B Ds (updK K z (wout K y).2) (leftW K L) := by
        refine ⟨by rw [leftW_twice hex, ← leftW_twice hex L, h.left, leftW_twice hex], fun q hq2 => ?_, fun q b hb => ?_⟩
        · by_cases e2 : q = z
          · subst e2
            refine .step y q hy hzy fun u hu hne => h.just u fun hKu => hne ?_
            have : u ∈ y.1.filter (unkn K) := List.mem_filter.2 ⟨hu, by unfold unkn; rw [hKu]; rfl⟩
            have h2 : y.1.filter (unkn K) = [q] := hz
            rw [h2] at this
            exact List.mem_singleton.1 this
          · refine h.just q fun hKq => hq2 ?_
            unfold updK
            rw [if_neg e2]; exact hKq
        · unfold updK at hb
          by_cases e2 : q = z
          · rw [if_pos e2] at hb
            cases hb
            subst e2
            exact ⟨hzr.1, hzr.2, hval⟩
          · rw [if_neg e2] at hb
            exact h.val q b hb
      obtain ⟨r1, r2, r3, r4, r5⟩ := learn_law hD f _ _ (out ++ [z]) hpi (by omega)
      exact ⟨r1, r2, r3, hex.trans r4, by rw [r5, List.length_append, List.length_singleton]; omega⟩
end Go.Proofs.YtmkmkaiapgedjaaDoor
