/- A region that draws its order and ends in an append and a store to a cell that it reads: what is held of that cell is asked only till the append has come up. Own laws, over the library's words on orders. -/
import Derived.OrdersHeld
import Derived.Deep.RegionHeld3
namespace Go.Proofs.YtcpookgbneoilaaDoor

section
variable {P : Program} {md : Region.Mode} {ops : Array Oper} {Q : Exit → Act → World → Prop} {S : Array Bool → World → Prop} {S1 : World → Prop}

/-- Whatever order is picked from here on; what is held behind each operation may hang on which have come up. -/
def wpGate (P : Program) (md : Region.Mode) (ops : Array Oper) (Q : Exit → Act → World → Prop) (S : Array Bool → World → Prop) : Nat → Array Bool → Act → World → Prop
  | 0, listed, a, w => Region.ready md ops listed = [] ∧ Q .normal a w
  | n + 1, listed, a, w =>
    (Region.ready md ops listed = [] → Q .normal a w) ∧
    ∀ i ∈ Region.ready md ops listed, wpOp P ops Q i (fun a' w' => S (listed.setIfInBounds i true) w' ∧ wpGate P md ops Q S n (listed.setIfInBounds i true) a' w') a w
theorem any_of_gate : ∀ (n : Nat) (listed : Array Bool) (a : Act) (w : World), wpGate P md ops Q S n listed a w → wpAny P md ops Q n listed a w
  | 0, _, _, _, h => h
  | n + 1, _, _, _, h => ⟨h.1, fun i hi => wpOp_mono (fun a' w' h' => any_of_gate n _ a' w' h'.2) (h.2 i hi)⟩

theorem gate_first {i : Nat} {oi : Oper} {v : Value} {I : Array Bool → Prop} (hi : ops[i]? = some oi) (hsel : ∀ (j : Nat) (o : Oper) cs b, ops[j]? = some o → o.op ≠ .select cs b)
    (hQ : ∀ c a w, Q (.panic c) (a.put oi.dst v) w → Q (.panic c) a w)
    (hset : ∀ l w, S l w → S (l.setIfInBounds i true) w) (hun : ∀ (l : Array Bool) j w, j ≠ i → S ((l.setIfInBounds i true).setIfInBounds j true) w → S (l.setIfInBounds j true) w)
    (hI : ∀ (l : Array Bool) j, I l → i ∈ Region.ready md ops l → j ∈ Region.ready md ops l → j ≠ i → I (l.setIfInBounds j true)) (h1 : ∀ l w, I l → S l w → S1 w) :
    ∀ (n : Nat) (listed : Array Bool) (a : Act) (w : World), I listed →
      (∀ j oj, ops[j]? = some oj → j ≠ i → listed.getD j true = false → (∀ e ∈ oj.after, Region.binds md e = true → e.on ≠ i) → oi.apart ops oj = true) →
      i ∈ Region.ready md ops listed → YieldsIf P ops S1 oi v a → S listed w →
      wpGate P md ops Q S n (listed.setIfInBounds i true) (a.put oi.dst v) w → wpGate P md ops Q S (n + 1) listed a w := by
  intro n
  induction n with
  | zero =>
    intro listed a w hil _ hr hy hS H
    refine ⟨fun h => (by rw [h] at hr; cases hr), fun j hj => ?_⟩
    by_cases hji : j = i
    · subst hji; exact hy.wpOp hi (h1 _ _ hil hS) ⟨hset _ _ hS, H⟩
    · have h2 := ready_mono hj hji
      rw [H.1] at h2
      cases h2
  | succ n ih =>
    intro listed a w hil hfree hr hy hS H
    refine ⟨fun h => (by rw [h] at hr; cases hr), fun j hj => ?_⟩
    by_cases hji : j = i
    · subst hji; exact hy.wpOp hi (h1 _ _ hil hS) ⟨hset _ _ hS, H⟩
    · have hH := H.2 j (ready_mono hj hji)
      obtain ⟨hjun, oj, hoj, hall⟩ := mem_ready.1 hj
      have hnot : ∀ e ∈ oj.after, Region.binds md e = true → e.on ≠ i := fun e he hb heq => by
        have h3 := hall e he hb
        have h0 := (mem_ready.1 hr).1
        rw [heq] at h3
        rcases Nat.lt_or_ge i listed.size with h' | h'
        · simp [h'] at h0 h3; rw [h0] at h3; cases h3
        · simp [Array.getElem?_eq_none h'] at h3
      have h2 := wpOp_putIf hoj (hfree j oj hoj hji hjun hnot) (fun cs b => hsel i oi cs b hi) (fun cs b => hsel j oj cs b hoj) hQ hy hH
      have hfree' : ∀ k ok, ops[k]? = some ok → k ≠ i → (listed.setIfInBounds j true).getD k true = false →
          (∀ e ∈ ok.after, Region.binds md e = true → e.on ≠ i) → oi.apart ops ok = true := fun k ok hk hki hunl hno => by
        refine hfree k ok hk hki ?_ hno
        by_cases hjk : j = k
        · subst hjk; exact hjun
        · rw [getD_set_ne true hjk] at hunl; exact hunl
      refine wpOp_mono (fun a' w' h3 => ?_) h2
      have hSj := hun listed j w' hji h3.2.1
      refine ⟨hSj, ih (listed.setIfInBounds j true) a' w' (hI _ _ hil hr hj hji) hfree' (ready_mono hr (Ne.symm hji)) h3.1 hSj ?_⟩
      rw [Array.setIfInBounds_comm _ _ hji]
      exact h3.2.2

/-- F holds throughout, G till operation g has come up. -/
abbrev FG (F G : World → Prop) (g : Nat) (l : Array Bool) (w : World) : Prop := F w ∧ (l.getD g true = false → G w)
variable {F G : World → Prop} {g : Nat}
theorem FG.set {i : Nat} (hig : i ≠ g) (l : Array Bool) (w : World) (h : FG F G g l w) : FG F G g (l.setIfInBounds i true) w := ⟨h.1, fun hg => h.2 (by rwa [getD_set_ne true hig] at hg)⟩
theorem FG.un {i : Nat} (hig : i ≠ g) (l : Array Bool) (j : Nat) (w : World) (hji : j ≠ i) (h : FG F G g ((l.setIfInBounds i true).setIfInBounds j true) w) : FG F G g (l.setIfInBounds j true) w :=
  ⟨h.1, fun hg => h.2 (by rw [← Array.setIfInBounds_comm _ _ hji, getD_set_ne true hig]; exact hg)⟩
theorem FG.past {l : Array Bool} {w : World} (hl : l.getD g true = true) (hF : F w) : FG F G g l w := ⟨hF, fun h => by rw [hl] at h; cases h⟩
theorem gate_takeF {i : Nat} {oi : Oper} {v : Value} {n : Nat} {listed : Array Bool} {a : Act} {w : World} (hi : ops[i]? = some oi)
    (hs : Region.noSelect ops = true) (hf : Region.free md ops listed i = true) (hr : (Region.ready md ops listed).contains i = true)
    (hQ : ∀ c a w, Q (.panic c) (a.put oi.dst v) w → Q (.panic c) a w) (hig : i ≠ g) (hS : FG F G g listed w) (hy : YieldsIf P ops F oi v a)
    (h : wpGate P md ops Q (FG F G g) n (listed.setIfInBounds i true) (a.put oi.dst v) w) : wpGate P md ops Q (FG F G g) (n + 1) listed a w :=
  gate_first (I := fun _ => True) hi (Region.noSelect_spec hs) hQ (FG.set hig) (fun l j w hji => FG.un hig l j w hji) (fun _ _ _ _ _ _ => trivial) (fun _ _ _ h => h.1) n listed a w trivial (Region.free_spec hi hf) (by simpa using hr) hy hS h
/-- g waits for i. -/
def waitsB (md : Region.Mode) (ops : Array Oper) (g i : Nat) : Bool := match ops[g]? with
  | some og => og.after.any fun e => Region.binds md e && e.on == i
  | none => false
theorem gate_takeG {i : Nat} {oi : Oper} {v : Value} {n : Nat} {listed : Array Bool} {a : Act} {w : World} (hi : ops[i]? = some oi)
    (hs : Region.noSelect ops = true) (hf : Region.free md ops listed i = true) (hr : (Region.ready md ops listed).contains i = true)
    (hQ : ∀ c a w, Q (.panic c) (a.put oi.dst v) w → Q (.panic c) a w) (hig : i ≠ g) (hw : waitsB md ops g i = true) (hgl : listed.getD g true = false) (hS : FG F G g listed w) (hy : YieldsIf P ops (fun w => F w ∧ G w) oi v a)
    (h : wpGate P md ops Q (FG F G g) n (listed.setIfInBounds i true) (a.put oi.dst v) w) : wpGate P md ops Q (FG F G g) (n + 1) listed a w := by
  refine gate_first (S1 := fun w => F w ∧ G w) (I := fun l => l.getD g true = false) hi (Region.noSelect_spec hs) hQ (FG.set hig) (fun l j w hji => FG.un hig l j w hji) (fun l j hl hir hjr hji => ?_) (fun l w hl h => ⟨h.1, h.2 hl⟩) n listed a w hgl (Region.free_spec hi hf) (by simpa using hr) hy hS h
  have hjg : j ≠ g := by
    rintro rfl
    obtain ⟨_, oj, hoj, hall⟩ := mem_ready.1 hjr
    unfold waitsB at hw
    rw [hoj] at hw
    obtain ⟨e, he, hb⟩ := Array.any_eq_true'.1 hw
    simp only [Bool.and_eq_true, beq_iff_eq] at hb
    have h3 := hall e he hb.1
    have h0 := (mem_ready.1 hir).1
    rw [hb.2] at h3
    rcases Nat.lt_or_ge i l.size with h' | h'
    · simp [h'] at h0 h3; rw [h0] at h3; cases h3
    · simp [Array.getElem?_eq_none h'] at h3
  rw [getD_set_ne true hjg]; exact hl
/-- Only one may come up. -/
theorem gate_one {i n : Nat} {o : Oper} {listed : Array Bool} {a : Act} {w : World} (hr : Region.ready md ops listed = [i]) (hi : ops[i]? = some o)
    (h : ∀ K : Act → World → Prop, (∀ a' w', FG F G g (listed.setIfInBounds i true) w' → wpGate P md ops Q (FG F G g) n (listed.setIfInBounds i true) a' w' → K a' w') →
      if Region.wanted o (yielded ops a.tmps) = true then Oper.wp P o a w K Q else K (a.put o.dst undef) w) : wpGate P md ops Q (FG F G g) (n + 1) listed a w := by
  refine ⟨(fun h0 => by rw [hr] at h0; cases h0), (fun j hj => ?_)⟩
  rw [hr, List.mem_singleton] at hj
  subst hj
  have hh := h (fun a' w' => FG F G g (listed.setIfInBounds j true) w' ∧ wpGate P md ops Q (FG F G g) n (listed.setIfInBounds j true) a' w') fun a' w' h1 h2 => ⟨h1, h2⟩
  unfold wpOp
  simp only [hi]
  split
  · rename_i hw
    rw [if_pos hw] at hh
    exact .inl hh
  · rename_i hw
    rw [if_neg hw] at hh
    exact hh
theorem gate_done {listed : Array Bool} {a : Act} {w : World} (hr : Region.ready md ops listed = []) (h : Q .normal a w) : ∀ n, wpGate P md ops Q S n listed a w
  | 0 => ⟨hr, h⟩
  | _ + 1 => ⟨fun _ => h, by rw [hr]; simp⟩
theorem wp_region_gate {id : Nat} {a : Act} {w : World} (F G : World → Prop) (g : Nat) (hm : P.follows .mixedOrders = true)
    (h : wpGate P .any ops Q (FG F G g) ops.size (Array.replicate ops.size false) a w.drew) : (Code.region id ops true).wp P Q a w :=
  wp_region_any hm (any_of_gate _ _ _ _ h)
end
end Go.Proofs.YtcpookgbneoilaaDoor
