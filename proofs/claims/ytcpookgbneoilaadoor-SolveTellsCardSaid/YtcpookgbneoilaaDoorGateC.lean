/- A region that draws its order and whose gate waits for an operation by a chain of others. Own law. -/
import Derived.Test.YtcpookgbneoilaaDoorGate
namespace Go.Proofs.YtcpookgbneoilaaDoor

section
variable {P : Program} {md : Region.Mode} {ops : Array Oper} {Q : Exit → Act → World → Prop} {F G : World → Prop} {g : Nat}

theorem wait_not {i d j : Nat} {l : Array Bool} (hw : waitsB md ops d i = true) (h0 : l.getD i true = false) (hj : j ∈ Region.ready md ops l) : j ≠ d := by
  rintro rfl
  obtain ⟨_, oj, hoj, hall⟩ := mem_ready.1 hj
  unfold waitsB at hw
  rw [hoj] at hw
  obtain ⟨e, he, hb⟩ := Array.any_eq_true'.1 hw
  simp only [Bool.and_eq_true, beq_iff_eq] at hb
  have h3 := hall e he hb.1
  rw [hb.2] at h3
  rcases Nat.lt_or_ge i l.size with h' | h'
  · simp [h'] at h0 h3; rw [h0] at h3; cases h3
  · simp [Array.getElem?_eq_none h'] at h3

/-- g waits for i by way of the list. -/
def chainB (md : Region.Mode) (ops : Array Oper) (g : Nat) : Nat → List Nat → Bool
  | i, [] => waitsB md ops g i
  | i, d :: ds => waitsB md ops d i && chainB md ops g d ds
theorem chain_not {l : Array Bool} {j : Nat} (hj : j ∈ Region.ready md ops l) (hg : l.getD g true = false) : ∀ (ds : List Nat) (i : Nat), chainB md ops g i ds = true → l.getD i true = false → (∀ d ∈ ds, l.getD d true = false) → j ≠ g ∧ ∀ d ∈ ds, j ≠ d
  | [], i, hc, hi, _ => ⟨wait_not hc hi hj, fun d hd => by cases hd⟩
  | d :: ds, i, hc, hi, hd => by
    unfold chainB at hc
    rw [Bool.and_eq_true] at hc
    obtain ⟨h1, h2⟩ := chain_not hj hg ds d hc.2 (hd d (List.mem_cons_self ..)) (fun e he => hd e (List.mem_cons_of_mem _ he))
    refine ⟨h1, fun e he => ?_⟩
    rcases List.mem_cons.1 he with rfl | he
    · exact wait_not hc.1 hi hj
    · exact h2 e he
theorem gate_takeC {i : Nat} (ds : List Nat) {oi : Oper} {v : Value} {n : Nat} {listed : Array Bool} {a : Act} {w : World} (hi : ops[i]? = some oi)
    (hs : Region.noSelect ops = true) (hf : Region.free md ops listed i = true) (hr : (Region.ready md ops listed).contains i = true)
    (hQ : ∀ c a w, Q (.panic c) (a.put oi.dst v) w → Q (.panic c) a w) (hig : i ≠ g) (hw : chainB md ops g i ds = true) (hgl : (g :: ds).all (fun d => listed.getD d true == false) = true) (hS : FG F G g listed w) (hy : YieldsIf P ops (fun w => F w ∧ G w) oi v a)
    (h : wpGate P md ops Q (FG F G g) n (listed.setIfInBounds i true) (a.put oi.dst v) w) : wpGate P md ops Q (FG F G g) (n + 1) listed a w := by
  refine gate_first (S1 := fun w => F w ∧ G w) (I := fun l => ∀ d ∈ g :: ds, l.getD d true = false) hi (Region.noSelect_spec hs) hQ (FG.set hig) (fun l j w hji => FG.un hig l j w hji) (fun l j hl hir hjr hji => ?_) (fun l w hl h => ⟨h.1, h.2 (hl g (List.mem_cons_self ..))⟩) n listed a w (fun d hd => by have h3 := List.all_eq_true.1 hgl d hd; simpa using h3) (Region.free_spec hi hf) (by simpa using hr) hy hS h
  obtain ⟨h1, h2⟩ := chain_not hjr (hl g (List.mem_cons_self ..)) ds i hw (mem_ready.1 hir).1 (fun d hd => hl d (List.mem_cons_of_mem _ hd))
  intro d hd
  have hjd : j ≠ d := by
    rcases List.mem_cons.1 hd with rfl | hd
    · exact h1
    · exact h2 d hd
  rw [getD_set_ne true hjd]; exact hl d hd
end
end Go.Proofs.YtcpookgbneoilaaDoor
