/- A region that draws its order, of which two operations may come up. -/
import Derived.Test.YtooepflfofgnnaaDoorGate
namespace Go.Proofs.YtooepflfofgnnaaDoor

section
variable {P : Program} {md : Region.Mode} {ops : Array Oper} {Q : Exit → Act → World → Prop} {F G : World → Prop} {g : Nat}
/-- Either of two may come up. -/
theorem gate_two {i j n : Nat} {oi oj : Oper} {listed : Array Bool} {a : Act} {w : World} (hr : Region.ready md ops listed = [i, j]) (hi : ops[i]? = some oi) (hj : ops[j]? = some oj)
    (h1 : ∀ K : Act → World → Prop, (∀ a' w', FG F G g (listed.setIfInBounds i true) w' → wpGate P md ops Q (FG F G g) n (listed.setIfInBounds i true) a' w' → K a' w') →
      if Region.wanted oi (yielded ops a.tmps) = true then Oper.wp P oi a w K Q else K (a.put oi.dst undef) w)
    (h2 : ∀ K : Act → World → Prop, (∀ a' w', FG F G g (listed.setIfInBounds j true) w' → wpGate P md ops Q (FG F G g) n (listed.setIfInBounds j true) a' w' → K a' w') →
      if Region.wanted oj (yielded ops a.tmps) = true then Oper.wp P oj a w K Q else K (a.put oj.dst undef) w) : wpGate P md ops Q (FG F G g) (n + 1) listed a w := by
  refine ⟨(fun h0 => by rw [hr] at h0; cases h0), (fun q hq => ?_)⟩
  rw [hr, List.mem_cons, List.mem_singleton] at hq
  rcases hq with e | e
  · subst e
    have hh := h1 (fun a' w' => FG F G g (listed.setIfInBounds q true) w' ∧ wpGate P md ops Q (FG F G g) n (listed.setIfInBounds q true) a' w') fun a' w' h1 h2 => ⟨h1, h2⟩
    unfold wpOp
    simp only [hi]
    split
    · rename_i hw
      rw [if_pos hw] at hh
      exact .inl hh
    · rename_i hw
      rw [if_neg hw] at hh
      exact hh
  · subst e
    have hh := h2 (fun a' w' => FG F G g (listed.setIfInBounds q true) w' ∧ wpGate P md ops Q (FG F G g) n (listed.setIfInBounds q true) a' w') fun a' w' h1 h2 => ⟨h1, h2⟩
    unfold wpOp
    simp only [hj]
    split
    · rename_i hw
      rw [if_pos hw] at hh
      exact .inl hh
    · rename_i hw
      rw [if_neg hw] at hh
      exact hh
end
end Go.Proofs.YtooepflfofgnnaaDoor
