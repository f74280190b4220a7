/- A region that draws its order, gated: whichever may come up. Own law. -/
import Derived.Test.YtgcmlpcpkpnfnaaGreatDoorGate
namespace Go.Proofs.YtgcmlpcpkpnfnaaGreatDoor

section
variable {P : Program} {md : Region.Mode} {ops : Array Oper} {Q : Exit → Act → World → Prop} {F G : World → Prop} {g : Nat}

def GateAll (P : Program) (md : Region.Mode) (ops : Array Oper) (Q : Exit → Act → World → Prop) (F G : World → Prop) (g n : Nat) (listed : Array Bool) (a : Act) (w : World) (rs : List Nat) : Prop :=
  ∀ i ∈ rs, wpOp P ops Q i (fun a' w' => FG F G g (listed.setIfInBounds i true) w' ∧ wpGate P md ops Q (FG F G g) n (listed.setIfInBounds i true) a' w') a w
theorem GateAll.nil {n : Nat} {listed : Array Bool} {a : Act} {w : World} : GateAll P md ops Q F G g n listed a w [] := fun _ h => by cases h
theorem GateAll.cons {n i : Nat} {o : Oper} {rs : List Nat} {listed : Array Bool} {a : Act} {w : World} (hi : ops[i]? = some o)
    (h : ∀ K : Act → World → Prop, (∀ a' w', FG F G g (listed.setIfInBounds i true) w' → wpGate P md ops Q (FG F G g) n (listed.setIfInBounds i true) a' w' → K a' w') →
      if Region.wanted o (yielded ops a.tmps) = true then Oper.wp P o a w K Q else K (a.put o.dst undef) w)
    (hs : GateAll P md ops Q F G g n listed a w rs) : GateAll P md ops Q F G g n listed a w (i :: rs) := fun j hj => by
  rcases List.mem_cons.1 hj with rfl | hj
  · have hh := h (fun a' w' => FG F G g (listed.setIfInBounds j true) w' ∧ wpGate P md ops Q (FG F G g) n (listed.setIfInBounds j true) a' w') fun a' w' h1 h2 => ⟨h1, h2⟩
    unfold wpOp
    simp only [hi]
    split
    · rename_i hw
      rw [if_pos hw] at hh
      exact .inl hh
    · rename_i hw
      rw [if_neg hw] at hh
      exact hh
  · exact hs j hj
theorem gate_all {n : Nat} {rs : List Nat} {listed : Array Bool} {a : Act} {w : World} (hr : Region.ready md ops listed = rs) (hne : rs ≠ []) (h : GateAll P md ops Q F G g n listed a w rs) :
    wpGate P md ops Q (FG F G g) (n + 1) listed a w :=
  ⟨fun h0 => absurd (hr.symm.trans h0) hne, fun i hi => h i (hr ▸ hi)⟩

/-- An append in a region that draws its order. -/
theorem app_step {o : Oper} {a : Act} {K : Act → World → Prop} {w w' : World} {E : Prop} (hg : o.guard = none) (s x : Operand) (t : TypeId)
    (ho : o.op = .call { callee := .builtin .append, args := #[s, x], argTypes := #[t, t] }) (v u v' : Value) (hs : a.eval s = v) (hx : a.eval x = u) (hrun : (Builtin.append_ #[t, t] o.type #[v, u]).run P w = .ok v' w') (hK : K (a.put o.dst v') w') :
    if Region.wanted o (yielded ops a.tmps) = true then Oper.wp P o a w K Q else E := by
  have hw : Region.wanted o (yielded ops a.tmps) = true := by simp [Region.wanted, hg]
  rw [if_pos hw]
  unfold Oper.wp execOp
  simp only [ho, resolve, invoke, builtin, Sem.run_bind, Sem.run_pure, Result.andThen_ok, List.map_toArray, List.map_cons, List.map_nil, hs, hx, hrun]
  exact hK
end
end Go.Proofs.YtgcmlpcpkpnfnaaGreatDoor
