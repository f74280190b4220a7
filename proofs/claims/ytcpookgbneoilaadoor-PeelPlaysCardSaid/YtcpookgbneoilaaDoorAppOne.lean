/- An append of one element that lies in a block of its own; rows of other elements lie apart. -/
import Derived.Test.YtcpookgbneoilaaDoorAppM
namespace Go.Proofs.YtcpookgbneoilaaDoor
open Go.ChangeShapes Go.WideShapes Go.ChangeAt Go.RowKit

/-- Two rows of other elements lie apart. -/
theorem Own.apart {w : World} {B C : Nat} {e f : TypeId} {v u : Value} {xs ys : List Value} (h : Own w B e v xs) (k : Own w C f u ys) (hef : e ≠ f) : ∀ g, v.ownBlock = some g → u.ownBlock ≠ some g := by
  intro g h1 h2
  rcases h.2 with ⟨rfl, _⟩ | ⟨g1, cap1, cur1, rfl, _, hg1, _⟩
  · simp [Value.ownBlock] at h1
  rcases k.2 with ⟨rfl, _⟩ | ⟨g2, cap2, cur2, rfl, _, hg2, _⟩
  · simp [Value.ownBlock] at h2
  obtain rfl : g1 = g := by simpa [Value.ownBlock] using h1
  obtain rfl : g2 = g1 := by simpa [Value.ownBlock] using h2
  rw [hg1] at hg2
  injection hg2 with hg2
  injection hg2 with _ hg2 _
  exact hef hg2
/-- What is done to another row leaves it. -/
theorem Own.grown {w w' : World} {B : Nat} {e : TypeId} {v : Value} {xs : List Value} (h : Own w B e v xs) {row : Option Nat} (hg : w.grownBy w' row) (hne : ∀ g, v.ownBlock = some g → row ≠ some g) : Own w' B e v xs := by
  refine World.ownsRow.kept (row := row) h hg ?_
  cases hv : v.ownBlock with
  | none =>
    rcases h.2 with ⟨rfl, _⟩ | ⟨g1, cap1, cur1, rfl, _⟩
    · exact .inl rfl
    · simp [Value.ownBlock] at hv
  | some g => exact .inr (fun e => hne g hv e.symm)

theorem app_cell {P : Program} (w : World) (B : Nat) (t ty e : TypeId) (z : Value) (bytes : Nat) (ht : P.underlying t = some (.slice e)) (hinfo : (P.info? e).map (fun i => (i.zero, i.size, i.bytes)) = some (some z, 1, bytes)) (hz : z.cells.size = 1) (hby : bytes ≤ 16)
    (v : Value) (xs : List Value) (hown : Own w B e v xs) (g : Nat) (u : Value) (hc : w.cell? ⟨g, 0, none⟩ = some u) (hu : u.oneCell' = true) (hn : xs.length < 1000000000) (hB : B ≤ w.heap.size) :
    ∃ a' c' w', (Builtin.append_ #[t, t] ty #[v, .slice (some ⟨g, 0, none⟩) 1 1]).run P w = .ok (.slice a' (xs.length + 1) c') w' ∧ Own w' B e (.slice a' (xs.length + 1) c') (xs ++ [u]) ∧ w.grownBy w' v.ownBlock ∧
      ((Value.slice a' (xs.length + 1) c').ownBlock = v.ownBlock ∨ (Value.slice a' (xs.length + 1) c').ownBlock = some w.heap.size) := by
  have hrow1 : RowAt w (some ⟨g, 0, none⟩) 1 1 (fun j => [u].getD j undef) := by
    refine ⟨Nat.le_refl _, by unfold maxLen; omega, fun _ => ⟨g, 0, rfl, fun j hj => ?_⟩⟩
    obtain rfl : j = 0 := by omega
    exact hc
  obtain ⟨v', w', hrun, h2, h3, h4⟩ := run_app_many (P := P) w B t ty e z bytes ht hinfo hz hby v xs hown (some ⟨g, 0, none⟩) 1 1 [u] rfl hrow1 (fun x hx => by rw [List.mem_singleton.1 hx]; exact hu) (by omega) hB
  obtain ⟨a', c', hv', _⟩ := Own.slice h2
  rw [List.length_append, List.length_singleton] at hv'
  subst hv'
  exact ⟨a', c', w', hrun, h2, h3, h4⟩
end Go.Proofs.YtcpookgbneoilaaDoor
