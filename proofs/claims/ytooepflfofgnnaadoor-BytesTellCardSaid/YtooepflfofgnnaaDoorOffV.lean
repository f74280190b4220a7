/- A slice of ints that lies off a slice of the call's own. -/
import Derived.Test.YtooepflfofgnnaaDoorFilmRow
namespace Go.Proofs.YtooepflfofgnnaaDoor
open Go.ChangeShapes Go.WideShapes Go.ChangeAt Go.RowKit

def OffV (a : Option Addr) (n : Nat) (v : Value) : Prop := n ≠ 0 → ∀ b o, a = some ⟨b, o, none⟩ → v.ownBlock ≠ some b
theorem OffV.fresh {w : World} {a : Option Addr} {n : Nat} {v : Value} (h : Fresh w a n) (hv : ∀ k, v.ownBlock = some k → k < w.heap.size) : OffV a n v :=
  fun hn b o ha e => h b (hv b e) b o ha hn rfl
theorem IntsAt.stepV {w w' : World} {v v' : Value} {a : Option Addr} {n cap : Nat} {zs : List Int} (h : IntsAt w a n cap zs) (hs : AppStep w w' v v') (hf : OffV a n v) : IntsAt w' a n cap zs ∧ OffV a n v' := by
  refine ⟨⟨h.len, ⟨h.row.le, h.row.cap, fun hn => ?_⟩, h.wf⟩, fun hn b o ha e => ?_⟩
  · obtain ⟨b, o, ha, hc⟩ := h.row.at_ hn
    refine ⟨b, o, ha, fun j hj => ?_⟩
    rw [World.cell?_of_block (w := w) (a := ⟨b, o + j, none⟩) (hs.block b (h.lt hn ha) (fun e => hf hn b o ha e.symm))]
    exact hc j hj
  · have hb := h.lt hn ha
    rcases hs.loc with hl | ⟨g2, hl, hg2⟩
    · exact hf hn b o ha (hl ▸ e)
    · rw [hl] at e
      simp only [Option.some.injEq] at e
      omega
end Go.Proofs.YtooepflfofgnnaaDoor
