/- Slices of strings that a call makes itself, element by element. -/
import Derived.Test.YtcpookgbneoilaaGreatDoorBytePlain
import Derived.Test.YtcpookgbneoilaaGreatDoorOwnC
namespace Go.Proofs.YtcpookgbneoilaaGreatDoor
open Go.ChangeShapes Go.WideShapes Go.ChangeAt Go.RowKit

theorem info_string : (Tryz.prog.info? 9).map (fun i => (i.zero, i.size, i.bytes)) = some (some (.string .empty), 1, 16) := by kernel_rfl
abbrev OwnStrs (w : World) (B : Nat) (v : Value) (ss : List ByteArray) : Prop := Own w B 9 v (ss.map Value.string)
theorem app_str (wr w0 : World) (B : Nat) {ops : Array Oper} {rest : List Oper} {o : Oper} {a : Act} {Q : Exit → Act → World → Prop}
    (hg : o.guard = none) (s x : Operand) (ho : o.op = .call { callee := .builtin .append, args := #[s, x], argTypes := #[82, 82] })
    (v : Value) (zs : List ByteArray) (z : ByteArray) (hs : a.eval s = v) (hown : OwnStrs wr B v zs) (hx : a.eval x = .slice (some ⟨wr.heap.size, 0, none⟩) 1 1)
    (hn : zs.length < 1000000000000) (hB : B = w0.heap.size) (hb : Below B w0 wr)
    (K : ∀ v' w', OwnStrs w' B v' (zs ++ [z]) → Below B w0 w' → AppStep wr w' v v' → wpList Tryz.prog ops Q rest (a.put o.dst v') w') :
    wpList Tryz.prog ops Q (o :: rest) a (wr.alloc (.cells #[.string z] 9)) :=
  wpList_app1 wr w0 B hg s x 82 ho 9 (.string .empty) 16 Tryz.underlying82 info_string rfl (by decide) v _ (.string z) hs hown hx rfl (by simpa using hn) hB hb
    (fun v' w' h1 h2 h3 => K v' w' (by simpa [OwnStrs] using h1) h2 h3)
theorem OwnStrs.slice {w : World} {B : Nat} {v : Value} {ss : List ByteArray} (h : OwnStrs w B v ss) (hwf : ∀ z ∈ ss, z.size ≤ maxLen) : ∃ a cap, v = .slice a ss.length cap ∧ StrsAt w a ss.length cap ss := by
  obtain ⟨a, cap, hv, hr⟩ := Own.slice h
  rw [List.length_map] at hv hr
  refine ⟨a, cap, hv, rfl, ⟨hr.le, hr.cap, fun hn => ?_⟩, hwf⟩
  obtain ⟨b, off, ha, hc⟩ := hr.at_ hn
  exact ⟨b, off, ha, fun j hj => by rw [hc j hj]; simp [List.getD, hj]⟩
end Go.Proofs.YtcpookgbneoilaaGreatDoor
