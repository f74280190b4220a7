/- Two airs beside one another: what a call on the one leaves of the other. -/
import Derived.Test.YtooepflfofgnnaaDoorRefAir2
import Derived.Test.YtooepflfofgnnaaDoorAirKeep
namespace Go.Proofs.YtooepflfofgnnaaDoor
open Go.ChangeShapes Go.WideShapes Go.ChangeAt Go.RowKit

/-- An air at x with d1, an air at y with d2; X: blocks that are none of theirs. -/
structure AP (w : World) (x y : Nat) (X : Nat → Prop) (d1 d2 : List Dr) (wx : World) : Prop where
  lat : Lat w wx
  two : ∃ S T, AirO S x d1 wx ∧ AirO T y d2 wx ∧ (∀ k, S k → ¬ T k) ∧ (∀ k, S k → w.heap.size ≤ k) ∧ (∀ k, T k → w.heap.size ≤ k) ∧ ∀ k, X k → ¬ S k ∧ ¬ T k ∧ k < wx.heap.size
theorem AP.keep {w : World} {x y : Nat} {X : Nat → Prop} {d1 d2 : List Dr} {wx wy : World} (h : AP w x y X d1 d2 wx) (hb : Lat wx wy) : AP w x y X d1 d2 wy := by
  obtain ⟨S, T, h1, h2, h3, h4, h5, h6⟩ := h.two
  exact ⟨h.lat.trans hb, S, T, h1.keep hb, h2.keep hb, h3, h4, h5, fun k hk => ⟨(h6 k hk).1, (h6 k hk).2.1, Nat.lt_of_lt_of_le (h6 k hk).2.2 hb.size⟩⟩
theorem AP.swap {w : World} {x y : Nat} {X : Nat → Prop} {d1 d2 : List Dr} {wx : World} (h : AP w x y X d1 d2 wx) : AP w y x X d2 d1 wx := by
  obtain ⟨S, T, h1, h2, h3, h4, h5, h6⟩ := h.two
  exact ⟨h.lat, T, S, h2, h1, fun k a b => h3 k b a, h5, h4, fun k hk => ⟨(h6 k hk).2.1, (h6 k hk).1, (h6 k hk).2.2⟩⟩
theorem AP.weak {w : World} {x y : Nat} {X Y : Nat → Prop} {d1 d2 : List Dr} {wx : World} (h : AP w x y X d1 d2 wx) (hy : ∀ k, Y k → X k) : AP w x y Y d1 d2 wx := by
  obtain ⟨S, T, h1, h2, h3, h4, h5, h6⟩ := h.two
  exact ⟨h.lat, S, T, h1, h2, h3, h4, h5, fun k hk => h6 k (hy k hk)⟩
theorem AP.alloc {w : World} {x y : Nat} {X : Nat → Prop} {d1 d2 : List Dr} {wx : World} (h : AP w x y X d1 d2 wx) (o : Obj) : AP w x y (fun k => X k ∨ k = wx.heap.size) d1 d2 (wx.alloc o) := by
  obtain ⟨S, T, h1, h2, h3, h4, h5, h6⟩ := h.two
  have hz : (wx.alloc o).heap.size = wx.heap.size + 1 := by simp
  refine ⟨h.lat.trans (Lat.alloc _ _), S, T, h1.keep (Lat.alloc _ _), h2.keep (Lat.alloc _ _), h3, h4, h5, fun k hk => ?_⟩
  rcases hk with hk | hk
  · exact ⟨(h6 k hk).1, (h6 k hk).2.1, by have := (h6 k hk).2.2; omega⟩
  · exact ⟨fun e => by have := h1.lt k e; omega, fun e => by have := h2.lt k e; omega, by omega⟩
theorem AP.set {w : World} {x y : Nat} {X : Nat → Prop} {d1 d2 : List Dr} {wx : World} (h : AP w x y X d1 d2 wx) {p : Addr} (hp : X p.block) (hl : w.heap.size ≤ p.block) (v : Value) : AP w x y X d1 d2 (wx.setCell p v) := by
  obtain ⟨S, T, h1, h2, h3, h4, h5, h6⟩ := h.two
  have hf : Fr (fun k => k = p.block) wx (wx.setCell p v) := Fr.set wx p v rfl
  have hz : (wx.setCell p v).heap.size = wx.heap.size := by simp [World.setCell]
  exact ⟨hf.lat_of h.lat (fun k hk => by rw [hk]; exact hl), S, T, h1.fr hf (fun k hk e => (h6 _ hp).1 (by rw [← e]; exact hk)), h2.fr hf (fun k hk e => (h6 _ hp).2.1 (by rw [← e]; exact hk)), h3, h4, h5, fun k hk => by rw [hz]; exact h6 k hk⟩
/-- a call on the one at x; what lies in a block that is none of the two's stands -/
theorem AP.one {w : World} {x y : Nat} {X : Nat → Prop} {d1 d2 : List Dr} {wx : World} (h : AP w x y X d1 d2 wx) : ∃ S, AirO S x d1 wx ∧ (∀ k, X k → ¬ S k) ∧ ∀ d1' wy, AirStep S x d1' wx wy → AP w x y X d1' d2 wy := by
  obtain ⟨S, T, h1, h2, h3, h4, h5, h6⟩ := h.two
  refine ⟨S, h1, fun k hk => (h6 k hk).1, fun d1' wy hst => ?_⟩
  obtain ⟨S', ho', hs'⟩ := hst.obj
  have hsz := h.lat.size
  refine ⟨hst.lat h.lat h4, S', T, ho', h2.fr hst.fr (fun k hk e => h3 k e hk), fun k hk e => ?_, fun k hk => ?_, h5, fun k hk => ⟨fun e => ?_, (h6 k hk).2.1, Nat.lt_of_lt_of_le (h6 k hk).2.2 hst.fr.size⟩⟩
  · rcases hs' k hk with a | a
    · exact h3 k a e
    · have := h2.lt k e; omega
  · rcases hs' k hk with a | a
    · exact h4 k a
    · omega
  · rcases hs' k e with a | a
    · exact (h6 k hk).1 a
    · have := (h6 k hk).2.2; omega
/-- what the drops are like -/
structure DW (ds : List Dr) : Prop where
  len : ds.length ≤ 60
  wf : ∀ d ∈ ds, DropAt d.s d.t
theorem DW.nil : DW [] := ⟨by simp, by simp⟩
theorem DW.send {ds : List Dr} {d : Dr} (h : DW ds) (hd : DropAt d.s d.t) : DW (snD ds d) := by
  refine ⟨snD_len _ _ h.len, fun x hx => ?_⟩
  unfold snD at hx
  split at hx
  · rcases List.mem_append.1 hx with hx | hx
    · exact h.wf x hx
    · rw [List.mem_singleton.1 hx]; exact hd
  · exact h.wf x hx
theorem DW.give {ds : List Dr} (i : Int) (h : DW ds) : DW (giD ds i) := ⟨Nat.le_trans (giD_len ds i) h.len, fun x hx => h.wf x (giD_mem hx)⟩
theorem DW.twice {ds : List Dr} (i : Int) (h : DW ds) : DW (twD ds i) := ⟨twD_len ds i h.len, fun x hx => h.wf x (twD_mem hx)⟩
theorem drop_zero : DropAt 0 ByteArray.empty := ⟨by unfold I64; omega, by unfold maxLen; decide⟩
end Go.Proofs.YtooepflfofgnnaaDoor
