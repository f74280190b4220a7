/- The table of rows: its map, how a row reads, NewTable, Rank, Bits, low. -/
import Derived.Test.YtcpookgbneoilaaDoorMapF
import Derived.Test.YtcpookgbneoilaaDoorTab
import Derived.Test.YtcpookgbneoilaaDoorMix
import Derived.Test.YtcpookgbneoilaaDoorBitsI
namespace Go.Proofs.YtcpookgbneoilaaDoor
open Go.ChangeShapes Go.WideShapes Go.ChangeAt Go.RowKit Go.Maps

/-- a row -/
def rowV (x : Vec) : Value := .agg #[.int .u64 x.1, .string (S x.2)]
/-- how a row reads -/
def rowElem : Value → Option (DataW Unit × List MemPlace)
  | .agg cs => match cs.toList with
    | [.int q n, .string s] => some (.agg [.lit (.int q n), .lit (.string s.data.toList)], [])
    | _ => none
  | _ => none
theorem rowElem_mk (q : IntKind) (n : Int) (s : ByteArray) : rowElem (.agg #[.int q n, .string s]) = some (.agg [.lit (.int q n), .lit (.string s.data.toList)], []) := rfl
theorem rowElem_inv {v : Value} {z : DataW Unit × List MemPlace} (h : rowElem v = some z) : ∃ q n s, v = .agg #[.int q n, .string s] ∧ z = (.agg [.lit (.int q n), .lit (.string s.data.toList)], []) := by
  unfold rowElem at h
  split at h
  · rename_i cs
    split at h
    · rename_i q n s he
      injection h with h
      exact ⟨q, n, s, by rw [← he], h.symm⟩
    · cases h
  · cases h
theorem rowCodec : Codec rowElem := ⟨fun u v d p q h1 h2 => by
  obtain ⟨q1, n1, s1, rfl, e1⟩ := rowElem_inv h1
  obtain ⟨q2, n2, s2, rfl, e2⟩ := rowElem_inv h2
  injection e1 with e1 _
  injection e2 with e2 _
  rw [e1] at e2
  injection e2 with e2
  injection e2 with e3 e4
  injection e4 with e4 _
  injection e3 with e3
  injection e3 with e5 e6
  injection e4 with e4
  injection e4 with e4
  subst e5
  subst e6
  have : s1 = s2 := by
    cases s1 with | mk d1 => cases s2 with | mk d2 => exact congrArg ByteArray.mk (Array.ext' e4)
  rw [this]⟩
/-- the i-th bit alone -/
def bitP (i : Nat) : Nat := 2 ^ i
theorem bitP_lt {i : Nat} (h : i < 63) : bitP i < 9223372036854775808 := Nat.pow_lt_pow_right (by omega) h
theorem bitP_succ (i : Nat) : bitP (i + 1) = 2 * bitP i := by unfold bitP; rw [Nat.pow_succ, Nat.mul_comm]
theorem bitP_pos (i : Nat) : 0 < bitP i := Nat.pow_pos (by omega)
theorem wf_pow (i : Nat) (h : i < 63) : (Lit.int .u64 (bitP i : Int)).wf = true := by
  have h2 := bitP_lt h
  simp [Lit.wf, IntKind.min, IntKind.max, IntKind.signed, IntKind.bits]
  omega

/-- the table whose cell is block p, its map block b -/
structure TabAt (w : World) (p b k : Nat) (T : Nat → Option Vec) : Prop where
  cell : w.cell? ⟨p, 0, none⟩ = some (.map (some b))
  free : w.frozen? ⟨p, 0, none⟩ = false
  ne : p ≠ b
  map : ∃ f, MapF Tryd.prog 90 .u64 rowElem b (rnkT T k) f w ∧ ∀ i, i < 63 → f (bitP i : Int) = (T i).map rowV
theorem TabAt.lt {w : World} {p b k : Nat} {T : Nat → Option Vec} (h : TabAt w p b k T) : p < w.heap.size ∧ b < w.heap.size := by
  obtain ⟨f, hm, _⟩ := h.map
  have := World.block_lt_of_cell? _ _ h.cell
  exact ⟨this, hm.lt⟩
theorem TabAt.fr {w w' : World} {Sf : Nat → Prop} {p b k : Nat} {T : Nat → Option Vec} (h : TabAt w p b k T) (hf : Fr Sf w w') (hp : ¬ Sf p) (hb : ¬ Sf b) : TabAt w' p b k T := by
  obtain ⟨f, hm, h2⟩ := h.map
  exact ⟨hf.cell_at h.cell hp, hf.free_at h.lt.1 h.free hp, h.ne, f, hm.fr hf hb, h2⟩
theorem TabAt.keep {w w' : World} {p b k : Nat} {T : Nat → Option Vec} (h : TabAt w p b k T) (hb : Lat w w') : TabAt w' p b k T := h.fr (Sf := fun _ => False) (Fr.lat hb) (fun e => e) (fun e => e)

theorem u_uint : Tryd.prog.underlying 90 = some (.int .u64) := by kernel_rfl
theorem u_map : Tryd.prog.underlying 108 = some (.map 90 93) := by kernel_rfl
theorem zero_row (w : World) : (zeroValue 93).run Tryd.prog w = .ok (.agg #[.int .u64 0, .string .empty]) w := by kernel_rfl

/-- what stands in the table at a bit -/
theorem TabAt.look_ok {w : World} {p b k : Nat} {T : Nat → Option Vec} (h : TabAt w p b k T) (i : Nat) (hi : i < 63) :
    (Instr.lookup 108 (.map (some b)) (.int .u64 (bitP i : Int)) true).run Tryd.prog w = .ok (.tuple #[((T i).map rowV).getD (.agg #[.int .u64 0, .string .empty]), .bool (T i).isSome]) w := by
  obtain ⟨f, hm, h2⟩ := h.map
  have := hm.look_ok rowCodec u_uint u_map (zero_row w) (rowElem_mk _ _ _) _ (wf_pow i hi)
  rw [h2 i hi] at this
  rw [this]
  cases T i <;> rfl
theorem TabAt.look {w : World} {p b k : Nat} {T : Nat → Option Vec} (h : TabAt w p b k T) (i : Nat) (hi : i < 63) :
    (Instr.lookup 108 (.map (some b)) (.int .u64 (bitP i : Int)) false).run Tryd.prog w = .ok (((T i).map rowV).getD (.agg #[.int .u64 0, .string .empty])) w := by
  obtain ⟨f, hm, h2⟩ := h.map
  have := hm.look rowCodec u_uint u_map (zero_row w) (rowElem_mk _ _ _) _ (wf_pow i hi)
  rw [h2 i hi] at this
  rw [this]
theorem TabAt.len {w : World} {p b k : Nat} {T : Nat → Option Vec} (h : TabAt w p b k T) (ty : TypeId) : (Builtin.len_ #[108] ty #[.map (some b)]).run Tryd.prog w = .ok (.int .i64 (rnkT T k)) w := by
  obtain ⟨f, hm, _⟩ := h.map
  exact hm.len u_map ty
theorem pow_inj {i j : Nat} (h : (bitP i : Int) = (bitP j : Int)) : i = j := by
  have h2 : bitP i = bitP j := by omega
  exact Nat.pow_right_inj (Nat.le_refl 2) |>.1 h2
/-- a row put at its bit, where none stood -/
theorem TabAt.store {w : World} {p b k : Nat} {T : Nat → Option Vec} (h : TabAt w p b k T) (hk : k ≤ 16) (i : Nat) (hi : i < k) (hn : T i = none) (x : Vec) :
    ∃ w', (Instr.mapUpdate 108 (.map (some b)) (.int .u64 (bitP i : Int)) (rowV x)).run Tryd.prog w = .ok () w' ∧ TabAt w' p b k (insT T i x) ∧ Fr (fun j => j = b) w w' := by
  obtain ⟨f, hm, h2⟩ := h.map
  have hr := rnkT_le T k
  obtain ⟨w', hrun, hm2, hf⟩ := hm.store u_uint u_map (by omega) _ (wf_pow i (by omega)) (val := rowV x) (rowElem_mk _ _ _)
  have hfi := h2 i (by omega)
  rw [hn] at hfi
  rw [hfi] at hm2
  have hrk : rnkT (insT T i x) k = rnkT T k + 1 := by rw [rnkT_ins hn, if_pos hi]
  refine ⟨w', hrun, ⟨hf.cell_at h.cell h.ne, hf.free_at h.lt.1 h.free h.ne, h.ne, _, by rw [hrk]; simpa using hm2, fun j hj => ?_⟩, hf⟩
  unfold updF insT
  by_cases e : j = i
  · subst e; rw [if_pos rfl, if_pos rfl]; rfl
  · rw [if_neg (fun h => e (pow_inj h)), if_neg e]; exact h2 j hj
end Go.Proofs.YtcpookgbneoilaaDoor
