/- Bytes that a call makes itself, and the string that they make. -/
import Derived.Test.YtcpookgbneoilaaGreatDoorBytePlain
import Derived.Test.YtcpookgbneoilaaGreatDoorOwnC
import Derived.Lib.ConvBytes
import Derived.Laws.BytesArg
import Derived.Laws.BitsAllLaws
namespace Go.Proofs.YtcpookgbneoilaaGreatDoor
open Go.ChangeShapes Go.WideShapes Go.ChangeAt Go.RowKit

/-- byte j of a string, as a number -/
def bt (s : ByteArray) (j : Nat) : Nat := (s.data.toList.getD j 0).toNat
theorem bt_lt (s : ByteArray) (j : Nat) : bt s j < 256 := (s.data.toList.getD j 0).toNat_lt
theorem bt_get (s : ByteArray) (j : Nat) (h : j < s.size) : s[j].toNat = bt s j := by
  have hs : j < s.data.toList.length := by simpa using h
  unfold bt
  rw [List.getD_eq_getElem?_getD, List.getElem?_eq_getElem hs]
  rfl
theorem wpList_conv_bytes {P : Program} (w : World) {ops : Array Oper} {rest : List Oper} {o : Oper} {a : Act} {Q : Exit → Act → World → Prop}
    (hg : o.guard = none) (x : Operand) (src dst e : TypeId) (hop : o.op = Op.convert src dst x) {u : TypeDesc}
    (hs : P.underlying src = some u) (hd : P.underlying dst = some (.slice e)) (he : P.underlying e = some (.int .u8)) (s : ByteArray) (hx : a.eval x = .string s)
    (hK : ∀ (g cap : Nat) w', g = w.heap.size → s.size ≤ cap → Below w.heap.size w w' → w'.heap.size = w.heap.size + 1 →
      (∀ j, j < s.size → w'.cell? ⟨g, j, none⟩ = some (.int .u8 (bt s j))) → (∀ j, j < s.size → w'.frozen? ⟨g, j, none⟩ = false) →
      wpList P ops Q rest (a.put o.dst (.slice (some ⟨g, 0, none⟩) s.size cap)) w') :
    wpList P ops Q (o :: rest) a w := by
  refine wpList_plain hg fun K hK' => ?_
  unfold Oper.wp
  have hrun := Lib.run_convert_string_bytes (P := P) w src dst e s hs hd he
  simp [execOp, hop, hx, hrun, Result.andThen]
  have hcap : s.size ≤ grownCap w s.size 0 e := grownCap_ge w s.size 0 e
  refine hK' _ _ (hK w.heap.size _ _ rfl hcap ⟨rfl, rfl, rfl, ?_, fun k hk => Lib.bytesWorld_at_old w e s k hk⟩ (Lib.bytesWorld_size w e s) ?_ ?_)
  · rw [Lib.bytesWorld_size]; omega
  · intro j hj; exact Lib.bytesWorld_cell w e s j hj
  · intro j hj
    have h1 : s.size ≤ (Lib.bytesCells w e s).size := by
      unfold Lib.bytesCells; rw [Array.size_append, Array.size_map]; exact Nat.le_add_right _ _
    simp [World.frozen?, Lib.bytesWorld_at_new]
    omega
/-- The string of the bytes in n cells. -/
def strF (n : Nat) (F : Nat → Nat) : ByteArray := ⟨((List.range n).map fun j => UInt8.ofNat (F j)).toArray⟩
theorem run_conv_str {P : Program} (w : World) (src e dst : TypeId) (hs : P.underlying src = some (.slice e)) (he : P.underlying e = some (.int .u8)) (hd : P.underlying dst = some .string) (b off n cap : Nat) (F : Nat → Nat)
    (hc : ∀ j, j < n → w.cell? ⟨b, off + j, none⟩ = some (.int .u8 (F j))) : (convert src dst (.slice (some ⟨b, off, none⟩) n cap)).run P w = .ok (.string (strF n F)) w := by
  have := run_convert_bytes_arg (P := P) w src e hs he b off n cap ((List.range n).map fun j => (F j : Int)) (by simp) (fun i hi => by rw [hc i hi]; simp [hi]) dst hd
  rw [this]
  simp [strOfNums, strF, List.map_map, Function.comp_def]
theorem info_u8 : (Tryz.prog.info? 5).map (fun i => (i.zero, i.size, i.bytes)) = some (some (.int .u8 0), 1, 1) := by kernel_rfl
/-- bytes of the call's own -/
abbrev OwnBytes (w : World) (B : Nat) (v : Value) (bs : List UInt8) : Prop := Own w B 5 v (bs.map fun x => Value.int .u8 x.toNat)
theorem app_u8 (wr w0 : World) (B : Nat) {ops : Array Oper} {rest : List Oper} {o : Oper} {a : Act} {Q : Exit → Act → World → Prop}
    (hg : o.guard = none) (s x : Operand) (ho : o.op = .call { callee := .builtin .append, args := #[s, x], argTypes := #[134, 134] })
    (v : Value) (bs : List UInt8) (z : Nat) (hs : a.eval s = v) (hown : OwnBytes wr B v bs) (hx : a.eval x = .slice (some ⟨wr.heap.size, 0, none⟩) 1 1)
    (hz : z < 256) (hn : bs.length < 1000000000000) (hB : B = w0.heap.size) (hb : Below B w0 wr)
    (K : ∀ v' w', OwnBytes w' B v' (bs ++ [UInt8.ofNat z]) → Below B w0 w' → AppStep wr w' v v' → wpList Tryz.prog ops Q rest (a.put o.dst v') w') :
    wpList Tryz.prog ops Q (o :: rest) a (wr.alloc (.cells #[.int .u8 z] 5)) :=
  wpList_app1 wr w0 B hg s x 134 ho 5 (.int .u8 0) 1 Tryz.underlying134 info_u8 rfl (by decide) v _ (.int .u8 z) hs hown hx rfl (by simpa using hn) hB hb
    (fun v' w' h1 h2 h3 => K v' w' (by
      have e : (UInt8.ofNat z).toNat = z := by rw [UInt8.toNat_ofNat']; exact Nat.mod_eq_of_lt hz
      unfold OwnBytes
      rw [List.map_append, List.map_cons, List.map_nil, e]; exact h1) h2 h3)
theorem strF_bytes (bs : List UInt8) : strF bs.length (fun j => (bs.getD j 0).toNat) = S bs := by
  unfold strF S
  congr 2
  apply List.ext_getElem
  · simp
  · intro j h1 h2
    simp only [List.getElem_map, List.getElem_range]
    rw [List.getD_eq_getElem?_getD, List.getElem?_eq_getElem h2]
    exact UInt8.ofNat_toNat
theorem conv_own {w : World} {B : Nat} {v : Value} {bs : List UInt8} (h : OwnBytes w B v bs) : (convert 134 9 v).run Tryz.prog w = .ok (.string (S bs)) w := by
  have h0 := h
  obtain ⟨hl, hor⟩ := h
  rcases hor with ⟨rfl, hz⟩ | ⟨g, cap, cur, rfl, hg, hh, hn, hc, hs, ht⟩
  · have e : bs = [] := by simpa using hz
    subst e
    exact run_convert_bytes_nil (P := Tryz.prog) w 134 5 Tryz.underlying134 Tryz.underlying5 0 0 9 Tryz.underlying9
  · rw [List.length_map] at *
    have hc2 := run_conv_str (P := Tryz.prog) w 134 5 9 Tryz.underlying134 Tryz.underlying5 Tryz.underlying9 g 0 bs.length cap (fun j => (bs.getD j 0).toNat) (fun j hj => by
      have := World.ownsRow.cells h0 (g := g) rfl j (.int .u8 (bs.getD j 0).toNat) (by simp [List.getD, hj])
      rw [Addr.add_lit] at this
      exact this)
    rw [hc2, strF_bytes]

/-- A slice written out, of the call's own. -/
theorem Own.new (w : World) (B : Nat) (e : TypeId) (xs : Array Value) (hB : B ≤ w.heap.size) (hm : xs.size ≤ 1000) : Own (w.alloc (.cells xs e)) B e (.slice (some ⟨w.heap.size, 0, none⟩) xs.size xs.size) xs.toList := by
  refine ⟨by simp, .inr ⟨w.heap.size, xs.size, xs, by simp, hB, ?_, by simp, by unfold maxLen; omega, by simp, by rw [List.take_of_length_le (by simp)]⟩⟩
  exact (heap_alloc_new w _)
end Go.Proofs.YtcpookgbneoilaaGreatDoor
