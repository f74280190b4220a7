import Derived.Test.YtcpookgbneoilaaGreatDoorFr
import Derived.Test.YtcpookgbneoilaaGreatDoorEarPlaysT
import Derived.Test.YtcpookgbneoilaaGreatDoorEarPlaysU
import Derived.Deep.LoopGhost
import Derived.Deep.Light
import Derived.Deep.Cut
import Derived.Deep.CutRange
import Derived.Test.YtcpookgbneoilaaGreatDoorAppG
import Derived.Deep.CutBlock
import Derived.Test.YtcpookgbneoilaaGreatDoorOwnC
import Derived.Shelf.Abstract
namespace Go.Proofs.YtcpookgbneoilaaGreatDoor
open Go.ChangeShapes Go.WideShapes Go.ChangeAt Go.RowKit

theorem flat_inv {α : Type} {size : Nat} : ∀ {xs : List (List α)} {j : Nat} {u : α}, (∀ r ∈ xs, r.length = size) → xs.flatten[j]? = some u → ∃ q i r, xs[q]? = some r ∧ r[i]? = some u ∧ j = q * size + i
  | [], j, u, _, h => by simp at h
  | x :: xs, j, u, hs, h => by
    have hx := hs x (List.mem_cons_self ..)
    rw [List.flatten_cons] at h
    by_cases hj : j < x.length
    · rw [List.getElem?_append_left hj] at h
      exact ⟨0, j, x, rfl, h, by omega⟩
    · rw [List.getElem?_append_right (by omega)] at h
      obtain ⟨q, i, r, h1, h2, h3⟩ := flat_inv (fun r hr => hs r (List.mem_cons_of_mem _ hr)) h
      exact ⟨q + 1, i, r, by simpa using h1, h2, by rw [Nat.succ_mul]; omega⟩
theorem run_appR_void {P : Program} {w : World} {B : Nat} {t ty e : TypeId} {i : TypeInfo} {size : Nat} (ht : P.underlying t = some (.slice e)) (hi : P.info? e = some i)
    {v : Value} {xs : List (List Value)} (hown : OwnR w B e size v xs) (c : Nat) : (Builtin.append_ #[t, t] ty #[v, .slice none 0 c]).run P w = .ok v w := by
  rcases hown.2.2 with ⟨rfl, h0⟩ | ⟨g, cap, cur, rfl, _, _, hnc, _⟩
  · simp [Builtin.append_, run_underlying ht, sizeOf, typeInfo, hi, Builtin.lenOf, Builtin.firstCells]
  · simp [Builtin.append_, run_underlying ht, sizeOf, typeInfo, hi, Builtin.lenOf, Builtin.firstCells, hnc, storeCells]
theorem run_app_rows {P : Program} (w : World) (B : Nat) (t ty e : TypeId) (z : Value) (size bytes : Nat) (ht : P.underlying t = some (.slice e)) (hinfo : (P.info? e).map (fun i => (i.zero, i.size, i.bytes)) = some (some z, size, bytes)) (hz : z.cells.size = size) (hs0 : 0 < size) (hby : bytes ≤ 64)
    (v : Value) (xs : List (List Value)) (hown : OwnR w B e size v xs) (A : Option Addr) (m c : Nat) (ys : List (List Value)) (hr : RowsAt w size A m c ys) (h1 : ∀ r ∈ ys, ∀ u ∈ r, u.oneCell' = true) (hn : xs.length + m < 1000000000000) (hB : B ≤ w.heap.size) :
    ∃ v' w', (Builtin.append_ #[t, t] ty #[v, .slice A m c]).run P w = .ok v' w' ∧ OwnR w' B e size v' (xs ++ ys) ∧ w.grownBy w' v.ownBlock ∧ (v'.ownBlock = v.ownBlock ∨ v'.ownBlock = some w.heap.size) := by
  obtain ⟨i0, hi, hz0, hz1, hz2⟩ := info_parts hinfo
  have hl := hr.len
  rcases A with _ | ad
  · have hm : m = 0 := by
      rcases Nat.eq_zero_or_pos m with h0 | h0
      · exact h0
      · obtain ⟨b, o, h, _⟩ := hr.at_ (by omega)
        cases h
    subst hm
    have hy : ys = [] := List.eq_nil_of_length_eq_zero hl
    subst hy
    exact ⟨v, w, run_appR_void ht hi hown c, by rw [List.append_nil]; exact hown, World.grownBy.refl w _, .inl rfl⟩
  · have hlen : ∀ r ∈ ys, r.length = size := fun r hr' => by
      obtain ⟨j, hj, e⟩ := List.getElem_of_mem hr'
      obtain ⟨b, o, _, hc⟩ := hr.at_ (by omega)
      exact (hc j r (by rw [List.getElem?_eq_getElem hj, e])).1
    have hcells : ∀ j u, ys.flatten[j]? = some u → w.cell? (ad.add j) = some u := by
      intro j u hu
      obtain ⟨q, i, r, g1, g2, g3⟩ := flat_inv hlen hu
      have hq : q < ys.length := (List.getElem?_eq_some_iff.1 g1).1
      obtain ⟨b, o, h, hc⟩ := hr.at_ (by omega)
      injection h with h
      subst h
      rw [Addr.add_lit, g3]
      exact (hc q r g1).2 i u g2
    obtain ⟨v', w', hrun, h2, h3, _, h5⟩ := run_append_own_at (P := P) w B t ty e i0 z size bytes ht hi hz0 hz1 hz2 hz hs0 v xs.length xs.flatten hown.2 ad m c ys.flatten (by rw [flat_len hlen, hl]) hcells (fun u hu => by
        obtain ⟨r, hr', hur⟩ := List.mem_flatten.1 hu
        exact h1 r hr' u hur) (by unfold maxLen; omega)
      (by calc (xs.length + m) * bytes ≤ (xs.length + m) * 64 := Nat.mul_le_mul_left _ hby
            _ ≤ 140737488355328 := by omega) hB
    refine ⟨v', w', hrun, ⟨fun r hr' => ?_, ?_⟩, h3, h5⟩
    · rcases List.mem_append.1 hr' with h | h
      · exact hown.1 r h
      · exact hlen r h
    · rw [List.length_append, hl, List.flatten_append]; exact h2
theorem wpList_appRM {P : Program} (wr : World) (B : Nat) {ops : Array Oper} {rest : List Oper} {o : Oper} {a : Act} {Q : Exit → Act → World → Prop}
    (hg : o.guard = none) (s x : Operand) (t : TypeId) (ho : o.op = .call { callee := .builtin .append, args := #[s, x], argTypes := #[t, t] })
    (e : TypeId) (z : Value) (size bytes : Nat) (ht : P.underlying t = some (.slice e)) (hinfo : (P.info? e).map (fun i => (i.zero, i.size, i.bytes)) = some (some z, size, bytes)) (hz : z.cells.size = size) (hs0 : 0 < size) (hby : bytes ≤ 64)
    (v : Value) (xs : List (List Value)) (hs : a.eval s = v) (hown : OwnR wr B e size v xs) (A : Option Addr) (m c : Nat) (ys : List (List Value)) (hx : a.eval x = .slice A m c) (hr : RowsAt wr size A m c ys) (h1 : ∀ r ∈ ys, ∀ u ∈ r, u.oneCell' = true)
    (hn : xs.length + m < 1000000000000) (hB : B ≤ wr.heap.size)
    (K : ∀ v' w', OwnR w' B e size v' (xs ++ ys) → Fr (fun k => v.ownBlock = some k) wr w' → (v'.ownBlock = v.ownBlock ∨ v'.ownBlock = some wr.heap.size) → wpList P ops Q rest (a.put o.dst v') w') :
    wpList P ops Q (o :: rest) a wr := by
  obtain ⟨v', w', hrun, h2, h3, h4⟩ := run_app_rows wr B t o.type e z size bytes ht hinfo hz hs0 hby v xs hown A m c ys hr h1 hn hB
  refine wpList_plain hg fun K' hK => ?_
  unfold Oper.wp execOp
  simp only [ho, resolve, invoke, builtin, Sem.run_bind, Sem.run_pure, Result.andThen_ok, List.map_toArray, List.map_cons, List.map_nil, hs, hx, hrun]
  exact hK _ _ (K v' w' h2 ⟨h3.os, h3.tape, h3.output, h3.size, fun k hk hne => h3.block k hk (fun e => hne e.symm)⟩ h4)
theorem RowsAt.from_ {w : World} {size : Nat} {a : Option Addr} {n cap : Nat} {xs : List (List Value)} (h : RowsAt w size a n cap xs) (k : Nat) (hk : k ≤ n) : RowsAt w size (if cap = k then a else a.map (·.add (k * size))) (n - k) (cap - k) (xs.drop k) := by
  have hl := h.len
  have hle := h.le
  refine ⟨by rw [List.length_drop, hl], by omega, by have := h.cap; unfold maxLen at this ⊢; omega, fun hne => ?_⟩
  obtain ⟨b, o, rfl, hc⟩ := h.at_ (by omega)
  rw [if_neg (by omega)]
  refine ⟨b, o + k * size, by rw [Option.map_some, Addr.add_lit], fun j r hr => ?_⟩
  rw [List.getElem?_drop] at hr
  obtain ⟨h1, h2⟩ := hc (k + j) r hr
  refine ⟨h1, fun i u hu => ?_⟩
  have := h2 i u hu
  rw [Nat.add_mul] at this
  rw [show o + k * size + (j * size + i) = o + (k * size + j * size + i) by omega]; exact this
end Go.Proofs.YtcpookgbneoilaaGreatDoor

namespace Go.Proofs.YtcpookgbneoilaaGreatDoor

section
variable {P : Program} {md : Region.Mode} {ops : Array Oper} {Q : Exit → Act → World → Prop} {F G : World → Prop} {g : Nat}

theorem wait_not {i d j : Nat} {l : Array Bool} (hw : waitsB md ops d i = true) (h0 : l.getD i true = false) (hj : j ∈ Region.ready md ops l) : j ≠ d := by
  rintro rfl
  obtain ⟨_, oj, hoj, hall⟩ := mem_ready.1 hj
  unfold waitsB at hw
  rw [hoj] at hw
  obtain ⟨e, he, hb⟩ := Array.any_eq_true'.1 hw
  simp only [Bool.and_eq_true, beq_iff_eq] at hb
  have h3 := hall e he hb.1
  rw [hb.2] at h3
  rcases Nat.lt_or_ge i l.size with h' | h'
  · simp [h'] at h0 h3; rw [h0] at h3; cases h3
  · simp [Array.getElem?_eq_none h'] at h3

def chainB (md : Region.Mode) (ops : Array Oper) (g : Nat) : Nat → List Nat → Bool
  | i, [] => waitsB md ops g i
  | i, d :: ds => waitsB md ops d i && chainB md ops g d ds
theorem chain_not {l : Array Bool} {j : Nat} (hj : j ∈ Region.ready md ops l) (hg : l.getD g true = false) : ∀ (ds : List Nat) (i : Nat), chainB md ops g i ds = true → l.getD i true = false → (∀ d ∈ ds, l.getD d true = false) → j ≠ g ∧ ∀ d ∈ ds, j ≠ d
  | [], i, hc, hi, _ => ⟨wait_not hc hi hj, fun d hd => by cases hd⟩
  | d :: ds, i, hc, hi, hd => by
    unfold chainB at hc
    rw [Bool.and_eq_true] at hc
    obtain ⟨h1, h2⟩ := chain_not hj hg ds d hc.2 (hd d (List.mem_cons_self ..)) (fun e he => hd e (List.mem_cons_of_mem _ he))
    refine ⟨h1, fun e he => ?_⟩
    rcases List.mem_cons.1 he with rfl | he
    · exact wait_not hc.1 hi hj
    · exact h2 e he
theorem gate_takeC {i : Nat} (ds : List Nat) {oi : Oper} {v : Value} {n : Nat} {listed : Array Bool} {a : Act} {w : World} (hi : ops[i]? = some oi)
    (hs : Region.noSelect ops = true) (hf : Region.free md ops listed i = true) (hr : (Region.ready md ops listed).contains i = true)
    (hQ : ∀ c a w, Q (.panic c) (a.put oi.dst v) w → Q (.panic c) a w) (hig : i ≠ g) (hw : chainB md ops g i ds = true) (hgl : (g :: ds).all (fun d => listed.getD d true == false) = true) (hS : FG F G g listed w) (hy : YieldsIf P ops (fun w => F w ∧ G w) oi v a)
    (h : wpGate P md ops Q (FG F G g) n (listed.setIfInBounds i true) (a.put oi.dst v) w) : wpGate P md ops Q (FG F G g) (n + 1) listed a w := by
  refine gate_first (S1 := fun w => F w ∧ G w) (I := fun l => ∀ d ∈ g :: ds, l.getD d true = false) hi (Region.noSelect_spec hs) hQ (FG.set hig) (fun l j w hji => FG.un hig l j w hji) (fun l j hl hir hjr hji => ?_) (fun l w hl h => ⟨h.1, h.2 (hl g (List.mem_cons_self ..))⟩) n listed a w (fun d hd => by have h3 := List.all_eq_true.1 hgl d hd; simpa using h3) (Region.free_spec hi hf) (by simpa using hr) hy hS h
  obtain ⟨h1, h2⟩ := chain_not hjr (hl g (List.mem_cons_self ..)) ds i hw (mem_ready.1 hir).1 (fun d hd => hl d (List.mem_cons_of_mem _ hd))
  intro d hd
  have hjd : j ≠ d := by
    rcases List.mem_cons.1 hd with rfl | hd
    · exact h1
    · exact h2 d hd
  rw [getD_set_ne true hjd]; exact hl d hd
end
end Go.Proofs.YtcpookgbneoilaaGreatDoor

namespace Go.Proofs.YtcpookgbneoilaaGreatDoor
open Go.ChangeShapes Go.WideShapes Go.ChangeAt Go.RowKit

theorem leftTo_end {T : Nat → Option Vec} {v : Vec} {i : Nat} (h : (leftTo T v i).1 < 2 ^ i) : ∀ j, i ≤ j → leftTo T v j = leftTo T v i
  | 0, hj => by obtain rfl : i = 0 := by omega
                rfl
  | j + 1, hj => by
    by_cases e : i = j + 1
    · subst e; rfl
    · have ih := leftTo_end h j (by omega)
      have hb : (leftTo T v j).1.testBit j = false := by
        rw [ih]
        exact Nat.testBit_lt_two_pow (Nat.lt_of_lt_of_le h (Nat.pow_le_pow_right (by omega) (by omega)))
      rw [leftTo_no hb, ih]

structure RowB (w : World) (g : Nat) (x : Vec) : Prop where
  c0 : w.cell? ⟨g, 0, none⟩ = some (.int .u64 x.1)
  c1 : w.cell? ⟨g, 1, none⟩ = some (.string (S x.2))
  f0 : w.frozen? ⟨g, 0, none⟩ = false
  f1 : w.frozen? ⟨g, 1, none⟩ = false
theorem RowB.lt {w : World} {g : Nat} {x : Vec} (h : RowB w g x) : g < w.heap.size := World.block_lt_of_cell? _ _ h.c0
theorem RowB.keep {w w' : World} {g : Nat} {x : Vec} (h : RowB w g x) (hb : Lat w w') : RowB w' g x :=
  ⟨hb.cell_at h.c0, hb.cell_at h.c1, hb.free_at h.lt h.f0, hb.free_at h.lt h.f1⟩

theorem and_bit (n i : Nat) : n &&& bitP i = if n.testBit i = true then bitP i else 0 := by
  unfold bitP
  apply Nat.eq_of_testBit_eq
  intro j
  rw [Nat.testBit_and, Nat.testBit_two_pow]
  by_cases h : n.testBit i = true
  · rw [if_pos h, Nat.testBit_two_pow]
    by_cases e : i = j
    · subst e; simp [h]
    · simp [e]
  · rw [if_neg h, Nat.zero_testBit]
    by_cases e : i = j
    · subst e; simp at h; simp [h]
    · simp [e]
theorem two_setR {w : World} {g : Nat} {a b : Value} (c0 : w.cell? ⟨g, 0, none⟩ = some a) (c1 : w.cell? ⟨g, 1, none⟩ = some b) (x y : Value) :
    ((w.setCell ⟨g, 0, none⟩ x).setCell ⟨g, 1, none⟩ y).cell? ⟨g, 0, none⟩ = some x ∧ ((w.setCell ⟨g, 0, none⟩ x).setCell ⟨g, 1, none⟩ y).cell? ⟨g, 1, none⟩ = some y := by
  refine ⟨?_, ?_⟩
  · rw [World.cell?_setCell_other _ _ _ _ (by intro e; injection e with _ e2 _; cases e2)]
    exact World.cell?_setCell_same _ _ _ c0
  · exact World.cell?_setCell_same _ _ _ (by rw [World.cell?_setCell_other _ _ _ _ (by intro e; injection e with _ e2 _; cases e2)]; exact c1)
theorem row_put {w : World} {g : Nat} {x : Vec} (h : RowB w g x) (a : Nat) (l : List UInt8) : RowB ((w.setCell ⟨g, 0, none⟩ (.int .u64 a)).setCell ⟨g, 1, none⟩ (.string (S l))) g (a, l) := by
  obtain ⟨q0, q1⟩ := two_setR h.c0 h.c1 (.int .u64 a) (.string (S l))
  exact ⟨q0, q1, by rw [World.frozen?_setCell, World.frozen?_setCell]; exact h.f0, by rw [World.frozen?_setCell, World.frozen?_setCell]; exact h.f1⟩
theorem RowB.other {w : World} {g h : Nat} {x : Vec} (hb : RowB w g x) (hne : g ≠ h) (o : Nat) (v : Value) : RowB (w.setCell ⟨h, o, none⟩ v) g x :=
  ⟨by rw [World.cell?_setCell_other _ _ _ _ (by intro e; injection e with e1 _ _; exact hne e1.symm)]; exact hb.c0, by rw [World.cell?_setCell_other _ _ _ _ (by intro e; injection e with e1 _ _; exact hne e1.symm)]; exact hb.c1,
   by rw [World.frozen?_setCell]; exact hb.f0, by rw [World.frozen?_setCell]; exact hb.f1⟩
theorem row_new (w : World) (a : Nat) (l : List UInt8) : RowB (w.alloc (.cells #[.int .u64 a, .string (S l)] 112)) w.heap.size (a, l) := by
  have hh := heap_alloc_new w (.cells #[.int .u64 a, .string (S l)] 112)
  refine ⟨by rw [World.cell?_alloc_at _ _ _ _ rfl]; rfl, by rw [World.cell?_alloc_at _ _ _ _ rfl]; rfl, ?_, ?_⟩ <;>
  · unfold World.frozen?
    rw [hh]; rfl

set_option maxHeartbeats 2000000 in
set_option maxRecDepth 100000 in
theorem left_any (p b k m : Nat) (T : Nat → Option Vec) (v : Vec) (w : World) (h : TabAt w p b k T) (hk : k ≤ 16) (hT : TI m k T) (hv : v.1 < 2 ^ k) (hm : v.2.length = m) (hm8 : m ≤ 8) :
    Calls Tryz.prog 74 #[.pointer (some ⟨p, 0, none⟩), rowV v] w fun e w' => e = .returned (rowV (leftTo T v k)) ∧ Lat w w' := by
  have hlt := leftTo_lt hT hv
  have hln := leftTo_len hT hm
  have hk64 : (2 : Nat) ^ k ≤ 65536 := Nat.pow_le_pow_right (by omega) hk
  have H := Lib.hid h; have HLT := Lib.hid hlt; have HLN := Lib.hid hln; have HT := Lib.hid hT
  clear h hlt hln hT
  obtain ⟨v1, v2⟩ := v
  show Calls _ _ #[_, .agg #[.int .u64 v1, .string (S v2)]] _ _
  go_enter Tryz.func74, Tryz.ntmps74
  go_wp2
  have hb0 : Lat w ((w.alloc (.cells #[.int .u64 v1, .string (S v2)] 112)).alloc (.cells #[.int .u64 0, .string { data := #[] }] 112)) := Lat.trans (Lat.alloc _ _) (Lat.alloc _ _)
  have hr0 : RowB ((w.alloc (.cells #[.int .u64 v1, .string (S v2)] 112)).alloc (.cells #[.int .u64 0, .string { data := #[] }] 112)) w.heap.size (v1, v2) := (row_new w v1 v2).keep (Lat.alloc _ _)
  have hz0 : RowB ((w.alloc (.cells #[.int .u64 v1, .string (S v2)] 112)).alloc (.cells #[.int .u64 0, .string { data := #[] }] 112)) (w.heap.size + 1) (0, []) := by
    have h2 := row_new (w.alloc (.cells #[.int .u64 v1, .string (S v2)] 112)) 0 []
    rw [World.size_alloc] at h2
    exact h2
  have HB0 := Lib.hid hb0; have HR0 := Lib.hid hr0; have HZ0 := Lib.hid hz0
  clear hb0 hr0 hz0
  go_loopg [5, 6, 7] 20 (fun f bb _ _ wr => ∃ i : Nat, i ≤ k ∧ bb = .int .u64 (bitP i) ∧ Hid (f + i = 20 ∧ RowB wr w.heap.size (leftTo T (v1, v2) i) ∧ RowB wr (w.heap.size + 1) (0, []) ∧ Lat w wr))
  case atStart => exact ⟨0, Nat.zero_le _, rfl, rfl, HR0.out, HZ0.out, HB0.out⟩
  case round =>
    obtain ⟨i, hi, rfl, hrel⟩ := hrel
    obtain ⟨hgk, hrb, hzb, hlat⟩ := hrel.out
    have hul := HLT.out i
    have hum := HLN.out i
    obtain ⟨u1, u2, hu⟩ : ∃ a b, leftTo T (v1, v2) i = (a, b) := ⟨_, _, rfl⟩
    rw [hu] at hrb hul hum
    have c0 := hrb.c0
    have c1 := hrb.c1
    have hbi : bitP i ≤ 65536 := Nat.le_trans (Nat.pow_le_pow_right (by omega) hi) hk64
    have hu16 : u1 < 65536 := Nat.lt_of_lt_of_le hul hk64
    have HGK := Lib.hid hgk; have HRBX := Lib.hid hrb; have HZB := Lib.hid hzb; have HLAT := Lib.hid hlat; have HU := Lib.hid hu; have HUL := Lib.hid hum
    clear hrel hgk hrb hzb hlat hu hum
    by_cases hle : bitP i ≤ u1
    · have hik : i < k := by
        rcases Nat.lt_or_ge i k with h | h
        · exact h
        · obtain rfl : i = k := by omega
          have : u1 < bitP i := hul
          omega
      have d1 : decide (bitP i ≤ u1) = true := decide_eq_true hle
      have hsh : (bitP i : Int) * 2 = (bitP (i + 1) : Int) := by rw [bitP_succ]; omega
      have HSH := Lib.hid hsh
      have hand : bits .and .u64 (u1 : Int) (bitP i : Int) = ((u1 &&& bitP i : Nat) : Int) := bits_and_u64_nat _ _ (by omega) (by omega)
      have hand2 : u1 &&& bitP i = if u1.testBit i = true then bitP i else 0 := and_bit u1 i
      have hbp := bitP_pos i
      clear hsh
      by_cases htb : u1.testBit i = true
      · have hne : (bits .and .u64 (u1 : Int) (bitP i : Int) == 0) = false := by rw [hand, hand2, if_pos htb]; exact beq_eq_false_iff_ne.2 (by omega)
        have hlook := (H.out.keep HLAT.out).look_ok i (by omega)
        have ct := (H.out.keep HLAT.out).cell
        cases hTi : T i with
        | none =>
          have HST : Hid (leftTo T (v1, v2) (i + 1) = (u1, u2)) := by show _ = _; rw [leftTo_none hTi, HU.out]
          rw [hTi] at hlook
          have hlook2 : (Instr.lookup 140 (.map (some b)) (.int .u64 (bitP i : Int)) true).run Tryz.prog wr = .ok (.tuple #[.agg #[.int .u64 0, .string { data := #[] }], .bool false]) wr := hlook
          clear hlook hand hand2 htb hTi hbp hle hul
          go_wp2
          go_roundg (gk - 1)
          case measure => go_light; have := HGK.out; omega
          case rel => go_light; exact ⟨i + 1, by omega, by rw [HSH.out], by have := HGK.out; omega, by rw [HST.out]; exact HRBX.out.keep (Lat.alloc _ _), HZB.out.keep (Lat.alloc _ _), Lat.trans HLAT.out (Lat.alloc _ _)⟩
        | some x =>
          obtain ⟨x1, x2⟩ := x
          have HST : Hid (leftTo T (v1, v2) (i + 1) = (u1 ^^^ x1, xorL u2 x2)) := by show _ = _; rw [leftTo_take (by rw [HU.out]; exact htb) hTi, HU.out]; rfl
          rw [hTi] at hlook
          have hlook2 : (Instr.lookup 140 (.map (some b)) (.int .u64 (bitP i : Int)) true).run Tryz.prog wr = .ok (.tuple #[.agg #[.int .u64 x1, .string (S x2)], .bool true]) wr := hlook
          have hxl : x2.length = m := HT.out.len i (x1, x2) hTi
          have hxb : x1 < 2 ^ k := HT.out.bits i (x1, x2) hTi
          have HAB : Hid (u2.length = (S x2).size) := by show u2.length = x2.length; rw [HUL.out, hxl]
          have HXOR : Hid (bits .xor .u64 (u1 : Int) (x1 : Int) = ((u1 ^^^ x1 : Nat) : Int)) := bits_xor_u64_nat _ _ (by omega) (by omega)
          clear hlook hand hand2 htb hTi hbp hle hul hxl hxb
          go_upto_region 7 with fail
          obtain ⟨X, hX⟩ : ∃ X, X = wr.heap.size := ⟨_, rfl⟩
          obtain ⟨W0, hW0⟩ : ∃ W, W = wr.alloc (.cells #[.int .u64 x1, .string (S x2)] 112) := ⟨_, rfl⟩
          have hlw0 : Lat wr W0 := by rw [hW0]; exact Lat.alloc _ _
          have hXR : RowB W0 X (x1, x2) := by rw [hW0, hX]; exact row_new wr x1 x2
          have hne1 : X ≠ w.heap.size := by have := HLAT.out.size; have := HRBX.out.lt; omega
          have hR0 := HRBX.out.keep hlw0
          have HFX : Hid (W0.drew.cell? ⟨X, 0, none⟩ = some (.int .u64 x1) ∧ W0.drew.cell? ⟨X, 1, none⟩ = some (.string (S x2)) ∧ W0.drew.frozen? ⟨w.heap.size, 0, none⟩ = false ∧ W0.drew.frozen? ⟨w.heap.size, 1, none⟩ = false) := ⟨hXR.c0, hXR.c1, hR0.f0, hR0.f1⟩
          have HGX : Hid (W0.drew.cell? ⟨w.heap.size, 0, none⟩ = some (.int .u64 u1) ∧ W0.drew.cell? ⟨w.heap.size, 1, none⟩ = some (.string (S u2))) := ⟨hR0.c0, hR0.c1⟩
          have HLW0 := Lib.hid (Lat.trans HLAT.out hlw0); have HZW0 := Lib.hid (HZB.out.keep hlw0)
          rw [← hW0, ← hX]
          clear hW0 hX hlw0 hXR hR0 c0 c1 ct hlook2
          have hF : W0.drew.cell? ⟨X, 0, none⟩ = some (.int .u64 x1) ∧ W0.drew.cell? ⟨X, 1, none⟩ = some (.string (S x2)) ∧ W0.drew.frozen? ⟨w.heap.size, 0, none⟩ = false ∧ W0.drew.frozen? ⟨w.heap.size, 1, none⟩ = false := HFX.out
          have hG : W0.drew.cell? ⟨w.heap.size, 0, none⟩ = some (.int .u64 u1) ∧ W0.drew.cell? ⟨w.heap.size, 1, none⟩ = some (.string (S u2)) := HGX.out
          refine wp_region_gate (fun w' => w'.cell? ⟨X, 0, none⟩ = some (.int .u64 x1) ∧ w'.cell? ⟨X, 1, none⟩ = some (.string (S x2)) ∧ w'.frozen? ⟨w.heap.size, 0, none⟩ = false ∧ w'.frozen? ⟨w.heap.size, 1, none⟩ = false) (fun w' => w'.cell? ⟨w.heap.size, 0, none⟩ = some (.int .u64 u1) ∧ w'.cell? ⟨w.heap.size, 1, none⟩ = some (.string (S u2))) 11 (by kernel_rfl) ?_
          refine gate_takeF (i := 0) (v := ?_) rfl (by kernel_rfl) (by kernel_rfl) (by kernel_rfl) (fun _ _ _ h => h) (by decide) ⟨hF, fun _ => hG⟩ (Or.inl ⟨by rfl, ?_⟩) ?_
          rotate_left
          · intro wq hSw; obtain ⟨s0, s1, s2, s3⟩ := hSw; go_simp; rfl
          simp only [Act.put]
          refine gate_takeC (i := 1) [4, 10] (v := ?_) rfl (by kernel_rfl) (by kernel_rfl) (by kernel_rfl) (fun _ _ _ h => h) (by decide) (by kernel_rfl) (by kernel_rfl) ⟨hF, fun _ => hG⟩ (Or.inl ⟨by rfl, ?_⟩) ?_
          rotate_left
          · intro wq hSw; obtain ⟨⟨s0, s1, s2, s3⟩, s4, s5⟩ := hSw; go_simp; rfl
          simp only [Act.put]
          refine gate_takeF (i := 2) (v := ?_) rfl (by kernel_rfl) (by kernel_rfl) (by kernel_rfl) (fun _ _ _ h => h) (by decide) ⟨hF, fun _ => hG⟩ (Or.inl ⟨by rfl, ?_⟩) ?_
          rotate_left
          · intro wq hSw; obtain ⟨s0, s1, s2, s3⟩ := hSw; go_simp; rfl
          simp only [Act.put]
          refine gate_takeF (i := 3) (v := ?_) rfl (by kernel_rfl) (by kernel_rfl) (by kernel_rfl) (fun _ _ _ h => h) (by decide) ⟨hF, fun _ => hG⟩ (Or.inl ⟨by rfl, ?_⟩) ?_
          rotate_left
          · intro wq hSw; obtain ⟨s0, s1, s2, s3⟩ := hSw; go_simp; rfl
          simp only [Act.put]
          refine gate_takeF (i := 4) (v := ?_) rfl (by kernel_rfl) (by kernel_rfl) (by kernel_rfl) (fun _ _ _ h => h) (by decide) ⟨hF, fun _ => hG⟩ (Or.inl ⟨by rfl, ?_⟩) ?_
          rotate_left
          · intro wq hSw; obtain ⟨s0, s1, s2, s3⟩ := hSw; go_simp; rfl
          simp only [Act.put]
          refine gate_takeF (i := 5) (v := ?_) rfl (by kernel_rfl) (by kernel_rfl) (by kernel_rfl) (fun _ _ _ h => h) (by decide) ⟨hF, fun _ => hG⟩ (Or.inl ⟨by rfl, ?_⟩) ?_
          rotate_left
          · intro wq hSw; obtain ⟨s0, s1, s2, s3⟩ := hSw; go_simp; rfl
          simp only [Act.put]
          refine gate_takeC (i := 6) [9, 10] (v := ?_) rfl (by kernel_rfl) (by kernel_rfl) (by kernel_rfl) (fun _ _ _ h => h) (by decide) (by kernel_rfl) (by kernel_rfl) ⟨hF, fun _ => hG⟩ (Or.inl ⟨by rfl, ?_⟩) ?_
          rotate_left
          · intro wq hSw; obtain ⟨⟨s0, s1, s2, s3⟩, s4, s5⟩ := hSw; go_simp; rfl
          simp only [Act.put]
          refine gate_takeF (i := 7) (v := ?_) rfl (by kernel_rfl) (by kernel_rfl) (by kernel_rfl) (fun _ _ _ h => h) (by decide) ⟨hF, fun _ => hG⟩ (Or.inl ⟨by rfl, ?_⟩) ?_
          rotate_left
          · intro wq hSw; obtain ⟨s0, s1, s2, s3⟩ := hSw; go_simp; rfl
          simp only [Act.put]
          refine gate_takeF (i := 8) (v := ?_) rfl (by kernel_rfl) (by kernel_rfl) (by kernel_rfl) (fun _ _ _ h => h) (by decide) ⟨hF, fun _ => hG⟩ (Or.inl ⟨by rfl, ?_⟩) ?_
          rotate_left
          · intro wq hSw; obtain ⟨s0, s1, s2, s3⟩ := hSw; go_simp; rfl
          simp only [Act.put]
          refine gate_one (i := 9) (by kernel_rfl) rfl (fun K hK => ?_)
          go_simp
          refine (overS u2 (S x2) _ HAB.out (by rw [HUL.out]; unfold maxLen; omega)).mono ?_
          rintro y w2 ⟨rfl, hb2⟩
          have hF2 : w2.cell? ⟨X, 0, none⟩ = some (.int .u64 x1) ∧ w2.cell? ⟨X, 1, none⟩ = some (.string (S x2)) ∧ w2.frozen? ⟨w.heap.size, 0, none⟩ = false ∧ w2.frozen? ⟨w.heap.size, 1, none⟩ = false := ⟨hb2.cell_at hF.1, hb2.cell_at hF.2.1, hb2.free_at (World.block_lt_of_cell? _ _ hG.1) hF.2.2.1, hb2.free_at (World.block_lt_of_cell? _ _ hG.2) hF.2.2.2⟩
          have hG2 : w2.cell? ⟨w.heap.size, 0, none⟩ = some (.int .u64 u1) ∧ w2.cell? ⟨w.heap.size, 1, none⟩ = some (.string (S u2)) := ⟨hb2.cell_at hG.1, hb2.cell_at hG.2⟩
          refine hK _ _ ⟨hF2, fun _ => hG2⟩ ?_
          clear hK K hF hG
          obtain ⟨hF, hG⟩ := And.intro hF2 hG2
          clear hF2 hG2
          refine gate_takeF (i := 10) (v := ?_) rfl (by kernel_rfl) (by kernel_rfl) (by kernel_rfl) (fun _ _ _ h => h) (by decide) ⟨hF, fun _ => hG⟩ (Or.inl ⟨by rfl, ?_⟩) ?_
          rotate_left
          · intro wq hSw; obtain ⟨s0, s1, s2, s3⟩ := hSw; go_simp; rfl
          simp only [Act.put]
          refine gate_one (i := 11) (by kernel_rfl) rfl (fun K hK => ?_)
          obtain ⟨s0, s1, s2, s3⟩ := hF
          obtain ⟨s4, s5⟩ := hG
          have hlw2 : Lat w w2 := Lat.trans HLW0.out (Lat.trans (Lat.drew W0) hb2)
          have hRB := row_put (x := (u1, u2)) ⟨s4, s5, s2, s3⟩ (u1 ^^^ x1) (xorL u2 x2)
          have hZ2 := ((HZW0.out.keep (Lat.trans (Lat.drew W0) hb2)).other (show w.heap.size + 1 ≠ w.heap.size by omega) 0 (.int .u64 ((u1 ^^^ x1 : Nat) : Int))).other (show w.heap.size + 1 ≠ w.heap.size by omega) 1 (.string (S (xorL u2 x2)))
          have hlw3 : Lat w ((w2.setCell ⟨w.heap.size, 0, none⟩ (.int .u64 ((u1 ^^^ x1 : Nat) : Int))).setCell ⟨w.heap.size, 1, none⟩ (.string (S (xorL u2 x2)))) := (hlw2.setCell (p := ⟨w.heap.size, 0, none⟩) (Nat.le_refl _) _).setCell (p := ⟨w.heap.size, 1, none⟩) (Nat.le_refl _) _
          have HRB := Lib.hid hRB; have HZ2 := Lib.hid hZ2; have HLW3 := Lib.hid hlw3
          have hxr := HXOR.out
          clear hRB hZ2 hlw2 hlw3
          go_simp
          refine hK _ _ ?_ ?_
          · refine FG.past (by kernel_rfl) ⟨?_, ?_, ?_, ?_⟩
            · rw [World.cell?_setCell_other _ _ _ _ (by intro e; injection e with e1 _ _; omega), World.cell?_setCell_other _ _ _ _ (by intro e; injection e with e1 _ _; omega)]; exact s0
            · rw [World.cell?_setCell_other _ _ _ _ (by intro e; injection e with e1 _ _; omega), World.cell?_setCell_other _ _ _ _ (by intro e; injection e with e1 _ _; omega)]; exact s1
            · rw [World.frozen?_setCell, World.frozen?_setCell]; exact s2
            · rw [World.frozen?_setCell, World.frozen?_setCell]; exact s3
          clear hK K
          refine gate_done (by kernel_rfl) ?_ _
          clear s0 s1 s2 s3 s4 s5 hxr hb2
          go_wp2
          go_roundg (gk - 1)
          case measure => go_light; have := HGK.out; omega
          case rel => go_light; exact ⟨i + 1, by omega, by rw [HSH.out], by have := HGK.out; omega, by rw [HST.out]; exact HRB.out, HZ2.out, HLW3.out⟩
      · have hne : (bits .and .u64 (u1 : Int) (bitP i : Int) == 0) = true := by rw [hand, hand2, if_neg htb]; rfl
        have HST : Hid (leftTo T (v1, v2) (i + 1) = (u1, u2)) := by show _ = _; rw [leftTo_no (by rw [HU.out]; simpa using htb), HU.out]
        clear hand hand2 htb hbp hle hul
        go_wp2
        go_roundg (gk - 1)
        case measure => go_light; have := HGK.out; omega
        case rel => go_light; exact ⟨i + 1, by omega, by rw [HSH.out], by have := HGK.out; omega, by rw [HST.out]; exact HRBX.out, HZB.out, HLAT.out⟩
    · have d1 : decide (bitP i ≤ u1) = false := decide_eq_false hle
      have hend : leftTo T (v1, v2) k = (u1, u2) := by
        rw [leftTo_end (by rw [HU.out]; show u1 < bitP i; omega) k hi]; exact HU.out
      have HEND := Lib.hid hend
      have z0 := HZB.out.c0
      have z1 : wr.cell? ⟨w.heap.size + 1, 1, none⟩ = some (.string { data := #[] }) := HZB.out.c1
      have g0 := HZB.out.f0
      have g1 := HZB.out.f1
      have hfin : Lat w ((wr.setCell ⟨w.heap.size + 1, 0, none⟩ (.int .u64 u1)).setCell ⟨w.heap.size + 1, 1, none⟩ (.string (S u2))) := (HLAT.out.setCell (p := ⟨w.heap.size + 1, 0, none⟩) (Nat.le_succ _) _).setCell (p := ⟨w.heap.size + 1, 1, none⟩) (Nat.le_succ _) _
      have hq := two_setR z0 z1 (.int .u64 u1) (.string (S u2))
      obtain ⟨q0, q1⟩ := hq
      have HFIN := Lib.hid hfin; have Q0 := Lib.hid q0; have Q1 := Lib.hid q1
      clear hend hfin hle hul q0 q1
      go_wp2
      exact bodyPost_ret (v := .agg #[.int .u64 u1, .string (S u2)]) (by simp [results, Tryz.results74, go_sem, Q0.out, Q1.out]) rfl ⟨by rw [HEND.out]; rfl, HFIN.out⟩
end Go.Proofs.YtcpookgbneoilaaGreatDoor

namespace Go.Proofs.YtcpookgbneoilaaGreatDoor
open Go.ChangeShapes Go.WideShapes Go.ChangeAt Go.RowKit

def mayT (k : Nat) (T : Nat → Option Vec) (v : Vec) : Bool := !decide ((leftTo T v k).1 = 0 ∧ (leftTo T v k).2 ≠ noughts v.2.length)

set_option maxHeartbeats 2000000 in
set_option maxRecDepth 100000 in
theorem tadd_any (p b k m : Nat) (T : Nat → Option Vec) (v : Vec) (w : World) (h : TabAt w p b k T) (hk : k ≤ 16) (hT : TI m k T) (hv : v.1 < 2 ^ k) (hm : v.2.length = m) (hm8 : m ≤ 8) :
    Calls Tryz.prog 51 #[.pointer (some ⟨p, 0, none⟩), rowV v] w fun e w' => e = .returned (.tuple #[.bool (rsT k T v), .bool (mayT k T v)]) ∧ TabAt w' p b k (addT k T v) ∧ Fr (fun j => j = b) w w' := by
  have hcl := left_any p b k m T v
  have hlt := leftTo_lt hT hv k
  have hln := leftTo_len hT hm k
  have hk64 : (2 : Nat) ^ k ≤ 65536 := Nat.pow_le_pow_right (by omega) hk
  obtain ⟨u1, u2, hu⟩ : ∃ a b, leftTo T v k = (a, b) := ⟨_, _, rfl⟩
  have hrs : rsT k T v = decide (u1 ≠ 0) := by unfold rsT; rw [hu]
  have hmy : mayT k T v = !decide (u1 = 0 ∧ u2 ≠ noughts m) := by unfold mayT; rw [hu, hm]
  have hat : addT k T v = if u1 = 0 then T else insT T (lowI u1) (u1, u2) := by unfold addT; rw [hu]
  have hnl : u1 ≠ 0 → Low u1 (lowI u1) ∧ lowI u1 < k ∧ T (lowI u1) = none := fun h0 => by
    obtain ⟨h1, h2⟩ := lowI_low (n := u1) h0 (by rw [hu] at hlt; exact hlt) (show k ≤ 64 by omega)
    exact ⟨h1, h2, left_low_none hT (v := v) h2 (by rw [hu]; exact h1)⟩
  rw [hu] at hlt hln
  have hu16 : u1 < 65536 := Nat.lt_of_lt_of_le hlt hk64
  have hc2 := fun W (hW : TabAt W p b k T) => hcl W hW hk hT hv hm hm8
  rw [hu] at hc2
  rw [hrs, hmy, hat]
  have H := Lib.hid h; have HC := Lib.hid hc2; have HNL := Lib.hid hnl; have HLN : Hid (u2.length = m) := hln
  clear h hcl hc2 hnl hln hlt hu hrs hmy hat hT
  obtain ⟨v1, v2⟩ := v
  show Calls _ _ #[_, .agg #[.int .u64 v1, .string (S v2)]] _ _
  have hbx : Lat w (w.alloc (.cells #[.int .u64 v1, .string (S v2)] 112)) := Lat.alloc _ _
  have hr0 := row_new w v1 v2
  have hc3 : Calls Tryz.prog 74 #[.pointer (some ⟨p, 0, none⟩), .agg #[.int .u64 v1, .string (S v2)]] (w.alloc (.cells #[.int .u64 v1, .string (S v2)] 112)) fun e w' => e = .returned (.agg #[.int .u64 u1, .string (S u2)]) ∧ Lat (w.alloc (.cells #[.int .u64 v1, .string (S v2)] 112)) w' := HC.out _ (H.out.keep hbx)
  have HC3 := Lib.hid hc3; have HR0 := Lib.hid hr0; have HBX := Lib.hid hbx
  clear hc3 hr0 hbx
  go_enter Tryz.func51, Tryz.ntmps51
  go_wp2_with fail
  refine HC3.out.mono ?_
  rintro y w2 ⟨rfl, hb2⟩
  have hlw2 : Lat w w2 := Lat.trans HBX.out hb2
  have hrw2 := HR0.out.keep hb2
  have htab2 := H.out.keep hlw2
  have c0 := hrw2.c0
  have c1 := hrw2.c1
  have f0 := hrw2.f0
  have f1 := hrw2.f1
  obtain ⟨R, hR⟩ : ∃ R, R = w.heap.size := ⟨_, rfl⟩
  have hpR : p ≠ R := by have := H.out.lt.1; omega
  have hbR : b ≠ R := by have := H.out.lt.2; omega
  rw [← hR] at c0 c1 f0 f1 hrw2 ⊢
  have hput := row_put hrw2 u1 u2
  have htab3 := (htab2.fr (Fr.set (S := fun j => j = R) w2 ⟨R, 0, none⟩ (.int .u64 u1) rfl) hpR hbR).fr (Fr.set (S := fun j => j = R) _ ⟨R, 1, none⟩ (.string (S u2)) rfl) hpR hbR
  have hlw3 : Lat w ((w2.setCell ⟨R, 0, none⟩ (.int .u64 u1)).setCell ⟨R, 1, none⟩ (.string (S u2))) := (hlw2.setCell (p := ⟨R, 0, none⟩) (Nat.le_of_eq hR.symm) _).setCell (p := ⟨R, 1, none⟩) (Nat.le_of_eq hR.symm) _
  have HPUT := Lib.hid hput; have HTAB3 := Lib.hid htab3; have HLW3 := Lib.hid hlw3
  clear hput htab3 hlw3 htab2 hrw2 hlw2 hb2 hR
  by_cases h0 : u1 = 0
  · subst h0
    go_upto_region 2 with fail
    obtain ⟨W2, hW2⟩ : ∃ W, W = (w2.setCell ⟨R, 0, none⟩ (.int .u64 ((0 : Nat) : Int))).setCell ⟨R, 1, none⟩ (.string (S u2)) := ⟨_, rfl⟩
    have hput := HPUT.out
    have htab3 := HTAB3.out
    have hlw3 := HLW3.out
    rw [← hW2] at hput htab3 hlw3
    have hw2' : W2 = (w2.setCell ⟨R, 0, none⟩ (.int .u64 0)).setCell ⟨R, 1, none⟩ (.string (S u2)) := hW2
    rw [← hw2']
    have k0 : W2.cell? ⟨R, 0, none⟩ = some (.int .u64 0) := hput.c0
    have k1 := hput.c1
    have HT3 := Lib.hid htab3; have HL3 := Lib.hid hlw3
    clear hW2 hw2' hput htab3 hlw3 HPUT HTAB3 HLW3 c0 c1 f0 f1
    go_upto_region 3 with fail
    have hF : W2.drew.cell? ⟨R, 1, none⟩ = some (.string (S u2)) := k1
    refine wp_region_gate (fun w' => w'.cell? ⟨R, 1, none⟩ = some (.string (S u2))) (fun _ => True) 1000 (by kernel_rfl) ?_
    refine gate_takeF (i := 0) (v := ?_) rfl (by kernel_rfl) (by kernel_rfl) (by kernel_rfl) (fun _ _ _ h => h) (by decide) ⟨hF, fun _ => trivial⟩ (Or.inl ⟨by rfl, ?_⟩) ?_
    rotate_left
    · intro wq hSw; have s0 := hSw; go_simp; rfl
    simp only [Act.put]
    refine gate_takeF (i := 1) (v := ?_) rfl (by kernel_rfl) (by kernel_rfl) (by kernel_rfl) (fun _ _ _ h => h) (by decide) ⟨hF, fun _ => trivial⟩ (Or.inl ⟨by rfl, ?_⟩) ?_
    rotate_left
    · intro wq hSw; have s0 := hSw; go_simp; rfl
    simp only [Act.put]
    refine gate_takeF (i := 2) (v := ?_) rfl (by kernel_rfl) (by kernel_rfl) (by kernel_rfl) (fun _ _ _ h => h) (by decide) ⟨hF, fun _ => trivial⟩ (Or.inl ⟨by rfl, ?_⟩) ?_
    rotate_left
    · intro wq hSw; have s0 := hSw; go_simp; rfl
    simp only [Act.put]
    refine gate_takeF (i := 3) (v := ?_) rfl (by kernel_rfl) (by kernel_rfl) (by kernel_rfl) (fun _ _ _ h => h) (by decide) ⟨hF, fun _ => trivial⟩ (Or.inl ⟨by rfl, ?_⟩) ?_
    rotate_left
    · intro wq hSw; have s0 := hSw; go_simp; rfl
    simp only [Act.put]
    refine gate_takeF (i := 4) (v := ?_) rfl (by kernel_rfl) (by kernel_rfl) (by kernel_rfl) (fun _ _ _ h => h) (by decide) ⟨hF, fun _ => trivial⟩ (Or.inl ⟨by rfl, ?_⟩) ?_
    rotate_left
    · intro wq hSw; have s0 := hSw; go_simp; rfl
    simp only [Act.put]
    refine gate_one (i := 5) (by kernel_rfl) rfl (fun K hK => ?_)
    go_simp
    refine (noughts_any (S u2).size _ (by show u2.length ≤ _; rw [HLN.out]; omega)).mono ?_
    rintro y w4 ⟨rfl, hb4⟩
    have hF' : w4.cell? ⟨R, 1, none⟩ = some (.string (S u2)) := hb4.cell_at hF
    refine hK _ _ ⟨hF', fun _ => trivial⟩ ?_
    clear hK K hF
    have hF := hF'
    clear hF'
    refine gate_takeF (i := 6) (v := ?_) rfl (by kernel_rfl) (by kernel_rfl) (by kernel_rfl) (fun _ _ _ h => h) (by decide) ⟨hF, fun _ => trivial⟩ (Or.inl ⟨by rfl, ?_⟩) ?_
    rotate_left
    · intro wq hSw; have s0 := hSw; go_simp; rfl
    simp only [Act.put]
    refine gate_takeF (i := 7) (v := ?_) rfl (by kernel_rfl) (by kernel_rfl) (by kernel_rfl) (fun _ _ _ h => h) (by decide) ⟨hF, fun _ => trivial⟩ (Or.inl ⟨by rfl, ?_⟩) ?_
    rotate_left
    · intro wq hSw; have s0 := hSw; go_simp; rfl
    simp only [Act.put]
    refine gate_takeF (i := 8) (v := ?_) rfl (by kernel_rfl) (by kernel_rfl) (by kernel_rfl) (fun _ _ _ h => h) (by decide) ⟨hF, fun _ => trivial⟩ (Or.inl ⟨by rfl, ?_⟩) ?_
    rotate_left
    · intro wq hSw; have s0 := hSw; go_simp; rfl
    simp only [Act.put]
    refine gate_done (by kernel_rfl) ?_ _
    clear hF k0 k1
    have HL4 := Lib.hid (Lat.trans (Lat.drew W2) hb4)
    clear hb4
    go_wp2
    go_ret2
    refine ⟨?_, ?_, ?_⟩
    · have e1 : u2.length = m := HLN.out
      show Ending.returned (.tuple #[.bool false, .bool (u2 == noughts u2.length)]) = _
      rw [e1]
      by_cases hx : u2 = noughts m
      · rw [hx, beq_self_eq_true, decide_eq_true rfl]
      · rw [beq_eq_false_iff_ne.2 hx, decide_eq_false hx]
    · exact HT3.out.keep HL4.out
    · exact Fr.lat (Lat.trans HL3.out HL4.out)
  · have hn0 : ((u1 : Int) == 0) = false := beq_eq_false_iff_ne.2 (by omega)
    go_upto_region 2 with fail
    obtain ⟨W2, hW2⟩ : ∃ W, W = (w2.setCell ⟨R, 0, none⟩ (.int .u64 u1)).setCell ⟨R, 1, none⟩ (.string (S u2)) := ⟨_, rfl⟩
    have hput := HPUT.out
    have htab3 := HTAB3.out
    have hlw3 := HLW3.out
    rw [← hW2] at hput htab3 hlw3 ⊢
    have k0 := hput.c0
    have k1 := hput.c1
    have kp := htab3.cell
    obtain ⟨hlo, hlk, hTn⟩ := HNL.out h0
    obtain ⟨w5, hrun, htab5, hfr5⟩ := (htab3.keep (Lat.drew W2)).store hk (lowI u1) hlk hTn (u1, u2)
    have hrun2 : (Instr.mapUpdate 140 (.map (some b)) (.int .u64 (bitP (lowI u1) : Int)) (.agg #[.int .u64 u1, .string (S u2)])).run Tryz.prog W2.drew = .ok () w5 := hrun
    have HT5 := Lib.hid htab5; have HF5 := Lib.hid hfr5; have HL3 := Lib.hid hlw3; have HRUN := Lib.hid hrun2; have H0 := Lib.hid h0
    clear hW2 hput htab3 hlw3 HPUT HTAB3 HLW3 c0 c1 f0 f1 htab5 hfr5 hrun hrun2 hlo hTn h0
    go_upto_region 4 with fail
    have hF : W2.drew.cell? ⟨p, 0, none⟩ = some (.map (some b)) ∧ W2.drew.cell? ⟨R, 0, none⟩ = some (.int .u64 u1) ∧ W2.drew.cell? ⟨R, 1, none⟩ = some (.string (S u2)) := ⟨kp, k0, k1⟩
    refine wp_region_gate (fun w' => w'.cell? ⟨p, 0, none⟩ = some (.map (some b)) ∧ w'.cell? ⟨R, 0, none⟩ = some (.int .u64 u1) ∧ w'.cell? ⟨R, 1, none⟩ = some (.string (S u2))) (fun _ => True) 1000 (by kernel_rfl) ?_
    refine gate_takeF (i := 0) (v := ?_) rfl (by kernel_rfl) (by kernel_rfl) (by kernel_rfl) (fun _ _ _ h => h) (by decide) ⟨hF, fun _ => trivial⟩ (Or.inl ⟨by rfl, ?_⟩) ?_
    rotate_left
    · intro wq hSw; obtain ⟨s0, s1, s2⟩ := hSw; go_simp; rfl
    simp only [Act.put]
    refine gate_takeF (i := 1) (v := ?_) rfl (by kernel_rfl) (by kernel_rfl) (by kernel_rfl) (fun _ _ _ h => h) (by decide) ⟨hF, fun _ => trivial⟩ (Or.inl ⟨by rfl, ?_⟩) ?_
    rotate_left
    · intro wq hSw; obtain ⟨s0, s1, s2⟩ := hSw; go_simp; rfl
    simp only [Act.put]
    refine gate_takeF (i := 2) (v := ?_) rfl (by kernel_rfl) (by kernel_rfl) (by kernel_rfl) (fun _ _ _ h => h) (by decide) ⟨hF, fun _ => trivial⟩ (Or.inl ⟨by rfl, ?_⟩) ?_
    rotate_left
    · intro wq hSw; obtain ⟨s0, s1, s2⟩ := hSw; go_simp; rfl
    simp only [Act.put]
    refine gate_takeF (i := 3) (v := ?_) rfl (by kernel_rfl) (by kernel_rfl) (by kernel_rfl) (fun _ _ _ h => h) (by decide) ⟨hF, fun _ => trivial⟩ (Or.inl ⟨by rfl, ?_⟩) ?_
    rotate_left
    · intro wq hSw; obtain ⟨s0, s1, s2⟩ := hSw; go_simp; rfl
    simp only [Act.put]
    refine gate_takeF (i := 4) (v := ?_) rfl (by kernel_rfl) (by kernel_rfl) (by kernel_rfl) (fun _ _ _ h => h) (by decide) ⟨hF, fun _ => trivial⟩ (Or.inl ⟨by rfl, ?_⟩) ?_
    rotate_left
    · intro wq hSw; obtain ⟨s0, s1, s2⟩ := hSw; go_simp; rfl
    simp only [Act.put]
    refine gate_takeF (i := 5) (v := ?_) rfl (by kernel_rfl) (by kernel_rfl) (by kernel_rfl) (fun _ _ _ h => h) (by decide) ⟨hF, fun _ => trivial⟩ (Or.inl ⟨by rfl, ?_⟩) ?_
    rotate_left
    · intro wq hSw; obtain ⟨s0, s1, s2⟩ := hSw; go_simp; rfl
    simp only [Act.put]
    refine gate_takeF (i := 7) (v := ?_) rfl (by kernel_rfl) (by kernel_rfl) (by kernel_rfl) (fun _ _ _ h => h) (by decide) ⟨hF, fun _ => trivial⟩ (Or.inl ⟨by rfl, ?_⟩) ?_
    rotate_left
    · intro wq hSw; obtain ⟨s0, s1, s2⟩ := hSw; go_simp; rfl
    simp only [Act.put]
    refine gate_one (i := 6) (by kernel_rfl) rfl (fun K hK => ?_)
    go_simp
    refine (low_any u1 _ H0.out hu16).mono ?_
    rintro y w4 ⟨rfl, rfl⟩
    refine hK _ _ ⟨hF, fun _ => trivial⟩ ?_
    clear hK K
    refine gate_one (i := 8) (by kernel_rfl) rfl (fun K hK => ?_)
    have hrun := HRUN.out
    go_simp
    have hF' : w5.cell? ⟨p, 0, none⟩ = some (.map (some b)) ∧ w5.cell? ⟨R, 0, none⟩ = some (.int .u64 u1) ∧ w5.cell? ⟨R, 1, none⟩ = some (.string (S u2)) := ⟨HT5.out.cell, HF5.out.cell_at hF.2.1 (fun e => hbR e.symm), HF5.out.cell_at hF.2.2 (fun e => hbR e.symm)⟩
    refine hK _ _ ⟨hF', fun _ => trivial⟩ ?_
    clear hK K hF hF' hrun
    refine gate_done (by kernel_rfl) ?_ _
    clear k0 k1 kp
    go_wp2
    go_ret2
    refine ⟨?_, ?_, ?_⟩
    · rfl
    · exact HT5.out
    · exact (Fr.lat (Lat.trans HL3.out (Lat.drew W2))).trans HF5.out (fun _ _ e => e)
end Go.Proofs.YtcpookgbneoilaaGreatDoor

namespace Go.Proofs.YtcpookgbneoilaaGreatDoor
open Go.ChangeShapes Go.WideShapes Go.ChangeAt Go.RowKit

def bkR (r : Vec) (kn : Nat → List UInt8) (i : Nat) : Nat → List UInt8
  | 0 => r.2
  | q + 1 => if r.1.testBit (i + 1 + q) = true then xorL (bkR r kn i q) (kn (i + 1 + q)) else bkR r kn i q
def outF (T : Nat → Option Vec) (k : Nat) : Nat → Nat → List UInt8
  | 0 => fun _ => []
  | f + 1 => fun j => if j = k - 1 - f then bkR ((T (k - 1 - f)).getD (0, [])) (outF T k f) (k - 1 - f) f else outF T k f j
theorem outF_len {m k : Nat} {T : Nat → Option Vec} (hT : TI m k T) (hfull : ∀ b, b < k → T b ≠ none) : ∀ f, f ≤ k → ∀ j, k - f ≤ j → j < k → (outF T k f j).length = m
  | 0, _, j, h1, h2 => by omega
  | f + 1, hf, j, h1, h2 => by
    have ih := outF_len hT hfull f (by omega)
    show (if j = k - 1 - f then bkR ((T (k - 1 - f)).getD (0, [])) (outF T k f) (k - 1 - f) f else outF T k f j).length = m
    by_cases e : j = k - 1 - f
    · rw [if_pos e]
      obtain ⟨x, hx⟩ : ∃ x, T (k - 1 - f) = some x := by
        cases h : T (k - 1 - f) with
        | none => exact absurd h (hfull _ (by omega))
        | some x => exact ⟨x, rfl⟩
      rw [hx]
      have hxl := hT.len _ _ hx
      have : ∀ q, q ≤ f → (bkR ((some x).getD (0, [])) (outF T k f) (k - 1 - f) q).length = m := fun q => by
        induction q with
        | zero => intro _; exact hxl
        | succ q ihq =>
          intro hq
          unfold bkR
          split
          · rw [xorL_length _ _ (by rw [ihq (by omega), ih _ (by omega) (by omega)])]; exact ihq (by omega)
          · exact ihq (by omega)
      exact this f (Nat.le_refl _)
    · rw [if_neg e]; exact ih j (by omega) h2
theorem bkR_len {m k : Nat} {T : Nat → Option Vec} (hT : TI m k T) (hfull : ∀ b, b < k → T b ≠ none) {f : Nat} (hf : f < k) {x : Vec} (hx : T (k - 1 - f) = some x) : ∀ q, q ≤ f → (bkR x (outF T k f) (k - 1 - f) q).length = m
  | 0, _ => hT.len _ _ hx
  | q + 1, hq => by
    have ih := bkR_len hT hfull hf hx q (by omega)
    unfold bkR
    split
    · rw [xorL_length _ _ (by rw [ih, outF_len hT hfull f (by omega) _ (by omega) (by omega)])]; exact ih
    · exact ih
theorem shr_bit (n j : Nat) (hn : n < 65536) : bits .and .u64 ((n / 2 ^ j : Nat) : Int) 1 = if n.testBit j = true then 1 else 0 := by
  have h1 : n / 2 ^ j ≤ n := Nat.div_le_self _ _
  have h2 := bits_and_u64_nat (n / 2 ^ j) 1 (by omega) (by omega)
  rw [Nat.and_one_is_mod] at h2
  have h3 : ((1 : Nat) : Int) = 1 := rfl
  rw [h3] at h2
  rw [h2, Nat.testBit_eq_decide_div_mod_eq]
  by_cases h : n / 2 ^ j % 2 = 1
  · rw [h, decide_eq_true rfl, if_pos rfl]; rfl
  · rw [decide_eq_false h, if_neg (by simp)]
    have : n / 2 ^ j % 2 = 0 := by omega
    rw [this]; rfl

theorem row_put1 {w : World} {g : Nat} {x : Vec} (h : RowB w g x) (l : List UInt8) : RowB (w.setCell ⟨g, 1, none⟩ (.string (S l))) g (x.1, l) :=
  ⟨by rw [World.cell?_setCell_other _ _ _ _ (by intro e; injection e with _ e2 _; cases e2)]; exact h.c0, World.cell?_setCell_same _ _ _ h.c1, by rw [World.frozen?_setCell]; exact h.f0, by rw [World.frozen?_setCell]; exact h.f1⟩
theorem Blk.otherB {w : World} {g n h : Nat} {F : Nat → Value} (hb : Blk w g n F) (hne : g ≠ h) (o : Nat) (v : Value) : Blk (w.setCell ⟨h, o, none⟩ v) g n F :=
  ⟨by simpa [World.setCell] using hb.lt, fun j hj => by rw [World.cell?_setCell_other _ _ _ _ (by intro e; injection e with e1 _ _; exact hne e1.symm)]; exact hb.cell j hj, fun j hj => by rw [World.frozen?_setCell]; exact hb.free j hj⟩

set_option maxHeartbeats 4000000 in
set_option maxRecDepth 100000 in
theorem back_any (p b k m : Nat) (T : Nat → Option Vec) (w : World) (h : TabAt w p b k T) (hk1 : 1 ≤ k) (hk : k ≤ 16) (hT : TI m k T) (hm8 : m ≤ 8) (hfull : ∀ b, b < k → T b ≠ none) :
    Calls Tryz.prog 58 #[.pointer (some ⟨p, 0, none⟩), .int .i64 k] w fun e w' => ∃ g, e = .returned (.slice (some ⟨g, 0, none⟩) k k) ∧ w.heap.size ≤ g ∧ Blk w' g k (fun j => .string (S (outF T k k j))) ∧ Lat w w' := by
  have hol := fun f hf => outF_len hT hfull f hf
  have hbl := fun f (hf : f < k) x hx => bkR_len (x := x) hT hfull hf hx
  have H := Lib.hid h; have HTI := Lib.hid hT; have HFU := Lib.hid hfull; have HOL := Lib.hid hol; have HBL := Lib.hid hbl
  clear h hT hfull hol hbl
  go_enter Tryz.func58, Tryz.ntmps58
  go_wp2_with (at_make; refine wpList_make_blk _ rfl _ _ 82 rfl 9 (.string .empty) 16 Tryz.underlying82 info_string rfl k rfl rfl (by omega) (by unfold maxLen; omega) ?_)
  intro g w1 hg hblk hb1
  have HBK : Hid (Blk w1 g k (fun j => .string (S (outF T k 0 j)))) := hblk.congr fun j _ => rfl
  have HB1 := Lib.hid hb1; have HG : Hid (w.heap.size ≤ g) := Nat.le_of_eq hg.symm
  clear hblk hb1 hg
  go_wp2
  go_loopg [6, 7, 8] (k + 1) (fun gh i _ _ wr => ∃ f : Nat, f ≤ k ∧ i = .int .i64 ((k : Int) - 1 - (f : Int)) ∧ Hid (gh + f = k + 1 ∧ Blk wr g k (fun j => .string (S (outF T k f j))) ∧ Lat w wr))
  case atStart => exact ⟨0, Nat.zero_le _, by go_num, rfl, HBK.out, HB1.out⟩
  case round =>
    obtain ⟨f, hf, rfl, hrel⟩ := hrel
    obtain ⟨hgh, hblk, hlat⟩ := hrel.out
    by_cases hfk : f < k
    · obtain ⟨i, hi⟩ : ∃ i, i = k - 1 - f := ⟨_, rfl⟩
      have hiI : (k : Int) - 1 - (f : Int) = (i : Int) := by omega
      rw [hiI]
      have hik : i < k := by omega
      obtain ⟨x, hx⟩ : ∃ x, T i = some x := by
        cases h : T i with
        | none => exact absurd h (HFU.out i hik)
        | some x => exact ⟨x, rfl⟩
      obtain ⟨x1, x2⟩ := x
      have hxb := HTI.out.bits i _ hx
      have hx16 : x1 < 65536 := Nat.lt_of_lt_of_le hxb (Nat.pow_le_pow_right (by omega) hk)
      have hbl := HBL.out f hfk (x1, x2) (by rw [← hi]; exact hx)
      rw [← hi] at hbl
      have hst : ∀ j, outF T k (f + 1) j = if j = i then bkR (x1, x2) (outF T k f) i f else outF T k f j := fun j => by
        show (if j = k - 1 - f then bkR ((T (k - 1 - f)).getD (0, [])) (outF T k f) (k - 1 - f) f else outF T k f j) = _
        rw [← hi, hx]; rfl
      have hwp := wrap_pow i (by omega)
      have HGH := Lib.hid hgh; have HBLK := Lib.hid hblk; have HLT := Lib.hid hlat; have HX := Lib.hid hx; have HBL2 := Lib.hid hbl; have HST := Lib.hid hst; have HI := Lib.hid hi; have HWP := Lib.hid hwp
      clear hrel hgh hblk hlat hx hxb hbl hst hi hwp hiI
      go_upto_region 5 with fail
      have hF : TabAt wr.drew p b k T := (H.out.keep HLT.out).keep (Lat.drew wr)
      have hL0 : Lat wr wr.drew := Lat.drew wr
      have hci : (0 : Int) ≤ (i : Int) := by omega
      refine wp_region_gate (fun w' => TabAt w' p b k T) (fun _ => True) 1000 (by kernel_rfl) ?_
      obtain ⟨w0, hw0⟩ : ∃ x, x = wr.drew := ⟨_, rfl⟩
      rw [← hw0] at hF hL0 ⊢
      clear hw0
      refine gate_takeF (i := 0) (v := ?_) rfl (by kernel_rfl) (by kernel_rfl) (by kernel_rfl) (fun _ _ _ h => h) (by decide) ⟨hF, fun _ => trivial⟩ (Or.inl ⟨by rfl, ?_⟩) ?_
      rotate_left
      · intro wq hSw; go_simp; rfl
      simp only [Act.put]
      refine gate_takeF (i := 1) (v := ?_) rfl (by kernel_rfl) (by kernel_rfl) (by kernel_rfl) (fun _ _ _ h => h) (by decide) ⟨hF, fun _ => trivial⟩ (Or.inl ⟨by rfl, ?_⟩) ?_
      rotate_left
      · intro wq hSw; go_simp; rfl
      simp only [Act.put]
      refine gate_takeF (i := 2) (v := ?_) rfl (by kernel_rfl) (by kernel_rfl) (by kernel_rfl) (fun _ _ _ h => h) (by decide) ⟨hF, fun _ => trivial⟩ (Or.inl ⟨by rfl, ?_⟩) ?_
      rotate_left
      · intro wq hSw; go_simp; rfl
      simp only [Act.put]
      refine gate_takeF (i := 3) (v := ?_) rfl (by kernel_rfl) (by kernel_rfl) (by kernel_rfl) (fun _ _ _ h => h) (by decide) ⟨hF, fun _ => trivial⟩ (Or.inl ⟨by rfl, ?_⟩) ?_
      rotate_left
      · intro wq hSw; have s0 := hSw.cell; go_simp; rfl
      simp only [Act.put]
      refine gate_takeF (i := 4) (v := ?_) rfl (by kernel_rfl) (by kernel_rfl) (by kernel_rfl) (fun _ _ _ h => h) (by decide) ⟨hF, fun _ => trivial⟩ (Or.inl ⟨by rfl, ?_⟩) ?_
      rotate_left
      · intro wq hSw; go_simp; rfl
      simp only [Act.put]
      refine gate_takeF (i := 5) (v := ?_) rfl (by kernel_rfl) (by kernel_rfl) (by kernel_rfl) (fun _ _ _ h => h) (by decide) ⟨hF, fun _ => trivial⟩ (Or.inl ⟨by rfl, ?_⟩) ?_
      rotate_left
      · intro wq hSw; have hw := HWP.out; go_simp; rfl
      simp only [Act.put]
      refine gate_takeF (i := 6) (v := ?_) rfl (by kernel_rfl) (by kernel_rfl) (by kernel_rfl) (fun _ _ _ h => h) (by decide) ⟨hF, fun _ => trivial⟩ (Or.inl ⟨by rfl, ?_⟩) ?_
      rotate_left
      · intro wq hSw; have s9 := hSw.look i (by omega); rw [HX.out] at s9; have s0 : (Instr.lookup 140 (.map (some b)) (.int .u64 (bitP i : Int)) false).run Tryz.prog wq = .ok (.agg #[.int .u64 x1, .string (S x2)]) wq := s9; clear s9; have hw := HWP.out; go_simp; rfl
      simp only [Act.put]
      refine gate_one (i := 7) (by kernel_rfl) rfl (fun K hK => ?_)
      go_simp
      obtain ⟨X, hX⟩ : ∃ X, X = w0.heap.size := ⟨_, rfl⟩
      obtain ⟨W1, hW1⟩ : ∃ W, W = w0.alloc (.cells #[.int .u64 0, .string { data := #[] }] 112) := ⟨_, rfl⟩
      have hrx : RowB W1 X (0, []) := by rw [hW1, hX]; exact row_new w0 0 []
      have hL1 : Lat wr W1 := by rw [hW1]; exact Lat.trans hL0 (Lat.alloc _ _)
      have hF1 : TabAt W1 p b k T := by rw [hW1]; exact hF.keep (Lat.alloc _ _)
      have hXw : wr.heap.size ≤ X := by rw [hX]; exact hL0.size
      rw [← hW1, ← hX]
      clear hW1 hX
      refine hK _ _ ⟨hF1, fun _ => trivial⟩ ?_
      clear hK K hF
      refine gate_one (i := 8) (by kernel_rfl) rfl (fun K hK => ?_)
      have s0 := hrx.c0
      have s1 : W1.cell? ⟨X, 1, none⟩ = some (.string { data := #[] }) := hrx.c1
      have s2 := hrx.f0
      have s3 := hrx.f1
      have hpX : p ≠ X := by have h1 := H.out.lt.1; have h2 := HLT.out.size; omega
      have hbX : b ≠ X := by have h1 := H.out.lt.2; have h2 := HLT.out.size; omega
      have hgX : g ≠ X := by have h1 := HBLK.out.lt; omega
      have hput := row_put hrx x1 x2
      have hF2 := (hF1.fr (Fr.set (S := fun j => j = X) W1 ⟨X, 0, none⟩ (.int .u64 x1) rfl) hpX hbX).fr (Fr.set (S := fun j => j = X) _ ⟨X, 1, none⟩ (.string (S x2)) rfl) hpX hbX
      have hbk2 := ((HBLK.out.keep hL1).otherB hgX 0 (.int .u64 x1)).otherB hgX 1 (.string (S x2))
      have hL2 : Lat w ((W1.setCell ⟨X, 0, none⟩ (.int .u64 x1)).setCell ⟨X, 1, none⟩ (.string (S x2))) := ((Lat.trans HLT.out hL1).setCell (p := ⟨X, 0, none⟩) (Nat.le_trans HLT.out.size hXw) _).setCell (p := ⟨X, 1, none⟩) (Nat.le_trans HLT.out.size hXw) _
      have HPUT := Lib.hid hput; have HF2 := Lib.hid hF2; have HBK2 := Lib.hid hbk2; have HL2 := Lib.hid hL2; have HXW := Lib.hid (Nat.le_trans HLT.out.size hXw)
      clear hput hF2 hbk2 hL2 hrx hF1 hL1 hXw hL0
      go_simp
      refine hK _ _ ⟨HF2.out, fun _ => trivial⟩ ?_
      clear hK K
      refine gate_done (by kernel_rfl) ?_ _
      clear s0 s1 s2 s3
      obtain ⟨W2, hW2⟩ : ∃ W, W = (W1.setCell ⟨X, 0, none⟩ (.int .u64 x1)).setCell ⟨X, 1, none⟩ (.string (S x2)) := ⟨_, rfl⟩
      have hput := HPUT.out
      have hbk2 := HBK2.out
      have hL2 := HL2.out
      rw [← hW2] at hput hbk2 hL2 ⊢
      have HP2 := Lib.hid hput; have HB2 := Lib.hid hbk2; have HL3 := Lib.hid hL2
      clear hW2 hput hbk2 hL2 HPUT HF2 HBK2 HL2
      obtain ⟨wo, hwo⟩ : ∃ wo : World, wo = wr := ⟨_, rfl⟩
      subst hwo
      go_wp2
      go_loopw [8] (fun jj wr => ∃ q : Nat, q ≤ f ∧ jj = .int .i64 ((i + 1 + q : Nat) : Int) ∧ Hid (RowB wr X (x1, bkR (x1, x2) (outF T k f) i q) ∧ Blk wr g k (fun j => .string (S (outF T k f j))) ∧ Lat w wr)) (fun jj _ => 40 - (intOf jj).toNat)
      case atStart => exact ⟨0, Nat.zero_le _, rfl, HP2.out, HB2.out, HL3.out⟩
      case round =>
        obtain ⟨q, hq, rfl, hrel⟩ := hrel
        obtain ⟨hrw, hbk, hlat⟩ := hrel.out
        obtain ⟨jn, hjn⟩ : ∃ x, x = i + 1 + q := ⟨_, rfl⟩
        rw [← hjn]
        have hik2 : i + 1 + f = k := by have := HI.out; omega
        by_cases hqf : q < f
        · have hjk : jn < k := by omega
          have c0 := hrw.c0
          have dj : decide (jn < k) = true := decide_eq_true hjk
          have hyl := HBL2.out q (by omega)
          have hzl := HOL.out f (by omega) jn (by omega) hjk
          have hq1 : bkR (x1, x2) (outF T k f) i (q + 1) = if x1.testBit jn = true then xorL (bkR (x1, x2) (outF T k f) i q) (outF T k f jn) else bkR (x1, x2) (outF T k f) i q := by rw [hjn]; rfl
          obtain ⟨y, hy⟩ : ∃ y, y = bkR (x1, x2) (outF T k f) i q := ⟨_, rfl⟩
          obtain ⟨z, hz⟩ : ∃ z, z = outF T k f jn := ⟨_, rfl⟩
          have cg : wr.cell? ⟨g, jn, none⟩ = some (.string (S z)) := by rw [hz]; exact hbk.cell jn hjk
          rw [← hy] at hyl hq1 hrw
          rw [← hz] at hzl hq1
          have hdiv : (x1 : Int) / 2 ^ jn = ((x1 / 2 ^ jn : Nat) : Int) := by rw [Int.natCast_ediv, Int.natCast_pow]; rfl
          have hsb := shr_bit x1 jn hx16
          rw [← hdiv] at hsb
          have HRW := Lib.hid hrw; have HBK := Lib.hid hbk; have HLA := Lib.hid hlat; have HQ1 := Lib.hid hq1; have HJN := Lib.hid hjn; have HCG := Lib.hid cg
          have HYL : Hid (y.length = (S z).size) := hyl.trans hzl.symm
          have HYM : Hid (y.length = m) := hyl
          clear hik2 hrel hrw hbk hlat hq1 hjn hy hz cg hyl hzl hdiv
          by_cases htb : x1.testBit jn = true
          · have dbit : (bits BinOp.and IntKind.u64 ((x1 : Int) / 2 ^ jn) 1 == 1) = true := by rw [hsb, if_pos htb]; rfl
            have HQ2 : Hid (bkR (x1, x2) (outF T k f) i (q + 1) = xorL y z) := by show _ = _; rw [HQ1.out, if_pos htb]
            clear hsb htb
            go_upto_region 10 with fail
            have hF : wr.drew.cell? ⟨g, jn, none⟩ = some (.string (S z)) ∧ wr.drew.frozen? ⟨X, 1, none⟩ = false := ⟨HCG.out, HRW.out.f1⟩
            have hG : wr.drew.cell? ⟨X, 1, none⟩ = some (.string (S y)) := HRW.out.c1
            have hj0 : (0 : Int) ≤ (jn : Int) := by omega
            have hjk2 : (jn : Int) < (k : Int) := by omega
            have hL0 : Lat wr wr.drew := Lat.drew wr
            refine wp_region_gate (fun w' => w'.cell? ⟨g, jn, none⟩ = some (.string (S z)) ∧ w'.frozen? ⟨X, 1, none⟩ = false) (fun w' => w'.cell? ⟨X, 1, none⟩ = some (.string (S y))) 8 (by kernel_rfl) ?_
            obtain ⟨w0, hw0⟩ : ∃ x, x = wr.drew := ⟨_, rfl⟩
            rw [← hw0] at hF hG hL0 ⊢
            clear hw0
            refine gate_takeF (i := 0) (v := ?_) rfl (by kernel_rfl) (by kernel_rfl) (by kernel_rfl) (fun _ _ _ h => h) (by decide) ⟨hF, fun _ => hG⟩ (Or.inl ⟨by rfl, ?_⟩) ?_
            rotate_left
            · intro wq hSw; go_simp; rfl
            simp only [Act.put]
            refine gate_takeC (i := 1) [6] (v := ?_) rfl (by kernel_rfl) (by kernel_rfl) (by kernel_rfl) (fun _ _ _ h => h) (by decide) (by kernel_rfl) (by kernel_rfl) ⟨hF, fun _ => hG⟩ (Or.inl ⟨by rfl, ?_⟩) ?_
            rotate_left
            · intro wq hSw; obtain ⟨⟨s0, s1⟩, s2⟩ := hSw; go_simp; rfl
            simp only [Act.put]
            refine gate_takeF (i := 2) (v := ?_) rfl (by kernel_rfl) (by kernel_rfl) (by kernel_rfl) (fun _ _ _ h => h) (by decide) ⟨hF, fun _ => hG⟩ (Or.inl ⟨by rfl, ?_⟩) ?_
            rotate_left
            · intro wq hSw; go_simp; rfl
            simp only [Act.put]
            refine gate_takeF (i := 3) (v := ?_) rfl (by kernel_rfl) (by kernel_rfl) (by kernel_rfl) (fun _ _ _ h => h) (by decide) ⟨hF, fun _ => hG⟩ (Or.inl ⟨by rfl, ?_⟩) ?_
            rotate_left
            · intro wq hSw; go_simp; rfl
            simp only [Act.put]
            refine gate_takeF (i := 4) (v := ?_) rfl (by kernel_rfl) (by kernel_rfl) (by kernel_rfl) (fun _ _ _ h => h) (by decide) ⟨hF, fun _ => hG⟩ (Or.inl ⟨by rfl, ?_⟩) ?_
            rotate_left
            · intro wq hSw; go_simp; rfl
            simp only [Act.put]
            refine gate_takeF (i := 5) (v := ?_) rfl (by kernel_rfl) (by kernel_rfl) (by kernel_rfl) (fun _ _ _ h => h) (by decide) ⟨hF, fun _ => hG⟩ (Or.inl ⟨by rfl, ?_⟩) ?_
            rotate_left
            · intro wq hSw; obtain ⟨s0, s1⟩ := hSw; go_simp; rfl
            simp only [Act.put]
            refine gate_one (i := 6) (by kernel_rfl) rfl (fun K hK => ?_)
            go_simp
            refine (overS y (S z) _ HYL.out (by rw [HYM.out]; unfold maxLen; omega)).mono ?_
            rintro e w5 ⟨rfl, hb5⟩
            have hX0 : X < w0.heap.size := World.block_lt_of_cell? _ _ hG
            have hF' : w5.cell? ⟨g, jn, none⟩ = some (.string (S z)) ∧ w5.frozen? ⟨X, 1, none⟩ = false := ⟨hb5.cell_at hF.1, hb5.free_at hX0 hF.2⟩
            have hG' : w5.cell? ⟨X, 1, none⟩ = some (.string (S y)) := hb5.cell_at hG
            refine hK _ _ ⟨hF', fun _ => hG'⟩ ?_
            clear hK K hF hG
            refine gate_takeF (i := 7) (v := ?_) rfl (by kernel_rfl) (by kernel_rfl) (by kernel_rfl) (fun _ _ _ h => h) (by decide) ⟨hF', fun _ => hG'⟩ (Or.inl ⟨by rfl, ?_⟩) ?_
            rotate_left
            · intro wq hSw; go_simp; rfl
            simp only [Act.put]
            refine gate_one (i := 8) (by kernel_rfl) rfl (fun K hK => ?_)
            obtain ⟨s0, s1⟩ := hF'
            have s2 := hG'
            have hl5 : Lat wr w5 := Lat.trans hL0 hb5
            have hrow5 := row_put1 (HRW.out.keep hl5) (xorL y z)
            have hbk5 := (HBK.out.keep hl5).otherB hgX 1 (.string (S (xorL y z)))
            have hlw5 : Lat w (w5.setCell ⟨X, 1, none⟩ (.string (S (xorL y z)))) := (Lat.trans HLA.out hl5).setCell (p := ⟨X, 1, none⟩) HXW.out _
            have HR5 := Lib.hid hrow5; have HB5 := Lib.hid hbk5; have HL5 := Lib.hid hlw5
            clear hrow5 hbk5 hlw5 hl5 hL0 hb5
            go_simp
            refine hK _ _ (FG.past (by kernel_rfl) ⟨by rw [World.cell?_setCell_other _ _ _ _ (by intro e; injection e with e1 _ _; exact hgX e1.symm)]; exact s0, by rw [World.frozen?_setCell]; exact s1⟩) ?_
            clear hK K
            refine gate_done (by kernel_rfl) ?_ _
            clear s0 s1 s2 hG'
            go_wp2
            go_roundw
            case rel => exact ⟨q + 1, by omega, by rw [HJN.out]; go_num, by rw [HQ2.out]; exact HR5.out, HB5.out, HL5.out⟩
            case measure => simp [intOf]; omega
          · have dbit : (bits BinOp.and IntKind.u64 ((x1 : Int) / 2 ^ jn) 1 == 1) = false := by rw [hsb, if_neg htb]; rfl
            have HQ2 : Hid (bkR (x1, x2) (outF T k f) i (q + 1) = y) := by show _ = _; rw [HQ1.out, if_neg htb]
            clear hsb htb
            go_wp2
            go_roundw
            case rel => exact ⟨q + 1, by omega, by rw [HJN.out]; go_num, by rw [HQ2.out]; exact HRW.out, HBK.out, HLA.out⟩
            case measure => simp [intOf]; omega
        · obtain rfl : q = f := by omega
          have hjk : jn = k := by omega
          have dj : decide (jn < k) = false := decide_eq_false (by omega)
          have cl := hbk.cell i hik
          have fl := hbk.free i hik
          have cx := hrw.c1
          obtain ⟨y, hy⟩ : ∃ y, y = bkR (x1, x2) (outF T k q) i q := ⟨_, rfl⟩
          rw [← hy] at cx
          have hnew : Blk (wr.setCell ⟨g, i, none⟩ (.string (S y))) g k (fun j => .string (S (outF T k (q + 1) j))) := (hbk.set hik (.string (S y))).congr fun j _ => by
            rw [HST.out j]
            by_cases e : j = i
            · rw [if_pos e, if_pos e, hy]
            · rw [if_neg e, if_neg e]
          have hlat2 : Lat w (wr.setCell ⟨g, i, none⟩ (.string (S y))) := hlat.setCell (p := ⟨g, i, none⟩) HG.out _
          have hiI : (i : Int) < (k : Int) := by omega
          have HNEW := Lib.hid hnew; have HLAT2 := Lib.hid hlat2; have HIK2 := Lib.hid hik2
          clear hrel hrw hbk hlat hjn hjk hy hnew hlat2 hik2
          go_wp2
          go_roundg (gk - 1)
          case measure => go_light; have := HGH.out; omega
          case rel => go_light; exact ⟨q + 1, by omega, by have := HIK2.out; go_num, by have := HGH.out; omega, HNEW.out, HLAT2.out⟩
    · obtain rfl : f = k := by omega
      have e : ((f : Int) - 1 - (f : Int)) = -1 := by omega
      rw [e]
      have HBF := Lib.hid hblk; have HLF := Lib.hid hlat
      clear hrel hgh hblk hlat e
      go_wp2
      go_ret
      exact ⟨g, rfl, HG.out, HBF.out, HLF.out⟩
end Go.Proofs.YtcpookgbneoilaaGreatDoor

namespace Go.Proofs.YtcpookgbneoilaaGreatDoor
open Go.ChangeShapes Go.WideShapes Go.ChangeAt Go.RowKit

theorem mem_getD (zs : List Int) (k : Nat) (h : k < zs.length) : zs.getD k 0 ∈ zs := by
  rw [List.getD_eq_getElem?_getD, List.getElem?_eq_getElem h]; exact List.getElem_mem h
def TestI (F : Nat) (p : Int → Bool) (zs : List Int) : Prop := ∀ z ∈ zs, ∀ w : World, Calls Tryz.prog F #[.int .i64 z] w fun e w' => e = .returned (.bool (p z)) ∧ w = w'
def IdxI (p : Int → Bool) (zs : List Int) (w : World) (e : Ending) (w' : World) : Prop := ∃ r : Int, e = .returned (.int .i64 r) ∧ decide (0 ≤ r) = zs.any p ∧ w = w'

set_option maxHeartbeats 400000 in
theorem indexFuncI (F : Nat) (eF : ∀ args w, (callFunc F args).run Tryz.prog w = .ok (.enter F args) w) (p : Int → Bool) (a : Option Addr) (n cap : Nat) (zs : List Int) (w : World) (h : IntsAt w a n cap zs) (hF : TestI F p zs) :
    Calls Tryz.prog 88 #[.slice a n cap, .func (.func F) #[] #[]] w (IdxI p zs w) := by
  have hcap2 := h.row.cap
  have hle2 := h.row.le
  unfold maxLen at hcap2
  have H := Lib.hid h
  have HF := Lib.hid hF
  clear h hF
  go_enter Tryz.func88, Tryz.ntmps88
  go_wp2
  go_loop [8] (fun i => ∃ k : Nat, k ≤ n ∧ i = .int .i64 k ∧ Hid (∀ j, j < k → p (zs.getD j 0) = false)) (fun i => n - (intOf i).toNat)
  case atStart => exact ⟨0, Nat.zero_le _, rfl, fun j hj => absurd hj (Nat.not_lt_zero _)⟩
  case round =>
    obtain ⟨k, hk, rfl, hrel⟩ := hrel
    by_cases hlt : k < n
    · obtain ⟨b, o, rfl, hc⟩ := H.out.row.at_ (by omega)
      have c1 := hc k hlt
      have hm := mem_getD zs k (by rw [H.out.len]; exact hlt)
      have hcall := HF.out _ hm
      obtain ⟨z, hz⟩ : ∃ z, z = zs.getD k 0 := ⟨_, rfl⟩
      rw [← hz] at c1 hm hcall
      have HZ := Lib.hid hz
      have HM := Lib.hid hm
      clear hc hz hm
      cases hq : p z with
      | true =>
        have HQ := Lib.hid hq
        simp only [hq] at hcall
        clear hq
        go_wp2_with (go_at_fn F; refine (hcall _).mono ?_; rintro e w' ⟨rfl, rfl⟩)
        go_ret
        exact ⟨k, rfl, by rw [List.any_eq_true.2 ⟨z, HM.out, HQ.out⟩]; exact decide_eq_true (by omega), rfl⟩
      | false =>
        have HQ := Lib.hid hq
        simp only [hq] at hcall
        clear hq
        go_wp2_with (go_at_fn F; refine (hcall _).mono ?_; rintro e w' ⟨rfl, rfl⟩)
        go_round
        case rel => exact ⟨k + 1, by omega, by go_num, fun j hj => by
          by_cases e : j = k
          · subst e; rw [← HZ.out]; exact HQ.out
          · exact hrel.out j (by omega)⟩
        case measure => simp [intOf]; omega
    · obtain rfl : k = n := by omega
      go_wp2
      go_ret
      refine ⟨-1, rfl, ?_, rfl⟩
      have : zs.any p = false := by
        rw [List.any_eq_false]
        intro x hx
        obtain ⟨j, hj, e⟩ := List.getElem_of_mem hx
        have := hrel.out j (by rw [← H.out.len]; exact hj)
        rw [List.getD_eq_getElem?_getD, List.getElem?_eq_getElem hj, Option.getD_some, e] at this
        rw [this]; simp
      rw [this]; rfl
theorem containsFuncI (F : Nat) (eF : ∀ args w, (callFunc F args).run Tryz.prog w = .ok (.enter F args) w) (p : Int → Bool) (a : Option Addr) (n cap : Nat) (zs : List Int) (w : World) (h : IntsAt w a n cap zs) (hF : TestI F p zs) :
    Calls Tryz.prog 72 #[.slice a n cap, .func (.func F) #[] #[]] w fun e w' => e = .returned (.bool (zs.any p)) ∧ w = w' := by
  have H := Lib.hid h
  have HF := Lib.hid hF
  clear h hF
  obtain ⟨Y, hY⟩ : ∃ Y, Y = zs.any p := ⟨_, rfl⟩
  rw [← hY]
  have HY := Lib.hid hY
  clear hY
  go_enter Tryz.func72, Tryz.ntmps72
  go_wp2_with fail
  refine (indexFuncI F eF p a n cap zs _ H.out HF.out).mono ?_
  rintro e w' ⟨r, rfl, hr, rfl⟩
  rw [← HY.out] at hr
  have HR := Lib.hid hr
  clear hr
  go_wp2
  go_ret
  exact ⟨congrArg (fun b => Ending.returned (.bool b)) HR.out, rfl⟩
end Go.Proofs.YtcpookgbneoilaaGreatDoor

namespace Go.Proofs.YtcpookgbneoilaaGreatDoor
open Go.ChangeShapes Go.WideShapes Go.ChangeAt Go.RowKit

def noSeed (z : Int) : Bool := !decide (1 ≤ z ∧ z ≤ 10000)
def rdyE (k : Int) (zs : List Int) : Nat := if 60 < zs.length then 4 else if k < 1 ∨ 16 < k then 1 else if zs.any noSeed = true then 1 else 0
theorem rdyE_zero {k : Int} {zs : List Int} (h : rdyE k zs = 0) : zs.length ≤ 60 ∧ 1 ≤ k ∧ k ≤ 16 ∧ ∀ z ∈ zs, 1 ≤ z ∧ z ≤ 10000 := by
  unfold rdyE at h
  by_cases h1 : 60 < zs.length
  · rw [if_pos h1] at h; cases h
  rw [if_neg h1] at h
  by_cases h2 : k < 1 ∨ 16 < k
  · rw [if_pos h2] at h; cases h
  rw [if_neg h2] at h
  by_cases h3 : zs.any noSeed = true
  · rw [if_pos h3] at h; cases h
  refine ⟨by omega, by omega, by omega, fun z hz => ?_⟩
  by_cases h4 : 1 ≤ z ∧ z ≤ 10000
  · exact h4
  · exact absurd (List.any_eq_true.2 ⟨z, hz, by unfold noSeed; rw [decide_eq_false h4]; rfl⟩) h3
theorem seedR_yes (z : Int) (w : World) (h1 : 1 ≤ z) (h2 : z ≤ 10000) :
    Calls Tryz.prog 45 #[.int .i64 z] w fun e w' => e = .returned (.bool true) ∧ w = w' := by
  have hd : decide (z ≤ 10000) = true := decide_eq_true h2
  go_enter Tryz.func45, Tryz.ntmps45
  go_wp2
  go_ret
  exact ⟨rfl, rfl⟩
theorem seedR_no (z : Int) (w : World) (h : z < 1 ∨ 10000 < z) :
    Calls Tryz.prog 45 #[.int .i64 z] w fun e w' => e = .returned (.bool false) ∧ w = w' := by
  rcases h with h | h
  · have hd : decide (1 ≤ z) = false := decide_eq_false (by omega)
    go_enter Tryz.func45, Tryz.ntmps45
    go_wp2
    go_ret
    exact ⟨rfl, rfl⟩
  · have hd : decide (1 ≤ z) = true := decide_eq_true (by omega)
    have hd2 : decide (z ≤ 10000) = false := decide_eq_false (by omega)
    go_enter Tryz.func45, Tryz.ntmps45
    go_wp2
    go_ret
    exact ⟨rfl, rfl⟩
theorem ready_clos (z : Int) (w : World) : Calls Tryz.prog 73 #[.int .i64 z] w fun e w' => e = .returned (.bool (noSeed z)) ∧ w = w' := by
  by_cases h : 1 ≤ z ∧ z ≤ 10000
  · have hn : noSeed z = false := by unfold noSeed; rw [decide_eq_true h]; rfl
    rw [hn]
    go_enter Tryz.func73, Tryz.ntmps73
    go_wp2_with (go_at_call 45; refine (seedR_yes z _ h.1 h.2).mono ?_; rintro e w' ⟨rfl, rfl⟩)
    go_ret
    exact ⟨rfl, rfl⟩
  · have hn : noSeed z = true := by unfold noSeed; rw [decide_eq_false h]; rfl
    rw [hn]
    have h2 : z < 1 ∨ 10000 < z := by omega
    clear h
    go_enter Tryz.func73, Tryz.ntmps73
    go_wp2_with (go_at_call 45; refine (seedR_no z _ h2).mono ?_; rintro e w' ⟨rfl, rfl⟩)
    go_ret
    exact ⟨rfl, rfl⟩
set_option maxRecDepth 100000 in
theorem ready_any (k : Int) (a : Option Addr) (n cap : Nat) (zs : List Int) (w : World) (h : IntsAt w a n cap zs) :
    Calls Tryz.prog 49 #[.int .i64 k, .slice a n cap] w fun e w' => e = .returned (errv (rdyE k zs)) ∧ w = w' := by
  have hl := h.len
  have hcm := h.row.cap
  have hle := h.row.le
  unfold maxLen at hcm
  have hE : rdyE k zs = if 60 < n then 4 else if k < 1 ∨ 16 < k then 1 else if zs.any noSeed = true then 1 else 0 := by unfold rdyE; rw [hl]
  have hcf := containsFuncI 73 (enters_of Tryz.func73 (by kernel_rfl) rfl) noSeed a n cap zs w h (fun z _ W => ready_clos z W)
  rw [hE]
  have HC := Lib.hid hcf
  clear h hl hE hcf
  by_cases h1 : 60 < n
  · rw [if_pos h1, errv_pos (by omega)]
    have d1 : decide ((60 : Int) < (n : Int)) = true := decide_eq_true (by omega)
    go_enter Tryz.func49, Tryz.ntmps49
    go_wp2
    go_ret
    exact ⟨rfl, rfl⟩
  rw [if_neg h1]
  have d1 : decide ((60 : Int) < (n : Int)) = false := decide_eq_false (by omega)
  by_cases h2 : k < 1 ∨ 16 < k
  · rw [if_pos h2, errv_pos (by omega)]
    go_enter Tryz.func49, Tryz.ntmps49
    go_wp2_with (go_at_call 39; refine (dblocks_no k _ h2).mono ?_; rintro e w' ⟨rfl, rfl⟩)
    go_ret
    exact ⟨rfl, rfl⟩
  rw [if_neg h2]
  have k1 : 1 ≤ k := by omega
  have k2 : k ≤ 16 := by omega
  clear h2
  obtain ⟨t, ht⟩ : ∃ t, t = zs.any noSeed := ⟨_, rfl⟩
  rw [← ht] at HC ⊢
  clear ht
  cases t with
  | true =>
    rw [if_pos rfl, errv_pos (by omega)]
    go_enter Tryz.func49, Tryz.ntmps49
    go_wp2_with (first
      | (go_at_call 39; refine (dblocks_yes k _ k1 k2).mono ?_; rintro e w' ⟨rfl, rfl⟩)
      | (go_at_call 72; refine HC.out.mono ?_; rintro e w' ⟨rfl, rfl⟩))
    go_ret
    exact ⟨rfl, rfl⟩
  | false =>
    rw [if_neg (by simp), errv_zero rfl]
    go_enter Tryz.func49, Tryz.ntmps49
    go_wp2_with (first
      | (go_at_call 39; refine (dblocks_yes k _ k1 k2).mono ?_; rintro e w' ⟨rfl, rfl⟩)
      | (go_at_call 72; refine HC.out.mono ?_; rintro e w' ⟨rfl, rfl⟩))
    go_ret
    exact ⟨rfl, rfl⟩
end Go.Proofs.YtcpookgbneoilaaGreatDoor

namespace Go.Proofs.YtcpookgbneoilaaGreatDoor
open Go.ChangeShapes Go.WideShapes Go.ChangeAt Go.RowKit

def rowOf (k : Nat) (z : Int) : Vec := (bitsN (setZ k z.toNat), [])
def rowsOf (k : Nat) (zs : List Int) : List Vec := zs.map (rowOf k)
theorem rowOf_lt (k : Nat) (z : Int) (hk : 1 ≤ k) (hz : 1 ≤ z) : (rowOf k z).1 < 2 ^ k := bitsTo_lt _ k (setZ_lt k _ hk (by omega)) _ (Nat.le_refl _)
theorem rowsOf_bare {k : Nat} {zs : List Int} (hk : 1 ≤ k) (hz : ∀ z ∈ zs, 1 ≤ z ∧ z ≤ 10000) : Bare k (rowsOf k zs) := fun v hv => by
  obtain ⟨z, hm, rfl⟩ := List.mem_map.1 hv
  exact ⟨rfl, rowOf_lt k z hk (hz z hm).1⟩
theorem rowsOf_getD (k : Nat) (zs : List Int) (j : Nat) (h : j < zs.length) : (rowsOf k zs).getD j (0, []) = rowOf k (zs.getD j 0) := by
  unfold rowsOf
  rw [List.getD_eq_getElem?_getD, List.getElem?_map, List.getD_eq_getElem?_getD, List.getElem?_eq_getElem h]; rfl
theorem rowsOf_len (k : Nat) (zs : List Int) : (rowsOf k zs).length = zs.length := List.length_map _

theorem Fr.grown {b : Nat} {w w' : World} (h : Fr (fun j => j = b) w w') : w.grownBy w' (some b) := ⟨h.os, h.tape, h.output, h.size, fun k hk hne => h.block k hk (fun e => hne (by rw [e]))⟩
theorem Own.frB {w w' : World} {B b : Nat} {e : TypeId} {v : Value} {xs : List Value} (h : Own w B e v xs) (hf : Fr (fun j => j = b) w w') (hb : b < B) : Own w' B e v xs :=
  Own.grown h hf.grown fun g hg e => by
    injection e with e
    have := (Own.lt h g hg).1
    omega
theorem app_intF (wr : World) (B : Nat) {ops : Array Oper} {rest : List Oper} {o : Oper} {a : Act} {Q : Exit → Act → World → Prop}
    (hg : o.guard = none) (s x : Operand) (ho : o.op = .call { callee := .builtin .append, args := #[s, x], argTypes := #[42, 42] })
    (v : Value) (zs : List Int) (z : Int) (hs : a.eval s = v) (hown : OwnInts wr B v zs) (hx : a.eval x = .slice (some ⟨wr.heap.size, 0, none⟩) 1 1)
    (hn : zs.length < 1000000) (hB : B ≤ wr.heap.size)
    (K : ∀ v' w', OwnInts w' B v' (zs ++ [z]) → Fr (fun j => v.ownBlock = some j) wr w' → wpList Tryz.prog ops Q rest (a.put o.dst v') w') :
    wpList Tryz.prog ops Q (o :: rest) a (wr.alloc (.cells #[.int .i64 z] 3)) := by
  have hal : OwnInts (wr.alloc (.cells #[.int .i64 z] 3)) B v zs := Own.alloc hown _
  have hrow1 : RowAt (wr.alloc (.cells #[.int .i64 z] 3)) (some ⟨wr.heap.size, 0, none⟩) 1 1 (fun j => [Value.int .i64 z].getD j undef) := by
    refine ⟨Nat.le_refl _, by unfold maxLen; omega, fun _ => ⟨wr.heap.size, 0, rfl, fun j hj => ?_⟩⟩
    obtain rfl : j = 0 := by omega
    simp
  obtain ⟨v', w', hrun, h2, h3, _⟩ := run_app_many (P := Tryz.prog) (wr.alloc (.cells #[.int .i64 z] 3)) B 42 o.type 3 (.int .i64 0) 8 Tryz.underlying42 info_int rfl (by decide) v _ hal (some ⟨wr.heap.size, 0, none⟩) 1 1 [.int .i64 z] rfl
    hrow1 (fun u hu => by rw [List.mem_singleton.1 hu]; rfl) (by rw [List.length_map]; omega) (by simp; omega)
  refine wpList_plain hg fun K' hK => ?_
  unfold Oper.wp execOp
  simp only [ho, resolve, invoke, builtin, Sem.run_bind, Sem.run_pure, Result.andThen_ok, List.map_toArray, List.map_cons, List.map_nil, hs, hx, hrun]
  refine hK _ _ (K v' w' (by simpa [OwnInts] using h2) ⟨h3.os, h3.tape, h3.output, ?_, fun k hk hne => ?_⟩)
  · have := h3.size; simp at this; omega
  · rw [h3.block k (by simp; omega) (fun e => hne e.symm)]; exact heap_alloc_old wr _ hk

set_option maxRecDepth 100000 in
theorem nadd_any (p b k : Nat) (T : Nat → Option Vec) (a : Option Addr) (n cap : Nat) (zs : List Int) (w : World) (h : TabAt w p b k T) (hz : IntsAt w a n cap zs) (hk : k ≤ 16) (hT : TI 0 k T) (hv : bitsN zs < 2 ^ k) (hz2 : ∀ z ∈ zs, 0 ≤ z ∧ z < 16) :
    Calls Tryz.prog 61 #[.pointer (some ⟨p, 0, none⟩), .slice a n cap] w fun e w' => e = .returned (.bool (rsT k T (bitsN zs, []))) ∧ TabAt w' p b k (addT k T (bitsN zs, [])) ∧ Fr (fun j => j = b) w w' := by
  have h1 := bits_any a n cap zs w hz hz2
  have h2 := tadd_any p b k 0 T (bitsN zs, []) w h hk hT hv rfl (by omega)
  obtain ⟨B, hB⟩ : ∃ B, B = bitsN zs := ⟨_, rfl⟩
  rw [← hB] at h1 h2 ⊢
  have h3 : Calls Tryz.prog 51 #[.pointer (some ⟨p, 0, none⟩), .agg #[.int .u64 B, .string { data := #[] }]] w fun e w' => e = .returned (.tuple #[.bool (rsT k T (B, [])), .bool (mayT k T (B, []))]) ∧ TabAt w' p b k (addT k T (B, [])) ∧ Fr (fun j => j = b) w w' := h2
  obtain ⟨r1, hr1⟩ : ∃ r, r = rsT k T (B, []) := ⟨_, rfl⟩
  obtain ⟨r2, hr2⟩ : ∃ r, r = mayT k T (B, []) := ⟨_, rfl⟩
  rw [← hr1, ← hr2] at h3
  rw [← hr1]
  have H1 := Lib.hid h1; have H3 := Lib.hid h3
  clear h hz hT hv hz2 h1 h2 h3 hB hr1 hr2
  go_enter Tryz.func61, Tryz.ntmps61
  go_wp2_with (first
    | (go_at_call 52; refine H1.out.mono ?_; rintro e w' ⟨rfl, rfl⟩)
    | (go_at_call 51; refine H3.out.mono ?_; rintro e w' ⟨rfl, ht, hf⟩))
  go_ret
  exact ⟨rfl, ht, hf⟩

theorem tab_next {k : Nat} {zs : List Int} (j : Nat) (hj : j < zs.length) : addT k (tabT k ((rowsOf k zs).take j)) (rowOf k (zs.getD j 0)) = tabT k ((rowsOf k zs).take (j + 1)) := by
  rw [take_snocV _ j (by rw [rowsOf_len]; exact hj), tabT_snoc, rowsOf_getD k zs j hj]

def rankR (k : Int) (zs : List Int) : Nat := if rdyE k zs = 0 then rk k.toNat (rowsOf k.toNat zs) else 0
set_option maxHeartbeats 2000000 in
set_option maxRecDepth 100000 in
theorem srank_any (k : Int) (a : Option Addr) (n cap : Nat) (zs : List Int) (w : World) (h : IntsAt w a n cap zs) :
    Calls Tryz.prog 30 #[.int .i64 k, .slice a n cap] w fun e w' => e = .returned (.tuple #[.int .i64 (rankR k zs), errv (rdyE k zs)]) ∧ Lat w w' := by
  have hr := ready_any k a n cap zs w h
  by_cases h0 : rdyE k zs = 0
  · obtain ⟨h1, h2, h3, h4⟩ := rdyE_zero h0
    obtain ⟨f, rfl⟩ : ∃ f : Nat, k = f := ⟨k.toNat, by omega⟩
    have hR : rankR f zs = rk f (rowsOf f zs) := by unfold rankR; rw [if_pos h0, Int.toNat_natCast]
    rw [h0, errv_zero rfl] at hr ⊢
    rw [hR]
    have hl := h.len
    have hn60 : n ≤ 60 := by omega
    have hba := rowsOf_bare (k := f) (zs := zs) (by omega) h4
    have hti := fun j => (tab_st (k := f) (by omega) (hba.take j)).ti
    have hfin : rk f (rowsOf f zs) = rnkT (tabT f ((rowsOf f zs).take n)) f := by
      rw [List.take_of_length_le (by rw [rowsOf_len]; omega)]; rfl
    rw [hfin]
    have H := Lib.hid h; have HR := Lib.hid hr; have HZ := Lib.hid h4; have HTI := Lib.hid hti; have HL := Lib.hid hl; have HBA := Lib.hid hba
    have hf1 : 1 ≤ f := by omega
    have hf16 : f ≤ 16 := by omega
    clear h hr h0 h1 h2 h3 h4 hR hl hti hfin hba
    go_enter Tryz.func30, Tryz.ntmps30
    go_wp2_with (first
      | (go_at_call 49; refine HR.out.mono ?_; rintro e w' ⟨rfl, rfl⟩)
      | (go_at_call 50; refine (newTable_any f _).mono ?_; rintro e w1 ⟨⟨p, b, rfl, hp, hb, ht⟩, hb1⟩))
    have HP := Lib.hid hp; have HB := Lib.hid hb
    have hTab0 : TabAt w1 p b f (tabT f ((rowsOf f zs).take 0)) := ht
    have HT0 := Lib.hid hTab0; have HB1 := Lib.hid hb1
    clear hp hb ht hTab0 hb1
    go_loopw [9, 19] (fun _ i wr => ∃ j : Nat, j ≤ n ∧ i = .int .i64 j ∧ Hid (TabAt wr p b f (tabT f ((rowsOf f zs).take j)) ∧ Lat w wr)) (fun _ i _ => n - (intOf i).toNat)
    case atStart => exact ⟨0, Nat.zero_le _, rfl, HT0.out, HB1.out⟩
    case round =>
      obtain ⟨j, hj, rfl, hrel⟩ := hrel
      by_cases hlt : j < n
      · obtain ⟨htab, hlat⟩ := hrel.out
        obtain ⟨ab, ao, rfl, hc⟩ := (H.out.keep hlat).row.at_ (by omega)
        have c1 := hc j hlt
        have hm := HZ.out _ (getD_mem zs j (by rw [HL.out]; exact hlt))
        have hnx := tab_next (k := f) (zs := zs) j (by rw [HL.out]; exact hlt)
        obtain ⟨s, hs⟩ : ∃ s : Nat, zs.getD j 0 = (s : Int) := ⟨(zs.getD j 0).toNat, by omega⟩
        rw [hs] at c1 hm hnx
        have hrow : rowOf f (s : Int) = (bitsN (setZ f s), []) := by unfold rowOf; rw [Int.toNat_natCast]
        rw [hrow] at hnx
        have hs1 : 1 ≤ s := by omega
        have hs2 : s ≤ 10000 := by omega
        have hbl : bitsN (setZ f s) < 2 ^ f := by have := rowOf_lt f (s : Int) hf1 (by omega); rw [hrow] at this; exact this
        have hsz : ∀ z ∈ setZ f s, 0 ≤ z ∧ z < 16 := fun z hz => by have := setZ_lt f s hf1 hs1 z hz; omega
        have HTB := Lib.hid htab; have HLT := Lib.hid hlat; have HNX := Lib.hid hnx; have HBL := Lib.hid hbl; have HSZ := Lib.hid hsz
        clear hrel htab hlat hc hm hs hrow hnx hbl hsz
        go_wp2_with (first
          | (go_at_call 47; refine (dropOf_any f s _ hf1 hf16 hs1 hs2).mono ?_; rintro e w2 ⟨oa, oc, rfl, hoi, hb2⟩)
          | (go_at_call 52; refine (bits_any _ _ _ _ _ hoi HSZ.out).mono ?_; rintro e w' ⟨rfl, rfl⟩)
          | (go_at_call 51; refine (tadd_any p b f 0 _ (bitsN (setZ f s), []) _ (HTB.out.keep hb2) hf16 (HTI.out j) HBL.out rfl (by omega)).mono ?_; rintro e w3 ⟨rfl, ht3, hf3⟩))
        have hl3 : Lat w w3 := hf3.lat_of (Lat.trans HLT.out hb2) (fun i e => by rw [e]; exact HB.out)
        rw [HNX.out] at ht3
        have HT3 := Lib.hid ht3; have HL3 := Lib.hid hl3
        clear ht3 hf3 hl3 hoi hb2
        go_roundw
        case rel => exact ⟨j + 1, by omega, by go_num, HT3.out, HL3.out⟩
        case measure => simp [intOf]; omega
      · obtain rfl : j = n := by omega
        obtain ⟨htab, hlat⟩ := hrel.out
        have HTB := Lib.hid htab; have HLT := Lib.hid hlat
        clear hrel htab hlat
        go_wp2_with (go_at_call 53; refine (rank_tab p b f _ _ HTB.out).mono ?_; rintro e w' ⟨rfl, rfl⟩)
        go_ret2
        exact ⟨rfl, HLT.out⟩
  · have hR : rankR k zs = 0 := by unfold rankR; rw [if_neg h0]
    rw [hR]
    rw [errv_pos h0] at hr ⊢
    have HR := Lib.hid hr
    clear h hr h0 hR
    go_enter Tryz.func30, Tryz.ntmps30
    go_wp2_with (go_at_call 49; refine HR.out.mono ?_; rintro e w' ⟨rfl, rfl⟩)
    go_ret2
    exact ⟨rfl, Lat.refl _⟩
end Go.Proofs.YtcpookgbneoilaaGreatDoor

namespace Go.Proofs.YtcpookgbneoilaaGreatDoor
open Go.ChangeShapes Go.WideShapes Go.ChangeAt Go.RowKit

theorem OwnR.row {w : World} {B : Nat} {e : TypeId} {size g n cap : Nat} {xs : List (List Value)} (h : OwnR w B e size (.slice (some ⟨g, 0, none⟩) n cap) xs) {j : Nat} {r : List Value} (hr : xs[j]? = some r) : w.rangeAt g (j * size) r := fun i u hu => by
  have := World.ownsRow.cells h.2 (g := g) rfl (j * size + i) u (flat_get h.1 hr hu)
  rw [Addr.add_lit, Nat.zero_add] at this
  exact this
theorem OwnR.len {w : World} {B : Nat} {e : TypeId} {size n cap : Nat} {a : Option Addr} {xs : List (List Value)} (h : OwnR w B e size (.slice a n cap) xs) : xs.length = n := by
  rcases h.2.2 with ⟨h1, h2⟩ | ⟨g, c, cur, h1, _⟩
  · cases h1; exact h2
  · cases h1; rfl
theorem OwnR.there {w : World} {B : Nat} {e : TypeId} {size g n cap : Nat} {xs : List (List Value)} (h : OwnR w B e size (.slice (some ⟨g, 0, none⟩) n cap) xs) {j : Nat} {r : List Value} (hr : xs[j]? = some r) : w.there g (j * size) size := fun i hi => by
  have hl := h.1 r (List.mem_of_getElem? hr)
  refine ⟨by rw [h.row hr i _ (List.getElem?_eq_getElem (by omega))]; rfl, ?_⟩
  rcases h.2.2 with ⟨h1, _⟩ | ⟨g', c, cur, h1, _, hh, _⟩
  · cases h1
  · cases h1; exact frozen_of_row w g _ cur _ hh
theorem OwnR.put {w : World} {B : Nat} {e : TypeId} {size g n cap : Nat} {xs : List (List Value)} (h : OwnR w B e size (.slice (some ⟨g, 0, none⟩) n cap) xs) {j : Nat} (hj : j < xs.length) {r : List Value} (hr : r.length = size) (h1 : ∀ u ∈ r, u.oneCell' = true) :
    OwnR (w.setCells g (j * size) r) B e size (.slice (some ⟨g, 0, none⟩) n cap) (xs.set j r) := by
  have hlen := h.len
  obtain ⟨hs, h0⟩ := h
  have h00 := h0
  obtain ⟨hfl, hor⟩ := h0
  have hn : xs.flatten.length = xs.length * size := flat_len hs
  have hjs : j * size + size ≤ xs.length * size := by rw [← Nat.succ_mul]; exact Nat.mul_le_mul_right size hj
  have hfset : (xs.set j r).flatten = xs.flatten.take (j * size) ++ r ++ xs.flatten.drop (j * size + size) := by
    rw [List.set_eq_take_append_cons_drop, if_pos hj, List.flatten_append, List.flatten_cons, flat_take j hs, flat_drop (j + 1) hs, Nat.succ_mul, List.append_assoc]
  refine ⟨fun x hx => ?_, ?_⟩
  · rcases List.mem_or_eq_of_mem_set hx with hx | rfl
    · exact hs x hx
    · exact hr
  · rcases hor with ⟨h2, _⟩ | ⟨g', c, cur, hv, hg, hh, hnc, hcm, hcs, htk⟩
    · cases h2
    · cases hv
      have hxc : xs.length * size ≤ cap * size := Nat.mul_le_mul_right size hnc
      obtain ⟨cs', k1, k2⟩ := heap_setCells g e r (j * size) w cur hh (by rw [hr, hcs]; omega)
      have hcl : cur.toList.length = cap * size := (Array.length_toList (xs := cur)).trans hcs
      have e1 : cur.toList.take (j * size) = xs.flatten.take (j * size) := by
        rw [← htk, List.take_take, Nat.min_eq_left (by omega)]
      have hsz : cs'.size = cap * size := by
        have e2 : cs'.toList.length = cs'.size := Array.length_toList
        rw [← e2, k2, List.length_append, List.length_append, List.length_take, List.length_drop, hcl, hr]
        omega
      refine ⟨by rw [hfset, List.length_append, List.length_append, List.length_take, List.length_drop, hn, hr, List.length_set]; omega, .inr ⟨g, cap, cs', by rw [List.length_set], hg, k1, by rw [List.length_set]; exact hnc, hcm, hsz, ?_⟩⟩
      rw [List.length_set, hfset, k2, e1, hr]
      have hA : (xs.flatten.take (j * size) ++ r).length = j * size + size := by rw [List.length_append, List.length_take, hn, hr]; omega
      rw [List.take_append, List.take_of_length_le (by rw [hA]; exact hjs), hA]
      congr 1
      rw [← htk, List.drop_take]
def OwnL (w : World) (B : Nat) (v : Value) (A : List Vec) : Prop := OwnR w B 76 17 v (A.map lineC)
theorem rowG_get {A : List Vec} {j : Nat} (hj : j < A.length) : (A.map lineC)[j]? = some (lineC (rowG A j)) := by
  unfold rowG
  rw [List.getElem?_map, List.getD_eq_getElem?_getD, List.getElem?_eq_getElem hj]; rfl
theorem OwnL.len {w : World} {B n cap : Nat} {a : Option Addr} {A : List Vec} (h : OwnL w B (.slice a n cap) A) : A.length = n := by
  have := OwnR.len h
  rwa [List.length_map] at this
theorem OwnL.form {w : World} {B : Nat} {v : Value} {A : List Vec} {n : Nat} (h : OwnL w B v A) (hn : A.length = n) : ∃ a cap, v = .slice a n cap ∧ (n ≠ 0 → ∃ g, a = some ⟨g, 0, none⟩ ∧ B ≤ g ∧ g < w.heap.size) ∧ n ≤ cap ∧ cap ≤ maxLen := by
  subst hn
  have hlt := h.lt
  rcases h.2.2 with ⟨h1, h2⟩ | ⟨g, c, cur, h1, hg, hh, hnc, hcm, _⟩
  · rw [List.length_map] at h2
    refine ⟨none, 0, by rw [h1, h2], fun hne => absurd h2 hne, by omega, Nat.zero_le _⟩
  · rw [List.length_map] at h1 hnc
    refine ⟨_, c, h1, fun _ => ⟨g, rfl, hg, ?_⟩, hnc, hcm⟩
    exact (hlt g (by rw [h1]; rfl)).2
theorem OwnL.keep {w w' : World} {B : Nat} {v : Value} {A : List Vec} (h : OwnL w B v A) (hb : Lat w w') : OwnL w' B v A := OwnR.keep h hb
section
variable {w : World} {B g n cap : Nat} {A : List Vec} (h : OwnL w B (.slice (some ⟨g, 0, none⟩) n cap) A)
include h
theorem OwnL.row {j : Nat} (hj : j < n) : w.rangeAt g (j * 17) (lineC (rowG A j)) := OwnR.row h (rowG_get (by rw [h.len]; exact hj))
theorem OwnL.there {j : Nat} (hj : j < n) : w.there g (j * 17) 17 := OwnR.there h (rowG_get (by rw [h.len]; exact hj))
theorem OwnL.bit {j b : Nat} (hj : j < n) (hb : b < 16) : w.cell? ⟨g, j * 17 + b, none⟩ = some (.bool ((rowG A j).1.testBit b)) := by
  have := h.row hj b (lineF (rowG A j) b) (lineC_get _ (by omega))
  rw [this]; unfold lineF; rw [if_pos hb]
theorem OwnL.data {j : Nat} (hj : j < n) : w.cell? ⟨g, j * 17 + 16, none⟩ = some (.string (S (rowG A j).2)) := by
  have := h.row hj 16 (lineF (rowG A j) 16) (lineC_get _ (by omega))
  rw [this]; unfold lineF; rw [if_neg (by omega)]
theorem OwnL.put {j : Nat} (hj : j < n) (x : Vec) : OwnL (w.setCells g (j * 17) (lineC x)) B (.slice (some ⟨g, 0, none⟩) n cap) (A.set j x) := by
  have := OwnR.put h (j := j) (by rw [List.length_map, h.len]; exact hj) (lineC_len x) (lineC_one x)
  unfold OwnL
  rw [List.map_set]
  exact this
theorem OwnL.lat_put {w0 : World} (h0 : Lat w0 w) (hB : w0.heap.size ≤ B) (j : Nat) (x : Vec) : Lat w0 (w.setCells g (j * 17) (lineC x)) := by
  have hg : B ≤ g := (h.lt g rfl).1
  exact (Fr.setCells g (lineC x) (j * 17) w).lat_of h0 (fun k e => by rw [e]; omega)
end
theorem OwnL.nil (w : World) (B : Nat) : OwnL w B (.slice none 0 0) [] := OwnR.nil w B _ _
theorem line_info : (Tryz.prog.info? 76).map (fun i => (i.zero, i.size, i.bytes)) = some (some (lineV (0, [])), 17, 32) := by kernel_rfl
def LinesAt (w : World) (a : Option Addr) (n cap : Nat) (A : List Vec) : Prop := RowsAt w 17 a n cap (A.map lineC)
theorem LinesAt.len {w : World} {a : Option Addr} {n cap : Nat} {A : List Vec} (h : LinesAt w a n cap A) : A.length = n := by have := RowsAt.len h; rwa [List.length_map] at this
theorem LinesAt.keep {w w' : World} {a : Option Addr} {n cap : Nat} {A : List Vec} (h : LinesAt w a n cap A) (hb : Lat w w') : LinesAt w' a n cap A := RowsAt.keep h hb
theorem OwnL.shown {w : World} {B : Nat} {a : Option Addr} {n cap : Nat} {A : List Vec} (h : OwnL w B (.slice a n cap) A) : LinesAt w a n cap A := by
  obtain ⟨a', c', e, h2⟩ := OwnR.slice h (n := n) (by rw [List.length_map]; exact h.len)
  cases e
  exact h2
theorem LinesAt.at_ {w : World} {a : Option Addr} {n cap : Nat} {A : List Vec} (h : LinesAt w a n cap A) (hn : n ≠ 0) : ∃ b o, a = some ⟨b, o, none⟩ ∧ ∀ j, j < n → w.rangeAt b (o + j * 17) (lineC (rowG A j)) := by
  obtain ⟨b, o, ha, hc⟩ := RowsAt.at_ h hn
  refine ⟨b, o, ha, fun j hj i u hu => ?_⟩
  rw [Nat.add_assoc]
  exact (hc j _ (rowG_get (by rw [h.len]; exact hj))).2 i u hu
theorem line_yields {ops : Array Oper} {S : World → Prop} {op : Oper} {a : Act} (hw : Region.wanted op (yielded ops a.tmps) = true) (x : Operand) (ho : op.op = .load 76 x)
    (b o : Nat) (hx : a.eval x = .pointer (some ⟨b, o, none⟩)) (v : Vec) (hS : ∀ w, S w → w.rangeAt b o (lineC v)) : YieldsIf Tryz.prog ops S op (lineV v) a := by
  obtain ⟨d, hu, hd⟩ := line_u
  exact yieldsIf_load_mid hw _ x ho b o hx _ d hS hu hd (line_i v)
theorem line_store {op : Oper} {a : Act} {w : World} {K : Act → World → Prop} {Q : Exit → Act → World → Prop} (x y : Operand) (ho : op.op = .store 76 x y)
    (b o : Nat) (v : Vec) (hx : a.eval x = .pointer (some ⟨b, o, none⟩)) (hy : a.eval y = lineV v) (ht : w.there b o 17) (h : K (a.put op.dst undef) (w.setCells b o (lineC v))) : op.wp Tryz.prog a w K Q :=
  wp_store_mid _ x y ho b o (lineC v).toArray hx hy (by rw [List.size_toArray, lineC_len]; exact ht) (by rw [List.size_toArray]; exact line_i v) (all_oneCell_toArray (lineC_one v)) (by simpa using h)
theorem range_keep {w w' : World} {b o : Nat} {cs : List Value} (h : w.rangeAt b o cs) (hb : Lat w w') : w'.rangeAt b o cs := fun j v hv => hb.cell_at (h j v hv)
theorem there_keep {w w' : World} {b o n : Nat} (h : w.there b o n) (hb : Lat w w') : w'.there b o n := fun j hj => by
  obtain ⟨h1, h2⟩ := h j hj
  obtain ⟨u, hu⟩ := Option.isSome_iff_exists.1 h1
  exact ⟨by rw [hb.cell_at hu]; rfl, hb.free_at (World.block_lt_of_cell? w _ hu) h2⟩
theorem OwnL.other {w : World} {B g n cap : Nat} {A : List Vec} (h : OwnL w B (.slice (some ⟨g, 0, none⟩) n cap) A) {x : Nat} (hx : x ≠ g) (o : Nat) (cs : List Value) : OwnL (w.setCells x o cs) B (.slice (some ⟨g, 0, none⟩) n cap) A :=
  OwnR.fr h (Fr.setCells x cs o w) (fun k hk e => by cases hk; exact hx e.symm)
theorem zline_there (w : World) (t : TypeId) : (w.alloc (.cells (lineC (0, [])).toArray t)).there w.heap.size 0 17 := (blk_line w (0, []) t).there
def SwW (w : World) (t : TypeId) (A : List Vec) (g c p : Nat) : World :=
  (((w.alloc (.cells (lineC (0, [])).toArray t)).setCells w.heap.size 0 (lineC (rowG A p))).setCells g (p * 17) (lineC (rowG A c))).setCells g (c * 17) (lineC (rowG A p))
structure SwOk (w0 w : World) (B g n cap c p x : Nat) (A : List Vec) (W : World) : Prop where
  lat : Lat w0 W
  own : OwnL W B (.slice (some ⟨g, 0, none⟩) n cap) (swp A c p)
  x : W.rangeAt x 0 (lineC (rowG A p))
theorem sw_ok {w0 w : World} {B g n cap c p : Nat} {A : List Vec} (h : OwnL w B (.slice (some ⟨g, 0, none⟩) n cap) A) (h0 : Lat w0 w) (hB : w0.heap.size ≤ B) (hc : c < n) (hp : p < n) (t : TypeId) : SwOk w0 w B g n cap c p w.heap.size A (SwW w t A g c p) := by
  have hgl : g < w.heap.size := (h.lt g rfl).2
  have h1 := h.keep (Lat.alloc w (.cells (lineC (0, [])).toArray t))
  have h2 := h1.other (x := w.heap.size) (by omega) 0 (lineC (rowG A p))
  have l2 : Lat w0 ((w.alloc (.cells (lineC (0, [])).toArray t)).setCells w.heap.size 0 (lineC (rowG A p))) := (Fr.setCells _ _ _ _).lat_of (h0.trans (Lat.alloc _ _)) (fun k e => by rw [e]; exact h0.size)
  have x2 := World.rangeAt_setCells_same (w.alloc (.cells (lineC (0, [])).toArray t)) w.heap.size 0 (lineC (rowG A p)) (by rw [lineC_len]; exact zline_there w t)
  have h3 := h2.put hp (rowG A c)
  have h4 := h3.put hc (rowG A p)
  refine ⟨h3.lat_put (h2.lat_put l2 hB _ _) hB _ _, h4, ?_⟩
  exact World.rangeAt_setCells_apart (World.rangeAt_setCells_apart x2 _ _ _ (.inl (by omega))) _ _ _ (.inl (by omega))
end Go.Proofs.YtcpookgbneoilaaGreatDoor

namespace Go.Proofs.YtcpookgbneoilaaGreatDoor
open Go.ChangeShapes Go.WideShapes Go.ChangeAt Go.RowKit

def atI (o : Option Nat) : Int := match o with
  | none => -1
  | some p => (p : Int)
theorem pick_succ (A : List Vec) (us : Nat → Bool) (b f i : Nat) : pick A us b (f + 1) i = if (rowG A i).1.testBit b = true ∧ us i = false then some i else pick A us b f (i + 1) := rfl
theorem line_z : (lineV (0, [])).cells.size = 17 := by show (lineC (0, [])).toArray.size = 17; rw [List.size_toArray, lineC_len]
theorem ones_lines (A : List Vec) : ∀ r ∈ A.map lineC, ∀ u ∈ r, u.oneCell' = true := fun r hr => by
  obtain ⟨v, _, rfl⟩ := List.mem_map.1 hr
  exact lineC_one v

set_option maxHeartbeats 4000000 in
set_option maxRecDepth 100000 in
theorem refRk (a : Option Addr) (n cap k m : Nat) (L : List Vec) (w : World) (h : LinesAt w a n cap L) (hL : Ln m 16 L) (hn : n ≤ 1000) (hk : k ≤ 16) (hm : m ≤ 1000) :
    Calls Tryz.prog 37 #[.slice a n cap, .int .i64 k] w fun e w' => e = .returned (.int .i64 ((rkF L k).2 : Nat)) ∧ Lat w w' := by
  have hlen := h.len
  have HH := Lib.hid h; have HL := Lib.hid hL; have HLEN := Lib.hid hlen
  clear h hL hlen
  go_enter Tryz.func37, Tryz.ntmps37
  go_wp2_with (at_builtin; go_loud (refine wpList_appRM w w.heap.size rfl (.tmp 12) (.tmp 13) 74 rfl 76 (lineV (0, [])) 17 32 Tryz.underlying74 line_info line_z (by decide) (by decide) (.slice none 0 0) [] rfl (OwnR.nil w _ _ _) a n cap (L.map lineC) rfl HH.out (ones_lines L) (by simp; omega) (Nat.le_refl _) ?_); intro v1 w1 hown hfr hloc)
  rw [List.nil_append] at hown
  obtain ⟨aa, cc, rfl, hform, hnc, hcm⟩ := OwnL.form hown HLEN.out
  have hl1 : Lat w w1 := hfr.lat_of (Lat.refl w) (fun k e => by cases e)
  have HO := Lib.hid (show OwnL w1 w.heap.size (.slice aa n cc) L from hown); have HL1 := Lib.hid hl1; have HF := Lib.hid hform
  clear hown hfr hloc hl1 hform
  have hrk : ∀ b, b ≤ 16 → ∃ T, Rk m 16 L (rkF L b).1 T (rkF L b).2 b := fun b hb => rkF_rk HL.out b hb
  have HRK := Lib.hid hrk
  clear hrk
  go_wp2_with fail
  go_loopg [6, 7] k (fun f nv bv wr => ∃ b : Nat, b + f = k ∧ nv = .int .i64 ((rkF L b).2 : Nat) ∧ bv = .int .i64 b ∧ Hid (Lat w wr ∧ OwnL wr w.heap.size (.slice aa n cc) (rkF L b).1))
  case atStart => exact ⟨0, by omega, rfl, rfl, HL1.out, HO.out⟩
  case round =>
    clear HO HL1
    obtain ⟨b, hb, rfl, rfl, hrel⟩ := hrel
    by_cases hlt : b < k
    · obtain ⟨f, rfl⟩ : ∃ f, gk = f + 1 := ⟨gk - 1, by omega⟩
      have db : decide (b < k) = true := decide_eq_true hlt
      obtain ⟨T, hT⟩ := HRK.out b (by omega)
      have hAl : (rkF L b).1.length = n := hT.len.trans HLEN.out
      have hle := hT.le
      have hwf := hT.ln
      have hsk := fun h => (rkF_none (L := L) (b := b) h).trans (Prod.ext rfl rfl : rkF L b = ((rkF L b).1, (rkF L b).2))
      have htk := fun p h => rkF_some (L := L) (b := b) (p := p) h
      obtain ⟨A, hA⟩ : ∃ A, A = (rkF L b).1 := ⟨_, rfl⟩
      obtain ⟨c, hc⟩ : ∃ c, c = (rkF L b).2 := ⟨_, rfl⟩
      rw [← hA] at hrel
      rw [← hA, ← hc] at hsk htk
      rw [← hA] at hAl hle hwf
      rw [← hc] at hle ⊢
      rw [hAl] at hle hsk htk
      obtain ⟨pk, hpk⟩ : ∃ pk, pk = pick A noUse b (n - c) c := ⟨_, rfl⟩
      rw [← hpk] at hsk htk
      have HAL := Lib.hid hAl; have HWF := Lib.hid hwf; have HSK := Lib.hid hsk; have HTK := Lib.hid htk; have HPK := Lib.hid hpk; have HREL := Lib.hid hrel.out
      have hb16 : b < 16 := by omega
      clear hT hAl hwf hsk htk hpk hrel hA hc
      go_upto_block 2 with fail
      go_cut [8, 9] from 21 to 38 (fun av _ wx => av = .int .i64 (atI pk) ∧ wr = wx)
      case first =>
        go_wp2_with fail
        go_loopg [8, 9] (n - c) (fun f av iv wx => ∃ i : Nat, i + f = n ∧ c ≤ i ∧ iv = .int .i64 i ∧ wr = wx ∧ ((av = .int .i64 (-1) ∧ Hid (pick A noUse b (n - i) i = pk)) ∨ ∃ p : Nat, av = .int .i64 p ∧ Hid (pk = some p)))
        case atStart => exact ⟨c, by omega, Nat.le_refl _, rfl, rfl, .inl ⟨rfl, HPK.out.symm⟩⟩
        case round =>
          obtain ⟨i, hi, hci, rfl, rfl, hav⟩ := hrel
          rcases hav with ⟨rfl, hpi⟩ | ⟨p, rfl, hpp⟩
          · by_cases hin : i < n
            · obtain ⟨f, rfl⟩ : ∃ f, gk = f + 1 := ⟨gk - 1, by omega⟩
              have di : decide (i < n) = true := decide_eq_true hin
              obtain ⟨g, rfl, hg1, hg2⟩ := HF.out (by omega)
              have cb := HREL.out.2.bit hin hb16
              have i0 : (0 : Int) ≤ (i : Int) := by omega
              have i1 : (i : Int) < (n : Int) := by omega
              have b0 : (0 : Int) ≤ (b : Int) := by omega
              have b1 : (b : Int) < 16 := by omega
              have hp2 := hpi.out
              rw [show n - i = (n - (i + 1)) + 1 by omega, pick_succ] at hp2
              obtain ⟨T, hT⟩ : ∃ T, T = (rowG A i).1.testBit b := ⟨_, rfl⟩
              rw [← hT] at cb hp2
              clear hpi hT
              cases T with
              | true =>
                rw [if_pos ⟨rfl, rfl⟩] at hp2
                have HP2 := Lib.hid hp2.symm
                clear hp2
                go_wp2_with fail
                go_roundg f
                case measure => omega
                case rel => exact ⟨i + 1, by omega, by omega, by go_num, rfl, .inr ⟨i, rfl, HP2.out⟩⟩
              | false =>
                rw [if_neg (fun e => Bool.noConfusion e.1)] at hp2
                have HP2 := Lib.hid hp2
                clear hp2
                go_wp2_with fail
                go_roundg f
                case measure => omega
                case rel => exact ⟨i + 1, by omega, by omega, by go_num, rfl, .inl ⟨rfl, HP2.out⟩⟩
            · obtain rfl : i = n := by omega
              have di : decide (i < i) = false := decide_eq_false (by omega)
              have hp2 := hpi.out
              rw [Nat.sub_self] at hp2
              have HP2 := Lib.hid hp2
              clear hpi hp2
              go_wp2_with fail
              go_meet
              exact ⟨by rw [← HP2.out]; rfl, rfl⟩
          · have dp : decide ((p : Int) < 0) = false := decide_eq_false (by omega)
            have HPP := Lib.hid hpp.out
            clear hpp
            by_cases hin : i < n
            · have di : decide (i < n) = true := decide_eq_true hin
              go_wp2_with fail
              go_meet
              exact ⟨by rw [HPP.out]; rfl, rfl⟩
            · have di : decide (i < n) = false := decide_eq_false hin
              go_wp2_with fail
              go_meet
              exact ⟨by rw [HPP.out]; rfl, rfl⟩
      case rest =>
        obtain ⟨rfl, rfl⟩ := hcut
        cases pk with
        | none =>
          have HNX := Lib.hid (HSK.out rfl)
          clear HSK HTK HPK
          rw [show atI none = -1 from rfl]
          go_wp2_with fail
          go_roundg f
          case measure => omega
          case rel => exact ⟨b + 1, by omega, by rw [HNX.out], by go_num, by rw [HNX.out]; exact HREL.out⟩
        | some p =>
          obtain ⟨hcp, hpn, _, _⟩ := pick_some HPK.out.symm
          have hpn : p < n := by omega
          have hcn : c < n := by omega
          have HNX := Lib.hid (HTK.out p rfl)
          obtain ⟨g, rfl, hg1, hg2⟩ := HF.out (by omega)
          have HG := Lib.hid (And.intro hg1 hg2)
          have hgx : g < wr.heap.size := (HREL.out.2.lt g rfl).2
          have HGX := Lib.hid hgx
          have dp : decide ((p : Int) < 0) = false := decide_eq_false (by omega)
          have p0 : (0 : Int) ≤ (p : Int) := by omega
          have p1 : (p : Int) < (n : Int) := by omega
          have c0 : (0 : Int) ≤ (c : Int) := by omega
          have c1 : (c : Int) < (n : Int) := by omega
          clear HSK HTK HPK hg1 hg2 hgx
          rw [show atI (some p) = (p : Int) from rfl]
          have hzt := zline_there wr 76
          obtain ⟨W2, hW2⟩ : ∃ W, W = (wr.alloc (.cells (lineC (0, [])).toArray 76)).setCells wr.heap.size 0 (lineC (rowG A p)) := ⟨_, rfl⟩
          have hgx := HGX.out
          have hx2 := World.rangeAt_setCells_same (wr.alloc (.cells (lineC (0, [])).toArray 76)) wr.heap.size 0 (lineC (rowG A p)) (by rw [lineC_len]; exact hzt)
          have ho2 := (HREL.out.2.keep (Lat.alloc wr (.cells (lineC (0, [])).toArray 76))).other (x := wr.heap.size) (by omega) 0 (lineC (rowG A p))
          have hl2 : Lat w W2 := by
            rw [hW2]
            exact (Fr.setCells _ _ _ _).lat_of (HREL.out.1.trans (Lat.alloc _ _)) (fun k e => by rw [e]; exact HREL.out.1.size)
          rw [← hW2] at hx2 ho2
          obtain ⟨W3, hW3⟩ : ∃ W, W = W2.setCells g (p * 17) (lineC (rowG A c)) := ⟨_, rfl⟩
          have ho3 := ho2.put hpn (rowG A c)
          have hl3 := ho2.lat_put hl2 (Nat.le_refl _) p (rowG A c)
          have hx3 := World.rangeAt_setCells_apart hx2 g (p * 17) (lineC (rowG A c)) (.inl (by omega))
          rw [← hW3] at ho3 hl3 hx3
          obtain ⟨W4, hW4⟩ : ∃ W, W = W3.setCells g (c * 17) (lineC (rowG A p)) := ⟨_, rfl⟩
          have ho4 : OwnL (W3.setCells g (c * 17) (lineC (rowG A p))) w.heap.size (.slice (some ⟨g, 0, none⟩) n cc) (swp A c p) := ho3.put hcn (rowG A p)
          have hl4 := ho3.lat_put hl3 (Nat.le_refl _) c (rowG A p)
          have hx4 := World.rangeAt_setCells_apart hx3 g (c * 17) (lineC (rowG A p)) (.inl (by omega))
          rw [← hW4] at ho4 hl4 hx4
          rw [zero_cells] at hW2 hzt
          have HZT := Lib.hid hzt; have HX2 := Lib.hid hx2; have HO2 := Lib.hid ho2; have HO3 := Lib.hid ho3; have HX3 := Lib.hid hx3
          have HO4 := Lib.hid ho4; have HL4 := Lib.hid hl4; have HX4 := Lib.hid hx4; have HW2 := Lib.hid hW2; have HW3 := Lib.hid hW3; have HW4 := Lib.hid hW4
          clear hzt hx2 ho2 ho3 hx3 ho4 hl4 hx4 hl3 hl2 hW2 hW3 hW4 hgx
          go_upto_region 14 with fail
          refine wp_region_lit ?_
          go_upto_region 15 with (first
            | refine at_load rfl (.tmp 43) rfl g (p * 17) rfl (rowG A p) (HREL.out.2.row hpn) ?_
            | refine at_store rfl (.tmp 10) (.tmp 44) rfl wr.heap.size 0 (rowG A p) rfl rfl HZT.out ?_)
          rw [← HW2.out]
          go_upto_region 16 with (first
            | refine at_load rfl (.tmp 49) rfl g (c * 17) rfl (rowG A c) (HO2.out.row hcn) ?_
            | refine at_store rfl (.tmp 51) (.tmp 50) rfl g (p * 17) (rowG A c) rfl rfl (HO2.out.there hpn) ?_)
          rw [← HW3.out]
          go_upto_region 17 with (first
            | refine at_load rfl (.tmp 10) rfl wr.heap.size 0 rfl (rowG A p) HX3.out ?_
            | refine at_store rfl (.tmp 55) (.tmp 54) rfl g (c * 17) (rowG A p) rfl rfl (HO3.out.there hcn) ?_)
          rw [← HW4.out]
          clear HW2 HW3 HW4 HX2 HX3 HO2 HO3 HZT HREL
          obtain ⟨B, hB⟩ : ∃ B, B = swp A c p := ⟨_, rfl⟩
          have hBl : B.length = n := by rw [hB, swp_len]; exact HAL.out
          have hBw : Ln m 16 B := by
            rw [hB]
            exact fun u hu => HWF.out u ((swp_mem (by rw [HAL.out]; exact hcn) (by rw [HAL.out]; exact hpn) u).1 hu)
          have hBc : rowG B c = rowG A p := by
            rw [hB, swp_row (by rw [HAL.out]; exact hcn) (by rw [HAL.out]; exact hpn), if_pos rfl]
          rw [← hB] at HO4 HNX
          rw [← hBc] at HX4
          have HBL := Lib.hid hBl; have HBW := Lib.hid hBw
          clear hB hBl hBw hBc HAL HWF
          obtain ⟨X, hX⟩ : ∃ X, X = wr.heap.size := ⟨_, rfl⟩
          have hXg : X ≠ g := by have := HGX.out; omega
          rw [← hX] at HX4 ⊢
          have HXG := Lib.hid hXg; have HC1 := Lib.hid hcn
          clear hX HGX hXg hcn hpn
          go_wp2_with fail
          go_loopg [11] (n - (c + 1)) (fun f iv wx => ∃ i : Nat, i + f = n ∧ c + 1 ≤ i ∧ iv = .int .i64 i ∧ Hid (Lat w wx ∧ OwnL wx w.heap.size (.slice (some ⟨g, 0, none⟩) n cc) (clrTo B c b (c + 1) i) ∧ wx.rangeAt X 0 (lineC (rowG B c))))
          case atStart => exact ⟨c + 1, by have := HC1.out; omega, Nat.le_refl _, by go_num, HL4.out, by rw [clrTo_zero _ _ (Nat.le_refl _)]; exact HO4.out, HX4.out⟩
          case round =>
            clear HO4 HL4 HX4
            obtain ⟨i, hi, hci, rfl, hrel⟩ := hrel
            by_cases hin : i < n
            · obtain ⟨f, rfl⟩ : ∃ f, gk = f + 1 := ⟨gk - 1, by omega⟩
              have di : decide (i < n) = true := decide_eq_true hin
              have hrow : rowG (clrTo B c b (c + 1) i) i = rowG B i := by rw [clrTo_row _ _ _ _ (by rw [HBL.out]; exact hin), if_neg (by omega)]
              have cb := hrel.out.2.1.bit hin hb16
              have hr := hrel.out.2.1.row hin
              rw [hrow] at cb hr
              have i0 : (0 : Int) ≤ (i : Int) := by omega
              have i1 : (i : Int) < (n : Int) := by omega
              have b0 : (0 : Int) ≤ (b : Int) := by omega
              have b1 : (b : Int) < 16 := by omega
              have hcs := clrTo_succ (A := B) (p := c) (b := b) (s := c + 1) (j := i) hci (by rw [HBL.out]; exact hin)
              obtain ⟨T, hT⟩ : ∃ T, T = (rowG B i).1.testBit b := ⟨_, rfl⟩
              rw [← hT] at cb hcs
              cases T with
              | true =>
                rw [if_pos ⟨by omega, rfl⟩] at hcs
                have hov := fun W => refOver (rowG B i) (rowG B c) W (by rw [(HBW.out.row (by rw [HBL.out]; exact hin)).1, (HBW.out.row (by rw [HBL.out]; exact HC1.out)).1]) (by rw [(HBW.out.row (by rw [HBL.out]; exact hin)).1]; omega)
                have HOV := Lib.hid hov; have HCS := Lib.hid hcs; have HLA := Lib.hid hrel.out.1; have HOA := Lib.hid hrel.out.2.1
                have hG : wr.drew.rangeAt g (i * 17) (lineC (rowG B i)) ∧ wr.drew.rangeAt X 0 (lineC (rowG B c)) := ⟨range_keep hr (Lat.drew _), range_keep hrel.out.2.2 (Lat.drew _)⟩
                clear hrel hr hT hrow hov hcs
                go_wp2_with fail
                refine wp_region_gate (fun _ => True) (fun w' => w'.rangeAt g (i * 17) (lineC (rowG B i)) ∧ w'.rangeAt X 0 (lineC (rowG B c))) 9 (by kernel_rfl) ?_
                refine gate_takeG (i := 0) (v := ?_) rfl (by kernel_rfl) (by kernel_rfl) (by kernel_rfl) (fun _ _ _ h => h) (by decide) (by kernel_rfl) (by kernel_rfl) ⟨trivial, fun _ => hG⟩ (Or.inl ⟨by kernel_rfl, ?_⟩) ?_
                rotate_left
                · intro wq hSw; obtain ⟨-, s0, s1⟩ := hSw; go_simp; rfl
                simp only [Act.put]
                refine gate_takeG (i := 1) (v := ?_) rfl (by kernel_rfl) (by kernel_rfl) (by kernel_rfl) (fun _ _ _ h => h) (by decide) (by kernel_rfl) (by kernel_rfl) ⟨trivial, fun _ => hG⟩ (Or.inl ⟨by kernel_rfl, ?_⟩) ?_
                rotate_left
                · intro wq hSw; obtain ⟨-, s0, s1⟩ := hSw; go_simp; rfl
                simp only [Act.put]
                refine gate_takeG (i := 2) (v := ?_) rfl (by kernel_rfl) (by kernel_rfl) (by kernel_rfl) (fun _ _ _ h => h) (by decide) (by kernel_rfl) (by kernel_rfl) ⟨trivial, fun _ => hG⟩ (Or.inl ⟨by kernel_rfl, ?_⟩) ?_
                rotate_left
                · intro wq hSw; obtain ⟨-, s0, s1⟩ := hSw; go_simp; rfl
                simp only [Act.put]
                refine gate_takeG (i := 3) (v := ?_) rfl (by kernel_rfl) (by kernel_rfl) (by kernel_rfl) (fun _ _ _ h => h) (by decide) (by kernel_rfl) (by kernel_rfl) ⟨trivial, fun _ => hG⟩ (Or.inl ⟨by kernel_rfl, ?_⟩) ?_
                rotate_left
                · intro wq hSw; obtain ⟨-, s0, s1⟩ := hSw; go_simp; rfl
                simp only [Act.put]
                refine gate_takeG (i := 4) (v := ?_) rfl (by kernel_rfl) (by kernel_rfl) (by kernel_rfl) (fun _ _ _ h => h) (by decide) (by kernel_rfl) (by kernel_rfl) ⟨trivial, fun _ => hG⟩ (Or.inl ⟨by kernel_rfl, ?_⟩) ?_
                rotate_left
                · intro wq hSw; obtain ⟨-, s0, s1⟩ := hSw; go_simp; rfl
                simp only [Act.put]
                refine gate_takeG (i := 5) (v := lineV (rowG B i)) rfl (by kernel_rfl) (by kernel_rfl) (by kernel_rfl) (fun _ _ _ h => h) (by decide) (by kernel_rfl) (by kernel_rfl) ⟨trivial, fun _ => hG⟩ (line_yields (by kernel_rfl) (.tmp 75) rfl g (i * 17) rfl (rowG B i) (fun _ h => h.2.1)) ?_
                simp only [Act.put]
                refine gate_takeG (i := 6) (v := lineV (rowG B c)) rfl (by kernel_rfl) (by kernel_rfl) (by kernel_rfl) (fun _ _ _ h => h) (by decide) (by kernel_rfl) (by kernel_rfl) ⟨trivial, fun _ => hG⟩ (line_yields (by kernel_rfl) (.tmp 10) rfl X (0) rfl (rowG B c) (fun _ h => h.2.2)) ?_
                simp only [Act.put]
                refine gate_one (i := 7) (by kernel_rfl) rfl (fun K hK => ?_)
                go_simp
                refine (HOV.out _).mono ?_
                rintro e w5 ⟨rfl, hb5⟩
                have hG' : w5.rangeAt g (i * 17) (lineC (rowG B i)) ∧ w5.rangeAt X 0 (lineC (rowG B c)) := ⟨range_keep hG.1 hb5, range_keep hG.2 hb5⟩
                refine hK _ _ ⟨trivial, fun _ => hG'⟩ ?_
                clear hK K
                have HL5 := Lib.hid (HLA.out.trans ((Lat.drew _).trans hb5)); have HO5 := Lib.hid (HOA.out.keep ((Lat.drew _).trans hb5)); have HX5 := Lib.hid hG'.2
                clear hG hb5
                have hG := hG'
                clear hG'
                refine gate_takeG (i := 8) (v := ?_) rfl (by kernel_rfl) (by kernel_rfl) (by kernel_rfl) (fun _ _ _ h => h) (by decide) (by kernel_rfl) (by kernel_rfl) ⟨trivial, fun _ => hG⟩ (Or.inl ⟨by kernel_rfl, ?_⟩) ?_
                rotate_left
                · intro wq hSw; obtain ⟨-, s0, s1⟩ := hSw; go_simp; rfl
                simp only [Act.put]
                refine gate_one (i := 9) (by kernel_rfl) rfl (fun K hK => ?_)
                rw [if_pos (by kernel_rfl)]
                refine line_store (.tmp 79) (.tmp 78) rfl g (i * 17) (vx (rowG B i) (rowG B c)) rfl rfl (HO5.out.there hin) ?_
                refine hK _ _ (FG.past (by kernel_rfl) trivial) ?_
                clear hK K hG
                refine gate_done (by kernel_rfl) ?_ _
                have hfin : OwnL (w5.setCells g (i * 17) (lineC (vx (rowG B i) (rowG B c)))) w.heap.size (.slice (some ⟨g, 0, none⟩) n cc) (clrTo B c b (c + 1) (i + 1)) := by
                  rw [HCS.out]; exact HO5.out.put hin _
                have hfl := HO5.out.lat_put HL5.out (Nat.le_refl _) i (vx (rowG B i) (rowG B c))
                have hfx := World.rangeAt_setCells_apart HX5.out g (i * 17) (lineC (vx (rowG B i) (rowG B c))) (.inl HXG.out)
                obtain ⟨w6, hw6⟩ : ∃ w6, w6 = w5.setCells g (i * 17) (lineC (vx (rowG B i) (rowG B c))) := ⟨_, rfl⟩
                rw [← hw6] at hfin hfl hfx ⊢
                have HFI := Lib.hid hfin; have HFL := Lib.hid hfl; have HFX := Lib.hid hfx
                clear hfin hfl hfx hw6 HO5 HL5 HX5 HOA HLA HOV
                simp only [List.getElem_toArray, List.getElem_cons_succ, List.getElem_cons_zero]
                go_simp
                go_wp2_with fail
                go_roundg f
                case measure => omega
                case rel => exact ⟨i + 1, by omega, by omega, by go_num, HFL.out, HFI.out, HFX.out⟩
              | false =>
                rw [if_neg (fun e => Bool.noConfusion e.2)] at hcs
                have HCS := Lib.hid hcs; have HR := Lib.hid hrel.out
                clear hrel hr hT hrow hcs
                go_wp2_with fail
                go_roundg f
                case measure => omega
                case rel => exact ⟨i + 1, by omega, by omega, by go_num, HR.out.1, by rw [HCS.out]; exact HR.out.2.1, HR.out.2.2⟩
            · obtain rfl : i = n := by omega
              have di : decide (i < i) = false := decide_eq_false (by omega)
              have HR := Lib.hid hrel.out
              clear hrel
              go_wp2_with fail
              go_roundg f
              case measure => omega
              case rel => exact ⟨b + 1, by omega, by rw [HNX.out]; go_num, by go_num, by rw [HNX.out]; exact ⟨HR.out.1, HR.out.2.1⟩⟩
    · obtain rfl : b = k := by omega
      have db : decide (b < b) = false := decide_eq_false (by omega)
      have HR := Lib.hid hrel.out.1
      clear hrel
      go_wp2_with fail
      go_ret
      exact ⟨rfl, HR.out⟩
end Go.Proofs.YtcpookgbneoilaaGreatDoor

namespace Go.Proofs.YtcpookgbneoilaaGreatDoor
open Go.ChangeShapes Go.WideShapes Go.ChangeAt Go.RowKit

theorem usedB_top {m k b : Nat} {L A : List Vec} {at_ : Nat → Option Nat} (h : Cl m k L A at_ b) (hb : b ≤ 16) : usedB at_ b = usedB at_ 16 := by
  funext i
  cases e : usedB at_ b i with
  | false => exact (usedB_of (usedB_false e fun c j hc => (h.lt c j hc).1)).symm
  | true =>
    unfold usedB at *
    rw [List.any_eq_true] at e
    obtain ⟨c, hc, hd⟩ := e
    exact (List.any_eq_true.2 ⟨c, List.mem_range.2 (by have := List.mem_range.1 hc; omega), hd⟩).symm
theorem usedB_upd {at_ : Nat → Option Nat} {b p : Nat} (hb : b < 16) (hn : at_ b = none) (j : Nat) : usedB (updA at_ b p) 16 j = if j = p then true else usedB at_ 16 j := by
  by_cases e : j = p
  · subst e
    rw [if_pos rfl]
    unfold usedB
    rw [List.any_eq_true]
    exact ⟨b, List.mem_range.2 hb, by unfold updA; rw [if_pos rfl]; simp⟩
  · rw [if_neg e]
    unfold usedB
    refine congrArg (fun f => List.any (List.range 16) f) (funext fun c => ?_)
    unfold updA
    by_cases ec : c = b
    · subst ec
      rw [if_pos rfl, hn]
      have h1 : (some p == some j) = false := by simpa using fun h : p = j => e h.symm
      rw [h1]; rfl
    · rw [if_neg ec]
def arrC (at_ : Nat → Option Nat) : List Value := (List.range 16).map fun j => .int .i64 (atI (at_ j))
theorem arrC_len (at_ : Nat → Option Nat) : (arrC at_).length = 16 := by unfold arrC; rw [List.length_map, List.length_range]
theorem arrC_get (at_ : Nat → Option Nat) {j : Nat} (h : j < 16) : (arrC at_)[j]? = some (.int .i64 (atI (at_ j))) := by
  unfold arrC
  rw [List.getElem?_map, List.getElem?_range h]; rfl
theorem arrC_one (at_ : Nat → Option Nat) : ∀ u ∈ arrC at_, u.oneCell' = true := fun u hu => by
  unfold arrC at hu
  obtain ⟨j, _, rfl⟩ := List.mem_map.1 hu
  rfl
abbrev arrV (at_ : Nat → Option Nat) : Value := .agg (arrC at_).toArray
theorem arr_u : ∃ d, Tryz.prog.underlying 79 = some d ∧ d.isRow = true := ⟨_, Tryz.underlying79, rfl⟩
theorem arr_i (at_ : Nat → Option Nat) : (Tryz.prog.info? 79).map (·.size) = some (arrC at_).length := by rw [arrC_len]; kernel_rfl
theorem Blk.arr {w : World} {g : Nat} {at_ : Nat → Option Nat} (h : Blk w g 16 (fun j => .int .i64 (atI (at_ j)))) : w.rangeAt g 0 (arrC at_) := fun j u hu => by
  have hj : j < 16 := by rw [← arrC_len at_]; exact (List.getElem?_eq_some_iff.1 hu).1
  rw [arrC_get at_ hj] at hu
  injection hu with hu
  rw [Nat.zero_add, ← hu]; exact h.cell j hj
theorem arr_load {w : World} {b o : Nat} {at_ : Nat → Option Nat} (h : w.rangeAt b o (arrC at_)) : (loadVar 79 ⟨b, o, none⟩).run Tryz.prog w = .ok (arrV at_) w := by
  obtain ⟨d, hu, hd⟩ := arr_u
  exact run_loadVar_mid w b o _ _ d h hu hd (arr_i at_)
theorem arr_yields {ops : Array Oper} {S : World → Prop} {op : Oper} {a : Act} (hw : Region.wanted op (yielded ops a.tmps) = true) (x : Operand) (ho : op.op = .load 79 x)
    (b o : Nat) (hx : a.eval x = .pointer (some ⟨b, o, none⟩)) (at_ : Nat → Option Nat) (hS : ∀ w, S w → w.rangeAt b o (arrC at_)) : YieldsIf Tryz.prog ops S op (arrV at_) a := by
  obtain ⟨d, hu, hd⟩ := arr_u
  exact yieldsIf_load_mid hw _ x ho b o hx _ d hS hu hd (arr_i at_)
theorem arr_store {op : Oper} {a : Act} {w : World} {K : Act → World → Prop} {Q : Exit → Act → World → Prop} (x y : Operand) (ho : op.op = .store 79 x y)
    (b o : Nat) (at_ : Nat → Option Nat) (hx : a.eval x = .pointer (some ⟨b, o, none⟩)) (hy : a.eval y = arrV at_) (ht : w.there b o 16) (h : K (a.put op.dst undef) (w.setCells b o (arrC at_))) : op.wp Tryz.prog a w K Q :=
  wp_store_mid _ x y ho b o (arrC at_).toArray hx hy (by rw [List.size_toArray, arrC_len]; exact ht) (by rw [List.size_toArray]; exact arr_i at_) (all_oneCell_toArray (arrC_one at_)) (by simpa using h)
theorem at_storeA {ops : Array Oper} {rest : List Oper} {op : Oper} {a : Act} {w : World} {Q : Exit → Act → World → Prop} (hgd : op.guard = none) (x y : Operand) (ho : op.op = .store 79 x y)
    (b o : Nat) (at_ : Nat → Option Nat) (hx : a.eval x = .pointer (some ⟨b, o, none⟩)) (hy : a.eval y = arrV at_) (ht : w.there b o 16) (h : wpList Tryz.prog ops Q rest (a.put op.dst undef) (w.setCells b o (arrC at_))) : wpList Tryz.prog ops Q (op :: rest) a w :=
  wpList_store_mid hgd _ x y ho b o (arrC at_).toArray hx hy (by rw [List.size_toArray, arrC_len]; exact ht) (by rw [List.size_toArray]; exact arr_i at_) (all_oneCell_toArray (arrC_one at_)) (by simpa using h)

structure CS (w : World) (v : Value) (A : List Vec) (at_ : Nat → Option Nat) (W : World) : Prop where
  lat : Lat w W
  own : OwnL W (w.heap.size + 3) v A
  res : Blk W w.heap.size 16 (fun _ => .int .i64 0)
  arr : Blk W (w.heap.size + 1) 16 (fun j => .int .i64 (atI (at_ j)))
  used : Blk W (w.heap.size + 2) 60 (fun j => .bool (usedB at_ 16 j))
theorem CS.keep {w W W' : World} {v : Value} {A : List Vec} {at_ : Nat → Option Nat} (h : CS w v A at_ W) (hb : Lat W W') : CS w v A at_ W' :=
  ⟨h.lat.trans hb, h.own.keep hb, h.res.keep hb, h.arr.keep hb, h.used.keep hb⟩
theorem CS.line {w W : World} {g n cap : Nat} {A : List Vec} {at_ : Nat → Option Nat} (h : CS w (.slice (some ⟨g, 0, none⟩) n cap) A at_ W) {i : Nat} (hi : i < n) (x : Vec) : CS w (.slice (some ⟨g, 0, none⟩) n cap) (A.set i x) at_ (W.setCells g (i * 17) (lineC x)) := by
  have hg : w.heap.size + 3 ≤ g := (h.own.lt g rfl).1
  have hb : ∀ (b m : Nat) (F : Nat → Value), b < w.heap.size + 3 → Blk W b m F → Blk (W.setCells g (i * 17) (lineC x)) b m F := fun b m F hb hB =>
    ⟨Nat.lt_of_lt_of_le hB.lt (Fr.setCells g (lineC x) (i * 17) W).size, fun j hj => (Fr.setCells g (lineC x) (i * 17) W).cell_at (hB.cell j hj) (by show ¬ b = g; omega), fun j hj => by rw [World.frozen?_setCells]; exact hB.free j hj⟩
  exact ⟨h.own.lat_put h.lat (by omega) i x, h.own.put hi x, hb _ _ _ (by omega) h.res, hb _ _ _ (by omega) h.arr, hb _ _ _ (by omega) h.used⟩
theorem CS.found {w W : World} {v : Value} {A : List Vec} {at_ : Nat → Option Nat} (h : CS w v A at_ W) {b p : Nat} (hb : b < 16) (hp : p < 60) (hn : at_ b = none) :
    CS w v A (updA at_ b p) ((W.setCell ⟨w.heap.size + 1, b, none⟩ (.int .i64 p)).setCell ⟨w.heap.size + 2, p, none⟩ (.bool true)) := by
  have hf : Fr (fun k => k = w.heap.size + 1 ∨ k = w.heap.size + 2) W ((W.setCell ⟨w.heap.size + 1, b, none⟩ (.int .i64 p)).setCell ⟨w.heap.size + 2, p, none⟩ (.bool true)) :=
    (Fr.set (S := fun k => k = w.heap.size + 1 ∨ k = w.heap.size + 2) W ⟨w.heap.size + 1, b, none⟩ (.int .i64 p) (.inl rfl)).then_set ⟨w.heap.size + 2, p, none⟩ (.bool true) (.inl (.inr rfl))
  refine ⟨hf.lat_of h.lat (fun k e => by rcases e with e | e <;> omega), OwnR.fr h.own hf (fun k hk e => by have := (h.own.lt k hk).1; rcases e with e | e <;> omega), blk_oth (blk_oth h.res (by omega) _ _) (by omega) _ _, (blk_oth (h.arr.set hb _) (by omega) _ _).congr fun j _ => ?_, ((blk_oth h.used (by omega) _ _).set hp _).congr fun j _ => ?_⟩
  · unfold updA
    by_cases e : j = b
    · rw [if_pos e, if_pos e]; rfl
    · rw [if_neg e, if_neg e]
  · rw [usedB_upd hb hn]
    by_cases e : j = p
    · rw [if_pos e, if_pos e]
    · rw [if_neg e, if_neg e]
theorem zint : (List.replicate 16 (Value.int .i64 0)).toArray = #[Value.int .i64 0, Value.int .i64 0, Value.int .i64 0, Value.int .i64 0, Value.int .i64 0, Value.int .i64 0, Value.int .i64 0, Value.int .i64 0, Value.int .i64 0, Value.int .i64 0, Value.int .i64 0, Value.int .i64 0, Value.int .i64 0, Value.int .i64 0, Value.int .i64 0, Value.int .i64 0] := by kernel_rfl
theorem zbool : (List.replicate 60 (Value.bool false)).toArray = #[Value.bool false, Value.bool false, Value.bool false, Value.bool false, Value.bool false, Value.bool false, Value.bool false, Value.bool false, Value.bool false, Value.bool false, Value.bool false, Value.bool false, Value.bool false, Value.bool false, Value.bool false, Value.bool false, Value.bool false, Value.bool false, Value.bool false, Value.bool false, Value.bool false, Value.bool false, Value.bool false, Value.bool false, Value.bool false, Value.bool false, Value.bool false, Value.bool false, Value.bool false, Value.bool false, Value.bool false, Value.bool false, Value.bool false, Value.bool false, Value.bool false, Value.bool false, Value.bool false, Value.bool false, Value.bool false, Value.bool false, Value.bool false, Value.bool false, Value.bool false, Value.bool false, Value.bool false, Value.bool false, Value.bool false, Value.bool false, Value.bool false, Value.bool false, Value.bool false, Value.bool false, Value.bool false, Value.bool false, Value.bool false, Value.bool false, Value.bool false, Value.bool false, Value.bool false, Value.bool false] := by kernel_rfl
theorem clr_start (w : World) (t t2 t3 : TypeId) : Lat w (((w.alloc (.cells (List.replicate 16 (Value.int .i64 0)).toArray t)).alloc (.cells (List.replicate 16 (Value.int .i64 0)).toArray t2)).alloc (.cells (List.replicate 60 (Value.bool false)).toArray t3)) ∧
    Blk (((w.alloc (.cells (List.replicate 16 (Value.int .i64 0)).toArray t)).alloc (.cells (List.replicate 16 (Value.int .i64 0)).toArray t2)).alloc (.cells (List.replicate 60 (Value.bool false)).toArray t3)) w.heap.size 16 (fun _ => .int .i64 0) ∧
    Blk (((w.alloc (.cells (List.replicate 16 (Value.int .i64 0)).toArray t)).alloc (.cells (List.replicate 16 (Value.int .i64 0)).toArray t2)).alloc (.cells (List.replicate 60 (Value.bool false)).toArray t3)) (w.heap.size + 1) 16 (fun _ => .int .i64 0) ∧
    Blk (((w.alloc (.cells (List.replicate 16 (Value.int .i64 0)).toArray t)).alloc (.cells (List.replicate 16 (Value.int .i64 0)).toArray t2)).alloc (.cells (List.replicate 60 (Value.bool false)).toArray t3)) (w.heap.size + 2) 60 (fun _ => .bool false) ∧
    (((w.alloc (.cells (List.replicate 16 (Value.int .i64 0)).toArray t)).alloc (.cells (List.replicate 16 (Value.int .i64 0)).toArray t2)).alloc (.cells (List.replicate 60 (Value.bool false)).toArray t3)).heap.size = w.heap.size + 3 := by
  have hr : ∀ (m : Nat) (u : Value) (j : Nat), j < m → (List.replicate m u)[j]? = some u := fun m u j h => by rw [List.getElem?_replicate, if_pos h]
  have h1 := blk_new w (List.replicate 16 (Value.int .i64 0)) 16 (fun _ => .int .i64 0) t (fun j h => hr 16 _ j h)
  have h2 := blk_new (w.alloc (.cells (List.replicate 16 (Value.int .i64 0)).toArray t)) (List.replicate 16 (Value.int .i64 0)) 16 (fun _ => .int .i64 0) t2 (fun j h => hr 16 _ j h)
  have h3 := blk_new ((w.alloc (.cells (List.replicate 16 (Value.int .i64 0)).toArray t)).alloc (.cells (List.replicate 16 (Value.int .i64 0)).toArray t2)) (List.replicate 60 (Value.bool false)) 60 (fun _ => .bool false) t3 (fun j h => hr 60 _ j h)
  rw [World.size_alloc] at h2
  rw [World.size_alloc, World.size_alloc] at h3
  exact ⟨((Lat.alloc _ _).trans (Lat.alloc _ _)).trans (Lat.alloc _ _), (h1.keep (Lat.alloc _ _)).keep (Lat.alloc _ _), h2.keep (Lat.alloc _ _), h3, by rw [World.size_alloc, World.size_alloc, World.size_alloc]⟩

set_option maxHeartbeats 40000000 in
set_option maxRecDepth 100000 in
theorem refClear (a : Option Addr) (n cap k m : Nat) (L : List Vec) (w : World) (h : LinesAt w a n cap L) (hL : Ln m 16 L) (hn : n ≤ 60) (hk : k ≤ 16) (hm : m ≤ 1000) :
    Calls Tryz.prog 33 #[.slice a n cap, .int .i64 k] w fun e w' => ∃ aa cc, e = .returned (.tuple #[.slice aa n cc, arrV (clrF L k).2]) ∧ LinesAt w' aa n cc (clrF L k).1 ∧ Lat w w' := by
  have hlen := h.len
  have hst := clr_start w 79 79 115
  rw [zint, zbool] at hst
  have hcl : ∀ b, Cl m 16 L (clrF L b).1 (clrF L b).2 b := fun b => clrF_cl hL b
  have HH := Lib.hid h; have HLEN := Lib.hid hlen; have HST := Lib.hid hst; have HCL := Lib.hid hcl
  clear h hlen hst hcl hL
  go_enter Tryz.func33, Tryz.ntmps33
  go_upto_region 3 with fail
  obtain ⟨W0, hW0⟩ : ∃ W0, W0 = (((w.alloc (.cells #[Value.int .i64 0, Value.int .i64 0, Value.int .i64 0, Value.int .i64 0, Value.int .i64 0, Value.int .i64 0, Value.int .i64 0, Value.int .i64 0, Value.int .i64 0, Value.int .i64 0, Value.int .i64 0, Value.int .i64 0, Value.int .i64 0, Value.int .i64 0, Value.int .i64 0, Value.int .i64 0] 79)).alloc (.cells #[Value.int .i64 0, Value.int .i64 0, Value.int .i64 0, Value.int .i64 0, Value.int .i64 0, Value.int .i64 0, Value.int .i64 0, Value.int .i64 0, Value.int .i64 0, Value.int .i64 0, Value.int .i64 0, Value.int .i64 0, Value.int .i64 0, Value.int .i64 0, Value.int .i64 0, Value.int .i64 0] 79)).alloc (.cells #[Value.bool false, Value.bool false, Value.bool false, Value.bool false, Value.bool false, Value.bool false, Value.bool false, Value.bool false, Value.bool false, Value.bool false, Value.bool false, Value.bool false, Value.bool false, Value.bool false, Value.bool false, Value.bool false, Value.bool false, Value.bool false, Value.bool false, Value.bool false, Value.bool false, Value.bool false, Value.bool false, Value.bool false, Value.bool false, Value.bool false, Value.bool false, Value.bool false, Value.bool false, Value.bool false, Value.bool false, Value.bool false, Value.bool false, Value.bool false, Value.bool false, Value.bool false, Value.bool false, Value.bool false, Value.bool false, Value.bool false, Value.bool false, Value.bool false, Value.bool false, Value.bool false, Value.bool false, Value.bool false, Value.bool false, Value.bool false, Value.bool false, Value.bool false, Value.bool false, Value.bool false, Value.bool false, Value.bool false, Value.bool false, Value.bool false, Value.bool false, Value.bool false, Value.bool false, Value.bool false] 115)) := ⟨_, rfl⟩
  rw [← hW0]
  have hst := HST.out
  rw [← hW0] at hst
  obtain ⟨hl0, hr0, ha0, hu0, hsz0⟩ := hst
  have HL0 := Lib.hid hl0; have HR0 := Lib.hid hr0; have HA0 := Lib.hid ha0; have HU0 := Lib.hid hu0; have HSZ := Lib.hid hsz0
  clear hW0 HST hl0 hr0 ha0 hu0 hsz0
  go_wp2_with fail
  go_loopg [8] 16 (fun f iv wx => ∃ i : Nat, i + f = 16 ∧ iv = .int .i64 i ∧ Hid (Lat w wx ∧ Blk wx w.heap.size 16 (fun _ => .int .i64 0) ∧ Blk wx (w.heap.size + 1) 16 (fun j => .int .i64 (if j < i then -1 else 0)) ∧ Blk wx (w.heap.size + 2) 60 (fun _ => .bool false) ∧ wx.heap.size = w.heap.size + 3))
  case atStart => exact ⟨0, rfl, rfl, HL0.out, HR0.out, HA0.out.congr fun j _ => by rw [if_neg (by omega)], HU0.out, HSZ.out⟩
  case round =>
    clear HL0 HR0 HA0 HU0 HSZ
    obtain ⟨i, hi, rfl, hrel⟩ := hrel
    by_cases hlt : i < 16
    · obtain ⟨f, rfl⟩ : ∃ f, gk = f + 1 := ⟨gk - 1, by omega⟩
      have di : decide ((i : Int) < 16) = true := decide_eq_true (by omega)
      have cA := hrel.out.2.2.1.cell i hlt
      have fA := hrel.out.2.2.1.free i hlt
      have i0 : (0 : Int) ≤ (i : Int) := by omega
      have i1 : (i : Int) < 16 := by omega
      obtain ⟨h1, h2, h3, h4, h5⟩ := hrel.out
      have k3 : Blk (wr.setCell ⟨w.heap.size + 1, i, none⟩ (.int .i64 (-1))) (w.heap.size + 1) 16 (fun j => .int .i64 (if j < i + 1 then -1 else 0)) := (h3.set hlt _).congr fun j _ => by
        by_cases e : j = i
        · subst e; rw [if_pos rfl, if_pos (by omega)]
        · rw [if_neg e]
          by_cases g : j < i
          · rw [if_pos g, if_pos (by omega)]
          · rw [if_neg g, if_neg (by omega)]
      have HNX := Lib.hid (And.intro (h1.setCell (p := ⟨w.heap.size + 1, i, none⟩) (Nat.le_succ _) (.int .i64 (-1))) (And.intro (blk_oth h2 (show w.heap.size ≠ w.heap.size + 1 by omega) i (.int .i64 (-1))) (And.intro k3 (And.intro (blk_oth h4 (show w.heap.size + 2 ≠ w.heap.size + 1 by omega) i (.int .i64 (-1))) (show (wr.setCell ⟨w.heap.size + 1, i, none⟩ (.int .i64 (-1))).heap.size = w.heap.size + 3 by simp [World.setCell, h5])))))
      clear hrel h1 h2 h3 h4 h5 k3
      go_wp2_with fail
      go_roundg f
      case measure => omega
      case rel => exact ⟨i + 1, by omega, by go_num, HNX.out⟩
    · obtain rfl : i = 16 := by omega
      obtain ⟨h1, h2, h3, h4, h5⟩ := hrel.out
      have h3' : Blk wr (w.heap.size + 1) 16 (fun _ => .int .i64 (-1)) := h3.congr fun j hj => by rw [if_pos hj]
      have H1 := Lib.hid h1; have H2 := Lib.hid h2; have H3 := Lib.hid h3'; have H4 := Lib.hid h4; have H5 := Lib.hid h5
      clear hrel h1 h2 h3 h4 h5 h3'
      go_wp2_with (at_builtin; refine wpList_appRM wr wr.heap.size rfl (.tmp 19) (.tmp 20) 74 rfl 76 (lineV (0, [])) 17 32 Tryz.underlying74 line_info line_z (by decide) (by decide) (.slice none 0 0) [] rfl (OwnR.nil wr _ _ _) a n cap (L.map lineC) rfl (HH.out.keep H1.out) (ones_lines L) (by simp; omega) (Nat.le_refl _) ?_; intro v1 w1 hown hfr hloc)
      rw [List.nil_append, H5.out] at hown
      obtain ⟨aa, cc, rfl, hform, hnc, hcm⟩ := OwnL.form hown HLEN.out
      have hl1 : Lat wr w1 := hfr.lat_of (Lat.refl wr) (fun k e => by cases e)
      have hcs : CS w (.slice aa n cc) L (fun _ => none) w1 := ⟨H1.out.trans hl1, hown, H2.out.keep hl1, H3.out.keep hl1, (H4.out.keep hl1).congr fun j _ => by
        have : usedB (fun _ => none) 16 j = false := usedB_of fun c e => by cases e
        rw [this]⟩
      have HC0 := Lib.hid hcs; have HF := Lib.hid hform
      clear hown hfr hloc hl1 hcs hform H1 H2 H3 H4 H5
      go_wp2_with fail
      go_loopg [10] k (fun f bv wx => ∃ b : Nat, b + f = k ∧ bv = .int .i64 b ∧ Hid (CS w (.slice aa n cc) (clrF L b).1 (clrF L b).2 wx))
      case atStart => exact ⟨0, by omega, rfl, HC0.out⟩
      case round =>
        clear HC0
        obtain ⟨b, hb, rfl, hrel⟩ := hrel
        by_cases hlt : b < k
        · obtain ⟨f, rfl⟩ : ∃ f, gk = f + 1 := ⟨gk - 1, by omega⟩
          have db : decide (b < k) = true := decide_eq_true hlt
          have hT := HCL.out b
          have hAl : (clrF L b).1.length = n := hT.len.trans HLEN.out
          have hwf := hT.ln
          have hbn : (clrF L b).2 b = none := by
            cases e : (clrF L b).2 b with
            | none => rfl
            | some i => exact absurd (hT.lt b i e).1 (by omega)
          have hus := usedB_top hT (by omega)
          have hsk := fun h => (clrF_none (L := L) (b := b) h).trans (Prod.ext rfl rfl : clrF L b = ((clrF L b).1, (clrF L b).2))
          have htk := fun p h => clrF_some (L := L) (b := b) (p := p) h
          rw [hus] at hsk htk
          obtain ⟨A, hA⟩ : ∃ A, A = (clrF L b).1 := ⟨_, rfl⟩
          obtain ⟨at_, hat⟩ : ∃ c, c = (clrF L b).2 := ⟨_, rfl⟩
          rw [← hA, ← hat] at hrel hsk htk
          rw [← hA] at hAl hwf
          rw [← hat] at hbn
          rw [hAl] at hsk htk
          obtain ⟨pk, hpk⟩ : ∃ pk, pk = pick A (usedB at_ 16) b n 0 := ⟨_, rfl⟩
          rw [← hpk] at hsk htk
          obtain ⟨at2, hat2⟩ : ∃ at2, at2 = (match pk with | none => at_ | some p => updA at_ b p) := ⟨_, rfl⟩
          have HAL := Lib.hid hAl; have HWF := Lib.hid hwf; have HSK := Lib.hid hsk; have HTK := Lib.hid htk; have HPK := Lib.hid hpk; have HREL := Lib.hid hrel.out; have HBN := Lib.hid hbn; have HAT := Lib.hid hat2
          have hb16 : b < 16 := by omega
          have b0 : (0 : Int) ≤ (b : Int) := by omega
          have b1 : (b : Int) < 16 := by omega
          clear hT hAl hwf hus hsk htk hpk hrel hA hat hat2 hbn
          go_upto_block 4 with fail
          go_cut [11] from 27 to 60 (fun _ wx => Hid (CS w (.slice aa n cc) A at2 wx))
          case first =>
            go_wp2_with fail
            go_loopg [11] n (fun f iv wx => ∃ i : Nat, i + f = n ∧ iv = .int .i64 i ∧ ((Hid (pick A (usedB at_ 16) b (n - i) i = pk) ∧ Hid (CS w (.slice aa n cc) A at_ wx)) ∨ ∃ p : Nat, Hid (pk = some p) ∧ Hid (CS w (.slice aa n cc) A (updA at_ b p) wx)))
            case atStart => exact ⟨0, by omega, rfl, .inl ⟨HPK.out.symm, HREL.out⟩⟩
            case round =>
              clear HREL
              obtain ⟨i, hi, rfl, hav⟩ := hrel
              rcases hav with ⟨hpi, hcs⟩ | ⟨p, hpp, hcs⟩
              · have cat : wr.cell? ⟨w.heap.size + 1, b, none⟩ = some (.int .i64 (-1)) := by
                  rw [hcs.out.arr.cell b hb16, HBN.out]; rfl
                by_cases hin : i < n
                · obtain ⟨f, rfl⟩ : ∃ f, gk = f + 1 := ⟨gk - 1, by omega⟩
                  have di : decide (i < n) = true := decide_eq_true hin
                  have di2 : decide ((i : Int) < 60) = true := decide_eq_true (by omega)
                  obtain ⟨g, rfl, hg1, hg2⟩ := HF.out (by omega)
                  have cb := hcs.out.own.bit hin hb16
                  have cu := hcs.out.used.cell i (by omega)
                  have fu : wr.frozen? ⟨w.heap.size + 2, i, none⟩ = false := hcs.out.used.free i (by omega)
                  have fat : wr.frozen? ⟨w.heap.size + 1, b, none⟩ = false := hcs.out.arr.free b hb16
                  have cu2 : (wr.setCell ⟨w.heap.size + 1, b, none⟩ (.int .i64 i)).cell? ⟨w.heap.size + 2, i, none⟩ = some (.bool (usedB at_ 16 i)) := by
                    rw [World.cell?_setCell_other _ _ _ _ (by intro e; injection e with e1 _ _; omega)]; exact cu
                  have fu2 : (wr.setCell ⟨w.heap.size + 1, b, none⟩ (.int .i64 i)).frozen? ⟨w.heap.size + 2, i, none⟩ = false := by rw [World.frozen?_setCell]; exact fu
                  have i0 : (0 : Int) ≤ (i : Int) := by omega
                  have i1 : (i : Int) < (n : Int) := by omega
                  have i2 : (i : Int) < 60 := by omega
                  have hp2 := hpi.out
                  rw [show n - i = (n - (i + 1)) + 1 by omega, pick_succ] at hp2
                  obtain ⟨T, hT⟩ : ∃ T, T = (rowG A i).1.testBit b := ⟨_, rfl⟩
                  obtain ⟨U, hU⟩ : ∃ U, U = usedB at_ 16 i := ⟨_, rfl⟩
                  rw [← hT] at cb hp2
                  rw [← hU] at cu cu2 hp2
                  have HFO := Lib.hid (hcs.out.found hb16 (show i < 60 by omega) HBN.out); have HCS := Lib.hid hcs.out
                  clear hpi hT hU hcs
                  cases T with
                  | true =>
                    cases U with
                    | false =>
                      rw [if_pos ⟨rfl, rfl⟩] at hp2
                      have HP2 := Lib.hid hp2.symm
                      clear hp2
                      go_wp2_with fail
                      go_roundg f
                      case measure => omega
                      case rel => exact ⟨i + 1, by omega, by go_num, .inr ⟨i, HP2.out, HFO.out⟩⟩
                    | true =>
                      rw [if_neg (fun e => Bool.noConfusion e.2)] at hp2
                      have HP2 := Lib.hid hp2
                      clear hp2
                      go_wp2_with fail
                      go_roundg f
                      case measure => omega
                      case rel => exact ⟨i + 1, by omega, by go_num, .inl ⟨HP2.out, HCS.out⟩⟩
                  | false =>
                    rw [if_neg (fun e => Bool.noConfusion e.1)] at hp2
                    have HP2 := Lib.hid hp2
                    clear hp2
                    go_wp2_with fail
                    go_roundg f
                    case measure => omega
                    case rel => exact ⟨i + 1, by omega, by go_num, .inl ⟨HP2.out, HCS.out⟩⟩
                · obtain rfl : i = n := by omega
                  have di : decide (i < i) = false := decide_eq_false (by omega)
                  have hp2 := hpi.out
                  rw [Nat.sub_self] at hp2
                  have HP2 := Lib.hid (show none = pk from hp2); have HCS := Lib.hid hcs.out
                  clear hpi hp2 hcs
                  go_wp2_with fail
                  go_meet
                  rw [HAT.out, ← HP2.out]
                  exact HCS.out
              · have cat : wr.cell? ⟨w.heap.size + 1, b, none⟩ = some (.int .i64 p) := by
                  have := hcs.out.arr.cell b hb16
                  rw [this]; unfold updA; rw [if_pos rfl]; rfl
                have dp : decide ((p : Int) < 0) = false := decide_eq_false (by omega)
                have hfin : CS w (.slice aa n cc) A at2 wr := by
                  rw [HAT.out, hpp.out]; exact hcs.out
                have HFI := Lib.hid hfin
                clear hpp hcs hfin
                by_cases hin : i < n
                · have di : decide (i < n) = true := decide_eq_true hin
                  have di2 : decide ((i : Int) < 60) = true := decide_eq_true (by omega)
                  go_wp2_with fail
                  go_meet
                  exact HFI.out
                · have di : decide (i < n) = false := decide_eq_false hin
                  go_wp2_with fail
                  go_meet
                  exact HFI.out
          case rest =>
            clear HREL
            cases pk with
            | none =>
              have hnx := HSK.out rfl
              have hc2 : CS w (.slice aa n cc) A at_ wc := by
                have := hcut.out
                rw [HAT.out] at this; exact this
              have HNX := Lib.hid hnx; have HC2 := Lib.hid hc2
              have cat : wc.cell? ⟨w.heap.size + 1, b, none⟩ = some (.int .i64 (-1)) := by
                rw [hc2.arr.cell b hb16, HBN.out]; rfl
              clear HSK HTK HPK hcut hnx hc2 HAT
              go_wp2_with fail
              refine wp_loop_rounds 1 ?_
              rw [rounds_succ]
              by_cases hn0 : 0 < n
              · have dn : decide (0 < n) = true := decide_eq_true hn0
                go_wp2_with fail
                go_roundg f
                case measure => omega
                case rel => exact ⟨b + 1, by omega, by go_num, by rw [HNX.out]; exact HC2.out⟩
              · have dn : decide (0 < n) = false := decide_eq_false hn0
                go_wp2_with fail
                go_roundg f
                case measure => omega
                case rel => exact ⟨b + 1, by omega, by go_num, by rw [HNX.out]; exact HC2.out⟩
            | some p =>
              obtain ⟨_, hpn, _, _⟩ := pick_some HPK.out.symm
              rw [Nat.zero_add] at hpn
              have hnx := HTK.out p rfl
              have hc2 : CS w (.slice aa n cc) A (updA at_ b p) wc := by
                have := hcut.out
                rw [HAT.out] at this; exact this
              obtain ⟨g, rfl, hg1, hg2⟩ := HF.out (by omega)
              have HNX := Lib.hid hnx; have HC2 := Lib.hid hc2; have HPN := Lib.hid hpn
              have dp : decide ((0 : Int) ≤ (p : Int)) = true := decide_eq_true (by omega)
              have p0 : (0 : Int) ≤ (p : Int) := by omega
              have p1 : (p : Int) < (n : Int) := by omega
              obtain ⟨at3, hat3⟩ : ∃ c, c = updA at_ b p := ⟨_, rfl⟩
              have hatb : at3 b = some p := by rw [hat3]; unfold updA; rw [if_pos rfl]
              rw [← hat3] at HNX HC2
              have HATB := Lib.hid hatb
              clear HSK HTK HPK hcut hnx hc2 HAT hg1 hg2 hpn hat3 hatb HBN
              go_wp2_with fail
              go_loopg [12] n (fun f iv wx => ∃ i : Nat, i + f = n ∧ iv = .int .i64 i ∧ Hid (CS w (.slice (some ⟨g, 0, none⟩) n cc) (clrTo A p b 0 i) at3 wx))
              case atStart => exact ⟨0, by omega, rfl, by rw [clrTo_zero _ _ (Nat.le_refl _)]; exact HC2.out⟩
              case round =>
                clear HC2
                obtain ⟨i, hi, rfl, hrel⟩ := hrel
                have cat : wr.cell? ⟨w.heap.size + 1, b, none⟩ = some (.int .i64 p) := by
                  rw [hrel.out.arr.cell b hb16, HATB.out]; rfl
                by_cases hin : i < n
                · obtain ⟨f, rfl⟩ : ∃ f, gk = f + 1 := ⟨gk - 1, by omega⟩
                  have di : decide (i < n) = true := decide_eq_true hin
                  have hil : i < A.length := by rw [HAL.out]; exact hin
                  have hpl : p < A.length := by rw [HAL.out]; exact HPN.out
                  have hrow : rowG (clrTo A p b 0 i) i = rowG A i := by rw [clrTo_row _ _ _ _ hil, if_neg (by omega)]
                  have hrop : rowG (clrTo A p b 0 i) p = rowG A p := by rw [clrTo_row _ _ _ _ hpl, if_neg (by omega)]
                  have cb := hrel.out.own.bit hin hb16
                  have hr := hrel.out.own.row hin
                  have hrp := hrel.out.own.row HPN.out
                  rw [hrow] at cb hr
                  rw [hrop] at hrp
                  have i0 : (0 : Int) ≤ (i : Int) := by omega
                  have i1 : (i : Int) < (n : Int) := by omega
                  have hcs := clrTo_succ (A := A) (p := p) (b := b) (s := 0) (j := i) (Nat.zero_le _) hil
                  obtain ⟨T, hT⟩ : ∃ T, T = (rowG A i).1.testBit b := ⟨_, rfl⟩
                  rw [← hT] at cb hcs
                  by_cases hip : i = p
                  · have dip : ((i : Int) != (p : Int)) = false := by rw [hip]; simp
                    rw [if_neg (fun e => e.1 hip)] at hcs
                    have HCS := Lib.hid hcs; have HR := Lib.hid hrel.out
                    clear hrel hr hrp hT hrow hrop hcs hip
                    go_wp2_with fail
                    go_roundg f
                    case measure => omega
                    case rel => exact ⟨i + 1, by omega, by go_num, by rw [HCS.out]; exact HR.out⟩
                  · have dip : ((i : Int) != (p : Int)) = true := by rw [bne_iff_ne]; omega
                    cases T with
                    | true =>
                      rw [if_pos ⟨hip, rfl⟩] at hcs
                      have hov := fun W => refOver (rowG A i) (rowG A p) W (by rw [(HWF.out.row hil).1, (HWF.out.row hpl).1]) (by rw [(HWF.out.row hil).1]; omega)
                      have HOV := Lib.hid hov; have HCS := Lib.hid hcs; have HCC := Lib.hid hrel.out
                      have hG : wr.drew.rangeAt g (i * 17) (lineC (rowG A i)) ∧ wr.drew.rangeAt g (p * 17) (lineC (rowG A p)) ∧ wr.drew.cell? ⟨w.heap.size + 1, b, none⟩ = some (.int .i64 p) := ⟨range_keep hr (Lat.drew _), range_keep hrp (Lat.drew _), (Lat.drew _).cell_at cat⟩
                      clear hrel hr hrp hT hrow hrop hov hcs hip
                      go_wp2_with fail
                      refine wp_region_gate (fun _ => True) (fun w' => w'.rangeAt g (i * 17) (lineC (rowG A i)) ∧ w'.rangeAt g (p * 17) (lineC (rowG A p)) ∧ w'.cell? ⟨w.heap.size + 1, b, none⟩ = some (.int .i64 p)) 14 (by kernel_rfl) ?_
                      refine gate_takeG (i := 0) (v := ?_) rfl (by kernel_rfl) (by kernel_rfl) (by kernel_rfl) (fun _ _ _ h => h) (by decide) (by kernel_rfl) (by kernel_rfl) ⟨trivial, fun _ => hG⟩ (Or.inl ⟨by kernel_rfl, ?_⟩) ?_
                      rotate_left
                      · intro wq hSw; obtain ⟨-, s0, s1, s2⟩ := hSw; go_simp; rfl
                      simp only [Act.put]
                      refine gate_takeG (i := 1) (v := ?_) rfl (by kernel_rfl) (by kernel_rfl) (by kernel_rfl) (fun _ _ _ h => h) (by decide) (by kernel_rfl) (by kernel_rfl) ⟨trivial, fun _ => hG⟩ (Or.inl ⟨by kernel_rfl, ?_⟩) ?_
                      rotate_left
                      · intro wq hSw; obtain ⟨-, s0, s1, s2⟩ := hSw; go_simp; rfl
                      simp only [Act.put]
                      refine gate_takeG (i := 2) (v := ?_) rfl (by kernel_rfl) (by kernel_rfl) (by kernel_rfl) (fun _ _ _ h => h) (by decide) (by kernel_rfl) (by kernel_rfl) ⟨trivial, fun _ => hG⟩ (Or.inl ⟨by kernel_rfl, ?_⟩) ?_
                      rotate_left
                      · intro wq hSw; obtain ⟨-, s0, s1, s2⟩ := hSw; go_simp; rfl
                      simp only [Act.put]
                      refine gate_takeG (i := 3) (v := ?_) rfl (by kernel_rfl) (by kernel_rfl) (by kernel_rfl) (fun _ _ _ h => h) (by decide) (by kernel_rfl) (by kernel_rfl) ⟨trivial, fun _ => hG⟩ (Or.inl ⟨by kernel_rfl, ?_⟩) ?_
                      rotate_left
                      · intro wq hSw; obtain ⟨-, s0, s1, s2⟩ := hSw; go_simp; rfl
                      simp only [Act.put]
                      refine gate_takeG (i := 4) (v := ?_) rfl (by kernel_rfl) (by kernel_rfl) (by kernel_rfl) (fun _ _ _ h => h) (by decide) (by kernel_rfl) (by kernel_rfl) ⟨trivial, fun _ => hG⟩ (Or.inl ⟨by kernel_rfl, ?_⟩) ?_
                      rotate_left
                      · intro wq hSw; obtain ⟨-, s0, s1, s2⟩ := hSw; go_simp; rfl
                      simp only [Act.put]
                      refine gate_takeG (i := 5) (v := lineV (rowG A i)) rfl (by kernel_rfl) (by kernel_rfl) (by kernel_rfl) (fun _ _ _ h => h) (by decide) (by kernel_rfl) (by kernel_rfl) ⟨trivial, fun _ => hG⟩ (line_yields (by kernel_rfl) (.tmp 91) rfl g (i * 17) (by go_simp) (rowG A i) (fun _ h => h.2.1)) ?_
                      simp only [Act.put]
                      refine gate_takeG (i := 6) (v := ?_) rfl (by kernel_rfl) (by kernel_rfl) (by kernel_rfl) (fun _ _ _ h => h) (by decide) (by kernel_rfl) (by kernel_rfl) ⟨trivial, fun _ => hG⟩ (Or.inl ⟨by kernel_rfl, ?_⟩) ?_
                      rotate_left
                      · intro wq hSw; obtain ⟨-, s0, s1, s2⟩ := hSw; go_simp; rfl
                      simp only [Act.put]
                      refine gate_takeG (i := 7) (v := ?_) rfl (by kernel_rfl) (by kernel_rfl) (by kernel_rfl) (fun _ _ _ h => h) (by decide) (by kernel_rfl) (by kernel_rfl) ⟨trivial, fun _ => hG⟩ (Or.inl ⟨by kernel_rfl, ?_⟩) ?_
                      rotate_left
                      · intro wq hSw; obtain ⟨-, s0, s1, s2⟩ := hSw; go_simp; rfl
                      simp only [Act.put]
                      refine gate_takeG (i := 8) (v := ?_) rfl (by kernel_rfl) (by kernel_rfl) (by kernel_rfl) (fun _ _ _ h => h) (by decide) (by kernel_rfl) (by kernel_rfl) ⟨trivial, fun _ => hG⟩ (Or.inl ⟨by kernel_rfl, ?_⟩) ?_
                      rotate_left
                      · intro wq hSw; obtain ⟨-, s0, s1, s2⟩ := hSw; go_simp; rfl
                      simp only [Act.put]
                      refine gate_takeG (i := 9) (v := ?_) rfl (by kernel_rfl) (by kernel_rfl) (by kernel_rfl) (fun _ _ _ h => h) (by decide) (by kernel_rfl) (by kernel_rfl) ⟨trivial, fun _ => hG⟩ (Or.inl ⟨by kernel_rfl, ?_⟩) ?_
                      rotate_left
                      · intro wq hSw; obtain ⟨-, s0, s1, s2⟩ := hSw; go_simp; rfl
                      simp only [Act.put]
                      refine gate_takeG (i := 10) (v := ?_) rfl (by kernel_rfl) (by kernel_rfl) (by kernel_rfl) (fun _ _ _ h => h) (by decide) (by kernel_rfl) (by kernel_rfl) ⟨trivial, fun _ => hG⟩ (Or.inl ⟨by kernel_rfl, ?_⟩) ?_
                      rotate_left
                      · intro wq hSw; obtain ⟨-, s0, s1, s2⟩ := hSw; go_simp; rfl
                      simp only [Act.put]
                      refine gate_takeG (i := 11) (v := lineV (rowG A p)) rfl (by kernel_rfl) (by kernel_rfl) (by kernel_rfl) (fun _ _ _ h => h) (by decide) (by kernel_rfl) (by kernel_rfl) ⟨trivial, fun _ => hG⟩ (line_yields (by kernel_rfl) (.tmp 97) rfl g (p * 17) (by go_simp) (rowG A p) (fun _ h => h.2.2.1)) ?_
                      simp only [Act.put]
                      refine gate_one (i := 12) (by kernel_rfl) rfl (fun K hK => ?_)
                      go_simp
                      refine (HOV.out _).mono ?_
                      rintro e w5 ⟨rfl, hb5⟩
                      have hG' : w5.rangeAt g (i * 17) (lineC (rowG A i)) ∧ w5.rangeAt g (p * 17) (lineC (rowG A p)) ∧ w5.cell? ⟨w.heap.size + 1, b, none⟩ = some (.int .i64 p) := ⟨range_keep hG.1 hb5, range_keep hG.2.1 hb5, hb5.cell_at hG.2.2⟩
                      refine hK _ _ ⟨trivial, fun _ => hG'⟩ ?_
                      clear hK K
                      have HC5 := Lib.hid (HCC.out.keep ((Lat.drew _).trans hb5))
                      clear hG hb5
                      have hG := hG'
                      clear hG'
                      refine gate_takeG (i := 13) (v := ?_) rfl (by kernel_rfl) (by kernel_rfl) (by kernel_rfl) (fun _ _ _ h => h) (by decide) (by kernel_rfl) (by kernel_rfl) ⟨trivial, fun _ => hG⟩ (Or.inl ⟨by kernel_rfl, ?_⟩) ?_
                      rotate_left
                      · intro wq hSw; obtain ⟨-, s0, s1, s2⟩ := hSw; go_simp; rfl
                      simp only [Act.put]
                      refine gate_one (i := 14) (by kernel_rfl) rfl (fun K hK => ?_)
                      rw [if_pos (by kernel_rfl)]
                      refine line_store (.tmp 100) (.tmp 99) rfl g (i * 17) (vx (rowG A i) (rowG A p)) (by go_simp) (by go_simp) (HC5.out.own.there hin) ?_
                      refine hK _ _ (FG.past (by kernel_rfl) trivial) ?_
                      clear hK K hG
                      refine gate_done (by kernel_rfl) ?_ _
                      have hfin : CS w (.slice (some ⟨g, 0, none⟩) n cc) (clrTo A p b 0 (i + 1)) at3 (w5.setCells g (i * 17) (lineC (vx (rowG A i) (rowG A p)))) := by
                        rw [HCS.out]; exact HC5.out.line hin _
                      obtain ⟨w6, hw6⟩ : ∃ w6, w6 = w5.setCells g (i * 17) (lineC (vx (rowG A i) (rowG A p))) := ⟨_, rfl⟩
                      rw [← hw6] at hfin ⊢
                      have HFI := Lib.hid hfin
                      clear hfin hw6 HC5 HCC HOV cat
                      simp only [List.getElem_toArray, List.getElem_cons_succ, List.getElem_cons_zero]
                      go_simp
                      go_wp2_with fail
                      go_roundg f
                      case measure => omega
                      case rel => exact ⟨i + 1, by omega, by go_num, HFI.out⟩
                    | false =>
                      rw [if_neg (fun e => Bool.noConfusion e.2)] at hcs
                      have HCS := Lib.hid hcs; have HR := Lib.hid hrel.out
                      clear hrel hr hrp hT hrow hrop hcs hip
                      go_wp2_with fail
                      go_roundg f
                      case measure => omega
                      case rel => exact ⟨i + 1, by omega, by go_num, by rw [HCS.out]; exact HR.out⟩
                · obtain rfl : i = n := by omega
                  have di : decide (i < i) = false := decide_eq_false (by omega)
                  have hfin : CS w (.slice (some ⟨g, 0, none⟩) i cc) (clrF L (b + 1)).1 (clrF L (b + 1)).2 wr := by
                    rw [HNX.out]; exact hrel.out
                  have HFI := Lib.hid hfin
                  clear hrel hfin
                  go_wp2_with fail
                  go_roundg f
                  case measure => omega
                  case rel => exact ⟨b + 1, by omega, by go_num, HFI.out⟩
        · obtain rfl : b = k := by omega
          have db : decide (b < b) = false := decide_eq_false (by omega)
          have HR := Lib.hid hrel.out
          have hG : wr.drew.rangeAt (w.heap.size + 1) 0 (arrC (clrF L b).2) := range_keep hrel.out.arr.arr (Lat.drew _)
          clear hrel
          go_wp2_with fail
          refine wp_region_gate (fun _ => True) (fun w' => w'.rangeAt (w.heap.size + 1) 0 (arrC (clrF L b).2)) 3 (by kernel_rfl) ?_
          refine gate_takeG (i := 0) (v := ?_) rfl (by kernel_rfl) (by kernel_rfl) (by kernel_rfl) (fun _ _ _ h => h) (by decide) (by kernel_rfl) (by kernel_rfl) ⟨trivial, fun _ => hG⟩ (Or.inl ⟨by kernel_rfl, ?_⟩) ?_
          rotate_left
          · intro wq hSw; obtain ⟨-, s0⟩ := hSw; go_simp; rfl
          simp only [Act.put]
          refine gate_takeG (i := 1) (v := arrV (clrF L b).2) rfl (by kernel_rfl) (by kernel_rfl) (by kernel_rfl) (fun _ _ _ h => h) (by decide) (by kernel_rfl) (by kernel_rfl) ⟨trivial, fun _ => hG⟩ (arr_yields (by kernel_rfl) (.tmp 6) rfl (w.heap.size + 1) 0 (by go_simp) (clrF L b).2 (fun _ h => h.2)) ?_
          simp only [Act.put]
          refine gate_takeF (i := 2) (v := ?_) rfl (by kernel_rfl) (by kernel_rfl) (by kernel_rfl) (fun _ _ _ h => h) (by decide) ⟨trivial, fun _ => hG⟩ (Or.inl ⟨by kernel_rfl, ?_⟩) ?_
          rotate_left
          · intro wq hSw; go_simp; rfl
          simp only [Act.put]
          refine gate_one (i := 3) (by kernel_rfl) rfl (fun K hK => ?_)
          rw [if_pos (by kernel_rfl)]
          refine arr_store (.tmp 5) (.tmp 102) rfl w.heap.size 0 (clrF L b).2 (by go_simp) (by go_simp) (HR.out.res.keep (Lat.drew _)).there ?_
          refine hK _ _ (FG.past (by kernel_rfl) trivial) ?_
          clear hK K hG
          refine gate_done (by kernel_rfl) ?_ _
          have hld := arr_load (World.rangeAt_setCells_same wr.drew w.heap.size 0 (arrC (clrF L b).2) (by rw [arrC_len]; exact (HR.out.res.keep (Lat.drew _)).there))
          have hfr := Fr.setCells w.heap.size (arrC (clrF L b).2) 0 wr.drew
          have hlat := hfr.lat_of (HR.out.lat.trans (Lat.drew _)) (fun k e => by rw [e]; exact Nat.le_refl _)
          have hown : OwnL (wr.drew.setCells w.heap.size 0 (arrC (clrF L b).2)) (w.heap.size + 3) (.slice aa n cc) (clrF L b).1 := OwnR.fr (HR.out.own.keep (Lat.drew _)) hfr (fun k hk e => by have := (HR.out.own.lt k hk).1; omega)
          obtain ⟨W6, hW6⟩ : ∃ W6, W6 = wr.drew.setCells w.heap.size 0 (arrC (clrF L b).2) := ⟨_, rfl⟩
          rw [← hW6] at hld hlat hown ⊢
          have HLAT := Lib.hid hlat; have HOWN := Lib.hid hown.shown
          clear hfr hlat hown hW6 HR
          simp only [List.getElem_toArray, List.getElem_cons_succ, List.getElem_cons_zero]
          go_simp
          go_wp2_with fail
          refine bodyPost_ret (v := .tuple #[.slice aa n cc, arrV (clrF L b).2]) ?_ rfl ⟨aa, cc, rfl, HOWN.out, HLAT.out⟩
          exact results_tmp_cell Tryz.results33 rfl rfl hld
end Go.Proofs.YtcpookgbneoilaaGreatDoor

namespace Go.Proofs.YtcpookgbneoilaaGreatDoor
open Go.ChangeShapes Go.WideShapes Go.ChangeAt Go.RowKit

theorem RPeelIn.fr {G H : Nat → Prop} {p k m : Nat} {K : Kn} {T : List Int} {ds : List Dr} {lv tv : Value} {w w' : World} (h : RPeelIn G p k m K T ds lv tv w) (hf : Fr H w w') (hd : ∀ i, G i → ¬ H i) : RPeelIn G p k m K T ds lv tv w' :=
  ⟨fun i hi => Nat.lt_of_lt_of_le (h.lt i hi) hf.size, h.gp, blk_frm h.blk hf (hd _ h.gp), OwnR.fr h.drops hf (fun i hi => hd _ (h.own1 i hi).1), h.taken.frP hf (fun i hi => hd _ (h.own2 i hi).1), h.own1, h.own2, h.kn, h.ok⟩
end Go.Proofs.YtcpookgbneoilaaGreatDoor

namespace Go.Proofs.YtcpookgbneoilaaGreatDoor
open Go.ChangeShapes Go.WideShapes Go.ChangeAt Go.RowKit

structure REarIn (G Gp : Nat → Prop) (x p k m n : Nat) (q : Int) (K : Kn) (L : List Dr) (lv tv : Value) (ds : List Dr) (a : Option Addr) (cap : Nat) (w : World) : Prop where
  lt : ∀ i, G i → i < w.heap.size
  gx : G x
  sub : ∀ i, Gp i → G i
  npx : ¬ Gp x
  c0 : w.cell? ⟨x, 0, none⟩ = some (.int .i64 k)
  c1 : w.cell? ⟨x, 1, none⟩ = some (.int .i64 m)
  c2 : w.cell? ⟨x, 2, none⟩ = some (.int .i64 n)
  c3 : w.cell? ⟨x, 3, none⟩ = some (.int .i64 q)
  c4 : w.cell? ⟨x, 4, none⟩ = some (.pointer (some ⟨p, 0, none⟩))
  c5 : w.cell? ⟨x, 5, none⟩ = some (.slice a ds.length cap)
  f3 : w.frozen? ⟨x, 3, none⟩ = false
  f5 : w.frozen? ⟨x, 5, none⟩ = false
  peel : RPeelIn Gp p k m K (ds.map Dr.s) L lv tv w
  row : OwnR w 0 37 2 (.slice a ds.length cap) (ds.map Dr.row)
  own : ∀ i, (Value.slice a ds.length cap).ownBlock = some i → G i ∧ i ≠ x ∧ ¬ Gp i
  ok : ∀ d ∈ ds, drpE k m d.s d.t = 0
  most : ds.length ≤ 60
  left : L.length ≤ ds.length
def REarO (G : Nat → Prop) (x k m n : Nat) (q : Int) (K : Kn) (L : List Dr) (ds : List Dr) (w : World) : Prop := ∃ Gp p lv tv a cap, REarIn G Gp x p k m n q K L lv tv ds a cap w
section
variable {G Gp H : Nat → Prop} {x p k m n : Nat} {q : Int} {K K' : Kn} {L L' : List Dr} {lv tv lv' tv' : Value} {ds : List Dr} {a : Option Addr} {cap : Nat} {w w1 w2 w3 w4 w' : World}
theorem REarIn.fr (h : REarIn G Gp x p k m n q K L lv tv ds a cap w) (hf : Fr H w w') (hd : ∀ i, G i → ¬ H i) : REarIn G Gp x p k m n q K L lv tv ds a cap w' := by
  have dx := hd _ h.gx
  have lx := h.lt _ h.gx
  exact ⟨fun i hi => Nat.lt_of_lt_of_le (h.lt i hi) hf.size, h.gx, h.sub, h.npx, hf.cell_at h.c0 dx, hf.cell_at h.c1 dx, hf.cell_at h.c2 dx, hf.cell_at h.c3 dx, hf.cell_at h.c4 dx, hf.cell_at h.c5 dx, hf.free_at lx h.f3 dx, hf.free_at lx h.f5 dx,
    h.peel.fr hf (fun i hi => hd i (h.sub i hi)), h.row.fr hf (fun i hi => hd _ (h.own i hi).1), h.own, h.ok, h.most, h.left⟩
theorem REarIn.keep (h : REarIn G Gp x p k m n q K L lv tv ds a cap w) (hb : Lat w w') : REarIn G Gp x p k m n q K L lv tv ds a cap w' := h.fr (H := fun _ => False) (Fr.lat hb) (fun _ _ e => e)
theorem REarO.fr (h : REarO G x k m n q K L ds w) (hf : Fr H w w') (hd : ∀ i, G i → ¬ H i) : REarO G x k m n q K L ds w' := by
  obtain ⟨Gp, p, lv, tv, a, cap, h⟩ := h
  exact ⟨Gp, p, lv, tv, a, cap, h.fr hf hd⟩
theorem REarO.keep (h : REarO G x k m n q K L ds w) (hb : Lat w w') : REarO G x k m n q K L ds w' := by
  obtain ⟨Gp, p, lv, tv, a, cap, h⟩ := h
  exact ⟨Gp, p, lv, tv, a, cap, h.keep hb⟩
theorem REarO.lt (h : REarO G x k m n q K L ds w) : ∀ i, G i → i < w.heap.size := by
  obtain ⟨Gp, p, lv, tv, a, cap, h⟩ := h
  exact h.lt
theorem REarO.most (h : REarO G x k m n q K L ds w) : ds.length ≤ 60 := by
  obtain ⟨Gp, p, lv, tv, a, cap, h⟩ := h
  exact h.most
theorem REarIn.count (h : REarIn G Gp x p k m n q K L lv tv ds a cap w) (q' : Int) : REarIn G Gp x p k m n q' K L lv tv ds a cap (w.setCell ⟨x, 3, none⟩ (.int .i64 q')) := by
  have hf : Fr (fun i => i = x) w (w.setCell ⟨x, 3, none⟩ (.int .i64 q')) := Fr.set _ _ _ rfl
  have hs : (w.setCell ⟨x, 3, none⟩ (.int .i64 q')).heap.size = w.heap.size := by simp [World.setCell]
  have c : ∀ j v, j ≠ 3 → w.cell? ⟨x, j, none⟩ = some v → (w.setCell ⟨x, 3, none⟩ (.int .i64 q')).cell? ⟨x, j, none⟩ = some v := fun j v hj hx => by
    rw [World.cell?_setCell_other _ _ _ _ (by intro e; injection e with _ e _; exact hj e.symm)]; exact hx
  exact ⟨fun i hi => by rw [hs]; exact h.lt i hi, h.gx, h.sub, h.npx, c _ _ (by decide) h.c0, c _ _ (by decide) h.c1, c _ _ (by decide) h.c2, World.cell?_setCell_same _ _ _ h.c3, c _ _ (by decide) h.c4, c _ _ (by decide) h.c5,
    by rw [World.frozen?_setCell]; exact h.f3, by rw [World.frozen?_setCell]; exact h.f5, h.peel.fr hf (fun i hi e => h.npx (e ▸ hi)), h.row.fr hf (fun i hi e => (h.own i hi).2.1 e), h.own, h.ok, h.most, h.left⟩
theorem REarIn.heard {Gp' : Nat → Prop} {d : Dr} {g cap' : Nat} (h : REarIn G Gp x p k m n q K L lv tv ds a cap w1) (hf : Fr Gp w1 w2) (hp : RPeelIn Gp' p k m K' (ds.map Dr.s ++ [d.s]) L' lv' tv' w2) (hGp : ∀ i, Gp' i → Gp i ∨ w1.heap.size ≤ i) (hl : Lat w2 w3)
    (hs : AppStep w3 w4 (.slice a ds.length cap) (.slice (some ⟨g, 0, none⟩) (ds.length + 1) cap')) (hb : Below 0 w3 w4) (ho : OwnR w4 0 37 2 (.slice (some ⟨g, 0, none⟩) (ds.length + 1) cap') (ds.map Dr.row ++ [d.row])) (hd : drpE k m d.s d.t = 0) (h60 : ds.length < 60) (hL' : L'.length ≤ ds.length + 1) :
    REarIn (fun i => i < (w4.setCell ⟨x, 5, none⟩ (.slice (some ⟨g, 0, none⟩) (ds.length + 1) cap')).heap.size ∧ (G i ∨ w1.heap.size ≤ i)) Gp' x p k m n q K' L' lv' tv' (ds ++ [d]) (some ⟨g, 0, none⟩) cap' (w4.setCell ⟨x, 5, none⟩ (.slice (some ⟨g, 0, none⟩) (ds.length + 1) cap')) := by
  obtain ⟨w5, hw5⟩ : ∃ w5, w5 = w4.setCell ⟨x, 5, none⟩ (.slice (some ⟨g, 0, none⟩) (ds.length + 1) cap') := ⟨_, rfl⟩
  have hfa : Fr (fun i => (Value.slice a ds.length cap).ownBlock = some i) w3 w4 := ⟨hb.os, hb.tape, hb.output, hs.size, fun i hi hne => hs.block i hi (fun e => hne e.symm)⟩
  have hf5 : Fr (fun i => i = x) w4 w5 := by rw [hw5]; exact Fr.set _ _ _ rfl
  have hs5 : w5.heap.size = w4.heap.size := by rw [hw5]; simp [World.setCell]
  have hlx := h.lt _ h.gx
  have h12 := hf.size
  have h23 := hl.size
  have h34 := hs.size
  have no : ¬ (Value.slice a ds.length cap).ownBlock = some x := fun e => (h.own x e).2.1 rfl
  have c : ∀ j v, j ≠ 5 → w1.cell? ⟨x, j, none⟩ = some v → w5.cell? ⟨x, j, none⟩ = some v := fun j v hj hx => by
    rw [hw5, World.cell?_setCell_other _ _ _ _ (by intro e; injection e with _ e _; exact hj e.symm)]
    exact hfa.cell_at (hl.cell_at (hf.cell_at hx h.npx)) no
  have c5 : w5.cell? ⟨x, 5, none⟩ = some (.slice (some ⟨g, 0, none⟩) (ds.length + 1) cap') := by rw [hw5]; exact World.cell?_setCell_same _ _ _ (hfa.cell_at (hl.cell_at (hf.cell_at h.c5 h.npx)) no)
  have fz : ∀ j, w1.frozen? ⟨x, j, none⟩ = false → w5.frozen? ⟨x, j, none⟩ = false := fun j hj => by
    rw [hw5, World.frozen?_setCell]
    exact hfa.free_at (show x < w3.heap.size by omega) (hl.free_at (show x < w2.heap.size by omega) (hf.free_at hlx hj h.npx)) no
  have hg : ((Value.slice a ds.length cap).ownBlock = some g) ∨ w3.heap.size ≤ g := by
    rcases hs.loc with e | ⟨g2, e, hg⟩
    · exact .inl e.symm
    · have : g = g2 := Option.some.inj e
      exact .inr (by omega)
  have hgl := (OwnR.lt ho g rfl).2
  have hpl := hp.lt
  have hgx : g ≠ x := by
    rcases hg with e | e
    · exact (h.own g e).2.1
    · omega
  have hgp : ¬ Gp' g := fun e => by
    rcases hg with e2 | e2
    · rcases hGp g e with e3 | e3
      · exact (h.own g e2).2.2 e3
      · have := h.lt g (h.own g e2).1; omega
    · have := hpl g e; omega
  have hpf : ∀ i, Gp' i → ¬ (Value.slice a ds.length cap).ownBlock = some i := fun i hi e => by
    rcases hGp i hi with e3 | e3
    · exact (h.own i e).2.2 e3
    · have := h.lt i (h.own i e).1; omega
  have hpx : ¬ Gp' x := fun e => by
    rcases hGp x e with e3 | e3
    · exact h.npx e3
    · omega
  rw [← hw5]
  have hll : (ds ++ [d]).length = ds.length + 1 := by rw [List.length_append]; rfl
  refine ⟨fun i hi => hi.1, ⟨by omega, .inl h.gx⟩, fun i hi => ⟨by have := hpl i hi; omega, (hGp i hi).imp (h.sub i) id⟩, hpx, c _ _ (by decide) h.c0, c _ _ (by decide) h.c1, c _ _ (by decide) h.c2, c _ _ (by decide) h.c3, c _ _ (by decide) h.c4, by rw [hll]; exact c5, fz _ h.f3, fz _ h.f5, ?_, ?_, fun i hi => ?_, fun d' hd' => ?_, by omega, by omega⟩
  · rw [List.map_append]
    exact ((hp.keep hl).fr hfa hpf).fr hf5 (fun i hi e => hpx (e ▸ hi))
  · rw [hll, List.map_append]
    exact ho.fr hf5 (fun i hi e => hgx (by rw [← e]; exact Option.some.inj hi))
  · rw [hll] at hi
    obtain rfl : g = i := Option.some.inj hi
    refine ⟨⟨by omega, ?_⟩, hgx, hgp⟩
    rcases hg with e | e
    · exact .inl (h.own g e).1
    · exact .inr (by omega)
  · rcases List.mem_append.1 hd' with h1 | h1
    · exact h.ok d' h1
    · rw [List.mem_singleton.1 h1]; exact hd
end
end Go.Proofs.YtcpookgbneoilaaGreatDoor

namespace Go.Proofs.YtcpookgbneoilaaGreatDoor
open Go.ChangeShapes Go.WideShapes Go.ChangeAt Go.RowKit

set_option maxHeartbeats 2000000 in
set_option maxRecDepth 100000 in
theorem ref_seeds (G : Nat → Prop) (x k m n : Nat) (q : Int) (K : Kn) (L : List Dr) (ds : List Dr) (w : World) (h : REarO G x k m n q K L ds w) :
    Calls Tryz.prog 11 #[.pointer (some ⟨x, 0, none⟩)] w fun e w' => ∃ a c, e = .returned (.slice a ds.length c) ∧ IntsAt w' a ds.length c (ds.map Dr.s) ∧ Lat w w' := by
  obtain ⟨Gp, p, lv, tv, a, cap, h⟩ := h
  have hm60 := h.most
  have c5 := h.c5
  obtain ⟨nd, hnd⟩ : ∃ nd, nd = ds.length := ⟨_, rfl⟩
  obtain ⟨a', cap', he, hat⟩ := OwnR.slice h.row (show (ds.map Dr.row).length = nd by rw [List.length_map, hnd])
  injection he with e1 _ e3
  subst e1
  subst e3
  have hwf : ∀ d ∈ ds, I64 d.s := fun d hd => by
    have := drpE_zero (h.ok d hd)
    unfold I64; omega
  rw [← hnd] at c5 hm60 ⊢
  have hle := hat.le
  have hcm := hat.cap
  unfold maxLen at hcm
  have HR := Lib.hid hat; have HN := Lib.hid hnd; have HWF := Lib.hid hwf; have HC5 := Lib.hid c5
  clear h hat hnd hwf c5
  go_enter Tryz.func11, Tryz.ntmps11
  go_wp2_with fail
  go_loopw [3, 4] (fun v i wr => ∃ j : Nat, j ≤ nd ∧ i = .int .i64 j ∧ Hid (OwnInts wr w.heap.size v ((ds.map Dr.s).take j) ∧ Lat w wr)) (fun _ i _ => nd - (intOf i).toNat)
  case atStart => exact ⟨0, Nat.zero_le _, rfl, by rw [List.take_zero]; exact Own.nil _ _ _, Lat.refl _⟩
  case round =>
    obtain ⟨j, hj, rfl, hrel⟩ := hrel
    have c5 := hrel.out.2.cell_at HC5.out
    by_cases hlt : j < nd
    · obtain ⟨b, o, rfl, hcell⟩ := HR.out.at_ (by omega)
      have hjl : j < ds.length := by rw [← HN.out]; exact hlt
      obtain ⟨V, hV⟩ : ∃ V, V = ds[j] := ⟨_, rfl⟩
      have hd : ds[j]? = some V := by rw [hV]; exact List.getElem?_eq_getElem hjl
      have hr2 : (ds.map Dr.row)[j]? = some V.row := by rw [List.getElem?_map, hd]; rfl
      have c0 := (hcell j _ hr2).2 0 _ rfl
      rw [Nat.add_zero] at c0
      have c0 := hrel.out.2.cell_at c0
      have hst : (ds.map Dr.s).take (j + 1) = (ds.map Dr.s).take j ++ [V.s] := by
        rw [List.take_succ_eq_append_getElem (by rw [List.length_map]; exact hjl), List.getElem_map, ← hV]
      have hl : ((ds.map Dr.s).take j).length < 1000000 := by rw [List.length_take]; omega
      obtain ⟨s, t⟩ := V
      simp only at c0 hst
      have HST := Lib.hid hst; have HL := Lib.hid hl; have HREL := Lib.hid hrel.out
      have i1 : (0 : Int) ≤ (j : Int) := by omega
      have i2 : (j : Int) < (nd : Int) := by omega
      clear hst hl hcell hd hV hjl hr2 hrel
      go_wp2_with (at_builtin; refine app_intL wr w.heap.size rfl (.tmp 14) (.tmp 23) rfl u3 ((ds.map Dr.s).take j) s rfl HREL.out.1 rfl HL.out HREL.out.2.size ?_; intro v3 w3 hown3 hfr3 hloc3)
      have hl3 := hfr3.lat_of HREL.out.2 (fun k hk => (Own.lt HREL.out.1 k hk).1)
      rw [← HST.out] at hown3
      have HO3 := Lib.hid hown3; have HL3 := Lib.hid hl3
      clear hown3 hfr3 hloc3 hl3
      try go_wp2_with fail
      go_roundw
      case rel => exact ⟨j + 1, by omega, by go_num, HO3.out, HL3.out⟩
      case measure => simp [intOf]; omega
    · obtain rfl : j = nd := by omega
      have dj : decide (j < j) = false := decide_eq_false (by omega)
      have hfin : (ds.map Dr.s).take j = ds.map Dr.s := List.take_of_length_le (by rw [List.length_map, HN.out]; exact Nat.le_refl _)
      have hrl := hrel.out
      rw [hfin] at hrl
      obtain ⟨a, cap, rfl, hat⟩ := OwnInts.sliceN (n := j) hrl.1 (fun z hz => by obtain ⟨d, hd, rfl⟩ := List.mem_map.1 hz; exact HWF.out d hd) (by rw [List.length_map, HN.out])
      have HA := Lib.hid hat; have HB := Lib.hid hrl.2
      clear hfin hrl hrel hat
      go_wp2_with fail
      go_ret
      exact ⟨a, cap, rfl, HA.out, HB.out⟩
end Go.Proofs.YtcpookgbneoilaaGreatDoor

namespace Go.Proofs.YtcpookgbneoilaaGreatDoor
open Go.ChangeShapes Go.WideShapes Go.ChangeAt Go.RowKit

set_option maxHeartbeats 4000000 in
set_option maxRecDepth 100000 in
theorem refKnows (G : Nat → Prop) (p k m : Nat) (K : Kn) (T : List Int) (ds : List Dr) (lv tv : Value) (w : World) (h : RPeelIn G p k m K T ds lv tv w) (h2 : k ≤ 16) :
    Calls Tryz.prog 24 #[.pointer (some ⟨p, 0, none⟩)] w fun e w' => ∃ v, e = .returned v ∧ OwnInts w' w.heap.size v (knwL K k) ∧ Lat w w' := by
  have hk0 : ∀ W, Lat w W → W.cell? ⟨p, 0, none⟩ = some (.int .i64 k) := fun W hW => hW.cell_at (h.blk.cell 0 (by decide))
  have hkn : ∀ W, Lat w W → ∀ q, q < 16 → W.cell? ⟨p, 1 + q, none⟩ = some (.bool (K (q : Int)).isSome) := fun W hW q hq => by
    rw [(h.blk.keep hW).cell (1 + q) (by omega)]
    unfold plF
    rw [if_neg (by omega), if_pos (by omega), show ((1 + q : Nat) : Int) - 1 = (q : Int) by omega]
  have hks := knwL_succ K
  have hkl := knwL_len K
  have HK0 := Lib.hid hk0; have HKN := Lib.hid hkn; have HKS := Lib.hid hks; have HKL := Lib.hid hkl
  clear h hk0 hkn hks hkl
  go_enter Tryz.func24, Tryz.ntmps24
  go_wp2_with fail
  go_loopg [3, 4] k (fun f ov iv wx => ∃ j : Nat, j + f = k ∧ iv = .int .i64 j ∧ Hid (OwnInts wx w.heap.size ov (knwL K j) ∧ Lat w wx))
  case atStart => exact ⟨0, by omega, rfl, Own.nil _ _ _, Lat.refl w⟩
  case round =>
    obtain ⟨j, hj, rfl, hrel⟩ := hrel
    have ck := HK0.out wr hrel.out.2
    by_cases hlt : j < k
    · obtain ⟨f, rfl⟩ : ∃ f, gk = f + 1 := ⟨gk - 1, by omega⟩
      have dj : decide (j < k) = true := decide_eq_true hlt
      have cb := HKN.out wr hrel.out.2 j (by omega)
      have hks := HKS.out j
      have hkl := HKL.out j
      obtain ⟨U, hU⟩ : ∃ U, U = (K (j : Int)).isSome := ⟨_, rfl⟩
      rw [← hU] at cb hks
      have i0 : (0 : Int) ≤ (j : Int) := by omega
      have i1 : (j : Int) < 16 := by omega
      have HKS2 := Lib.hid hks; have HKL2 := Lib.hid hkl; have HREL := Lib.hid hrel.out
      clear hrel hks hkl hU
      cases U with
      | true =>
        have hk2 := HKS2.out
        rw [if_pos rfl] at hk2
        have HK2 := Lib.hid hk2
        clear hk2 HKS2
        go_wp2_with (at_builtin; refine app_intL wr w.heap.size rfl (.tmp 19) (.tmp 21) rfl u3 (knwL K j) (j : Int) rfl HREL.out.1 rfl (by have := HKL2.out; omega) HREL.out.2.size ?_; intro v3 w3 hown3 hfr3 hloc3)
        have hl3 := hfr3.lat_of HREL.out.2 (fun k hk => (Own.lt HREL.out.1 k hk).1)
        rw [← HK2.out] at hown3
        have HO3 := Lib.hid hown3; have HL3 := Lib.hid hl3
        clear hown3 hfr3 hloc3 hl3
        try go_wp2_with fail
        go_roundg f
        case measure => omega
        case rel => exact ⟨j + 1, by omega, by go_num, HO3.out, HL3.out⟩
      | false =>
        have hk2 := HKS2.out
        rw [if_neg (fun e => Bool.noConfusion e)] at hk2
        have HK2 := Lib.hid hk2
        clear hk2 HKS2
        go_wp2_with fail
        go_roundg f
        case measure => omega
        case rel => exact ⟨j + 1, by omega, by go_num, by rw [HK2.out]; exact HREL.out⟩
    · obtain rfl : j = k := by omega
      have dj : decide (j < j) = false := decide_eq_false (by omega)
      have HREL := Lib.hid hrel.out
      clear hrel
      go_wp2_with fail
      go_ret
      exact ⟨_, rfl, HREL.out.1, HREL.out.2⟩
end Go.Proofs.YtcpookgbneoilaaGreatDoor

namespace Go.Proofs.YtcpookgbneoilaaGreatDoor
open Go.ChangeShapes Go.WideShapes Go.ChangeAt Go.RowKit

structure REarStep (G : Nat → Prop) (x k m n : Nat) (q : Int) (K : Kn) (L : List Dr) (ds : List Dr) (w w' : World) : Prop where
  fr : Fr G w w'
  obj : ∃ G', REarO G' x k m n q K L ds w' ∧ ∀ i, G' i → G i ∨ w.heap.size ≤ i
theorem rtk_len (k : Nat) : ∀ (f : Nat) (K : Kn) (L : List Dr) (o : List Int), (rtk k f K L o).2.1.length ≤ L.length
  | 0, K, L, o => List.length_filter_le _ _
  | f + 1, K, L, o => by
    rw [rtk]
    split
    · exact List.length_filter_le _ _
    · exact Nat.le_trans (rtk_len k f _ _ _) (List.length_filter_le _ _)
theorem rtkL_len (k : Nat) (K : Kn) (L : List Dr) : (rtkL k K L).length ≤ L.length := rtk_len k _ K L []
theorem knwL_rng {K : Kn} {k : Nat} {z : Int} (h : z ∈ knwL K k) : 0 ≤ z ∧ z < (k : Int) := by
  unfold knwL at h
  obtain ⟨i, hi, rfl⟩ := List.mem_map.1 (List.mem_filter.1 h).1
  have := List.mem_range.1 hi
  exact ⟨Int.natCast_nonneg i, by show (i : Int) < k; omega⟩

set_option maxHeartbeats 4000000 in
set_option maxRecDepth 100000 in
theorem ref_hear_bad (G : Nat → Prop) (x k m n : Nat) (q : Int) (K0 : Kn) (L : List Dr) (ds : List Dr) (s : Int) (t : Bts) (w : World) (h : REarO G x k m n q K0 L ds w) (hE : hrE k m ds s t ≠ 0) :
    Calls Tryz.prog 7 #[.pointer (some ⟨x, 0, none⟩), .agg #[.int .i64 s, .string (S t)]] w fun e w' => e = .returned (.tuple #[.agg #[.int .i64 0, .int .i64 0, .int .i64 0], .int .i64 (hrE k m ds s t : Nat)]) ∧ Lat w w' := by
  obtain ⟨Gp, p, lv, tv, a, cap, h⟩ := h
  have hck := fun W => refDrop k m s (S t) W
  have HH := Lib.hid h
  by_cases h1 : drpE k m s (S t) = 0
  · have hfull : 60 ≤ ds.length := by
      rcases Nat.lt_or_ge ds.length 60 with h3 | h3
      · exact absurd (by unfold hrE; rw [if_neg (fun e => e h1), if_neg (by omega)]) hE
      · exact h3
    have e1 : hrE k m ds s t = 4 := by unfold hrE; rw [if_neg (fun e => e h1), if_pos hfull]
    rw [e1]
    rw [h1] at hck
    have HCK : Hid (∀ W, Calls Tryz.prog 21 #[.int .i64 k, .int .i64 m, .agg #[.int .i64 s, .string (S t)]] W fun e w' => e = .returned (.int .i64 0) ∧ Lat W w') := hck
    obtain ⟨ln, hln⟩ : ∃ ln, ln = ds.length := ⟨_, rfl⟩
    have d60 : decide ((60 : Int) ≤ (ln : Int)) = true := decide_eq_true (by omega)
    have HLN := Lib.hid hln
    clear h hck h1 hE e1 hfull hln
    go_enter Tryz.func7, Tryz.ntmps7
    go_upto_region 1 with fail
    obtain ⟨X, hX⟩ : ∃ X, X = w.heap.size := ⟨_, rfl⟩
    obtain ⟨W0, hW0⟩ : ∃ W0, W0 = (w.alloc (.cells #[.int .i64 s, .string (S t)] 37)).alloc (.cells #[.int .i64 0, .int .i64 0, .int .i64 0] 33) := ⟨_, rfl⟩
    have hb0 := HL.new w s t
    rw [← hW0] at hb0
    rw [← hW0]
    rw [← hX] at hb0
    rw [← hX]
    have HX : Hid (X = w.heap.size) := hX
    clear hW0 hX
    have hF : W0.drew.cell? ⟨x, 0, none⟩ = some (.int .i64 k) ∧ W0.drew.cell? ⟨x, 1, none⟩ = some (.int .i64 m) ∧ W0.drew.cell? ⟨X, 0, none⟩ = some (.int .i64 s) ∧ W0.drew.cell? ⟨X, 1, none⟩ = some (.string (S t)) := ⟨hb0.lat.cell_at HH.out.c0, hb0.lat.cell_at HH.out.c1, hb0.c0, hb0.c1⟩
    have HB0 := Lib.hid (hb0.keep (Lat.drew W0))
    clear hb0
    refine wp_region_gate (fun w' => w'.cell? ⟨x, 0, none⟩ = some (.int .i64 k) ∧ w'.cell? ⟨x, 1, none⟩ = some (.int .i64 m) ∧ w'.cell? ⟨X, 0, none⟩ = some (.int .i64 s) ∧ w'.cell? ⟨X, 1, none⟩ = some (.string (S t))) (fun _ => True) 1000 (by kernel_rfl) ?_
    refine gate_takeF (i := 0) (v := ?_) rfl (by kernel_rfl) (by kernel_rfl) (by kernel_rfl) (fun _ _ _ h => h) (by decide) ⟨hF, fun _ => trivial⟩ (Or.inl ⟨by rfl, ?_⟩) ?_
    rotate_left
    · intro wq hSw; obtain ⟨s0, s1, s2, s3⟩ := hSw; go_simp; rfl
    simp only [Act.put]
    refine gate_takeF (i := 1) (v := ?_) rfl (by kernel_rfl) (by kernel_rfl) (by kernel_rfl) (fun _ _ _ h => h) (by decide) ⟨hF, fun _ => trivial⟩ (Or.inl ⟨by rfl, ?_⟩) ?_
    rotate_left
    · intro wq hSw; obtain ⟨s0, s1, s2, s3⟩ := hSw; go_simp; rfl
    simp only [Act.put]
    refine gate_takeF (i := 2) (v := ?_) rfl (by kernel_rfl) (by kernel_rfl) (by kernel_rfl) (fun _ _ _ h => h) (by decide) ⟨hF, fun _ => trivial⟩ (Or.inl ⟨by rfl, ?_⟩) ?_
    rotate_left
    · intro wq hSw; obtain ⟨s0, s1, s2, s3⟩ := hSw; go_simp; rfl
    simp only [Act.put]
    refine gate_takeF (i := 3) (v := ?_) rfl (by kernel_rfl) (by kernel_rfl) (by kernel_rfl) (fun _ _ _ h => h) (by decide) ⟨hF, fun _ => trivial⟩ (Or.inl ⟨by rfl, ?_⟩) ?_
    rotate_left
    · intro wq hSw; obtain ⟨s0, s1, s2, s3⟩ := hSw; go_simp; rfl
    simp only [Act.put]
    refine gate_takeF (i := 4) (v := ?_) rfl (by kernel_rfl) (by kernel_rfl) (by kernel_rfl) (fun _ _ _ h => h) (by decide) ⟨hF, fun _ => trivial⟩ (Or.inl ⟨by rfl, ?_⟩) ?_
    rotate_left
    · intro wq hSw; obtain ⟨s0, s1, s2, s3⟩ := hSw; go_simp; rfl
    simp only [Act.put]
    refine gate_takeF (i := 5) (v := ?_) rfl (by kernel_rfl) (by kernel_rfl) (by kernel_rfl) (fun _ _ _ h => h) (by decide) ⟨hF, fun _ => trivial⟩ (Or.inl ⟨by rfl, ?_⟩) ?_
    rotate_left
    · intro wq hSw; obtain ⟨s0, s1, s2, s3⟩ := hSw; go_simp; rfl
    simp only [Act.put]
    refine gate_takeF (i := 6) (v := ?_) rfl (by kernel_rfl) (by kernel_rfl) (by kernel_rfl) (fun _ _ _ h => h) (by decide) ⟨hF, fun _ => trivial⟩ (Or.inl ⟨by rfl, ?_⟩) ?_
    rotate_left
    · intro wq hSw; obtain ⟨s0, s1, s2, s3⟩ := hSw; go_simp; rfl
    simp only [Act.put]
    refine gate_takeF (i := 7) (v := ?_) rfl (by kernel_rfl) (by kernel_rfl) (by kernel_rfl) (fun _ _ _ h => h) (by decide) ⟨hF, fun _ => trivial⟩ (Or.inl ⟨by rfl, ?_⟩) ?_
    rotate_left
    · intro wq hSw; obtain ⟨s0, s1, s2, s3⟩ := hSw; go_simp; rfl
    simp only [Act.put]
    refine gate_takeF (i := 8) (v := ?_) rfl (by kernel_rfl) (by kernel_rfl) (by kernel_rfl) (fun _ _ _ h => h) (by decide) ⟨hF, fun _ => trivial⟩ (Or.inl ⟨by rfl, ?_⟩) ?_
    rotate_left
    · intro wq hSw; obtain ⟨s0, s1, s2, s3⟩ := hSw; go_simp; rfl
    simp only [Act.put]
    refine gate_one (i := 9) (by kernel_rfl) rfl (fun K hK => ?_)
    go_simp
    refine (HCK.out _).mono ?_
    rintro e w5 ⟨rfl, hb5⟩
    have hF' : w5.cell? ⟨x, 0, none⟩ = some (.int .i64 k) ∧ w5.cell? ⟨x, 1, none⟩ = some (.int .i64 m) ∧ w5.cell? ⟨X, 0, none⟩ = some (.int .i64 s) ∧ w5.cell? ⟨X, 1, none⟩ = some (.string (S t)) := ⟨hb5.cell_at hF.1, hb5.cell_at hF.2.1, hb5.cell_at hF.2.2.1, hb5.cell_at hF.2.2.2⟩
    refine hK _ _ ⟨hF', fun _ => trivial⟩ ?_
    clear hK K hF
    have hF := hF'
    clear hF'
    refine gate_takeF (i := 10) (v := ?_) rfl (by kernel_rfl) (by kernel_rfl) (by kernel_rfl) (fun _ _ _ h => h) (by decide) ⟨hF, fun _ => trivial⟩ (Or.inl ⟨by rfl, ?_⟩) ?_
    rotate_left
    · intro wq hSw; obtain ⟨s0, s1, s2, s3⟩ := hSw; go_simp; rfl
    simp only [Act.put]
    refine gate_done (by kernel_rfl) ?_ _
    have HB5 := Lib.hid (HB0.out.keep hb5)
    clear hb5 HB0 hF
    have c5 := HB5.out.lat.cell_at HH.out.c5
    rw [← HLN.out] at c5
    have e0 := HB5.out.r0
    have e1 := HB5.out.r1
    have e2 := HB5.out.r2
    have g0 := HB5.out.g0
    have g1 := HB5.out.g1
    have g2 := HB5.out.g2
    have QQ := three_put e0 e1 e2 (.int .i64 0) (.int .i64 0) (.int .i64 0)
    have hl : Lat w (((w5.setCell ⟨X + 1, 0, none⟩ (.int .i64 0)).setCell ⟨X + 1, 1, none⟩ (.int .i64 0)).setCell ⟨X + 1, 2, none⟩ (.int .i64 0)) := by
      have hw1 : w.heap.size ≤ X + 1 := by have := HX.out; omega
      exact ((HB5.out.lat.setCell (p := ⟨X + 1, 0, none⟩) hw1 _).setCell (p := ⟨X + 1, 1, none⟩) hw1 _).setCell (p := ⟨X + 1, 2, none⟩) hw1 _
    have HQ := Lib.hid QQ; have HLL := Lib.hid hl
    clear QQ hl
    go_wp2
    have Q0 := HQ.out
    exact bodyPost_ret (v := .tuple #[.agg #[.int .i64 0, .int .i64 0, .int .i64 0], .int .i64 4]) (by simp [results, Tryz.results7, go_sem, Q0.1, Q0.2.1, Q0.2.2]) rfl ⟨rfl, HLL.out⟩
  · have e1 : hrE k m ds s t = drpE k m s (S t) := by unfold hrE; rw [if_pos h1]
    rw [e1]
    skip
    obtain ⟨E, hEE⟩ : ∃ E, E = drpE k m s (S t) := ⟨_, rfl⟩
    rw [← hEE] at hck ⊢
    have HCK : Hid (∀ W, Calls Tryz.prog 21 #[.int .i64 k, .int .i64 m, .agg #[.int .i64 s, .string (S t)]] W fun e w' => e = .returned (.int .i64 (E : Nat)) ∧ Lat W w') := hck
    have dE : ((E : Int) != 0) = true := by rw [bne_iff_ne]; omega
    clear h hck h1 hE hEE e1
    go_enter Tryz.func7, Tryz.ntmps7
    go_upto_region 1 with fail
    obtain ⟨X, hX⟩ : ∃ X, X = w.heap.size := ⟨_, rfl⟩
    obtain ⟨W0, hW0⟩ : ∃ W0, W0 = (w.alloc (.cells #[.int .i64 s, .string (S t)] 37)).alloc (.cells #[.int .i64 0, .int .i64 0, .int .i64 0] 33) := ⟨_, rfl⟩
    have hb0 := HL.new w s t
    rw [← hW0] at hb0
    rw [← hW0]
    rw [← hX] at hb0
    rw [← hX]
    have HX : Hid (X = w.heap.size) := hX
    clear hW0 hX
    have hF : W0.drew.cell? ⟨x, 0, none⟩ = some (.int .i64 k) ∧ W0.drew.cell? ⟨x, 1, none⟩ = some (.int .i64 m) ∧ W0.drew.cell? ⟨X, 0, none⟩ = some (.int .i64 s) ∧ W0.drew.cell? ⟨X, 1, none⟩ = some (.string (S t)) := ⟨hb0.lat.cell_at HH.out.c0, hb0.lat.cell_at HH.out.c1, hb0.c0, hb0.c1⟩
    have HB0 := Lib.hid (hb0.keep (Lat.drew W0))
    clear hb0
    refine wp_region_gate (fun w' => w'.cell? ⟨x, 0, none⟩ = some (.int .i64 k) ∧ w'.cell? ⟨x, 1, none⟩ = some (.int .i64 m) ∧ w'.cell? ⟨X, 0, none⟩ = some (.int .i64 s) ∧ w'.cell? ⟨X, 1, none⟩ = some (.string (S t))) (fun _ => True) 1000 (by kernel_rfl) ?_
    refine gate_takeF (i := 0) (v := ?_) rfl (by kernel_rfl) (by kernel_rfl) (by kernel_rfl) (fun _ _ _ h => h) (by decide) ⟨hF, fun _ => trivial⟩ (Or.inl ⟨by rfl, ?_⟩) ?_
    rotate_left
    · intro wq hSw; obtain ⟨s0, s1, s2, s3⟩ := hSw; go_simp; rfl
    simp only [Act.put]
    refine gate_takeF (i := 1) (v := ?_) rfl (by kernel_rfl) (by kernel_rfl) (by kernel_rfl) (fun _ _ _ h => h) (by decide) ⟨hF, fun _ => trivial⟩ (Or.inl ⟨by rfl, ?_⟩) ?_
    rotate_left
    · intro wq hSw; obtain ⟨s0, s1, s2, s3⟩ := hSw; go_simp; rfl
    simp only [Act.put]
    refine gate_takeF (i := 2) (v := ?_) rfl (by kernel_rfl) (by kernel_rfl) (by kernel_rfl) (fun _ _ _ h => h) (by decide) ⟨hF, fun _ => trivial⟩ (Or.inl ⟨by rfl, ?_⟩) ?_
    rotate_left
    · intro wq hSw; obtain ⟨s0, s1, s2, s3⟩ := hSw; go_simp; rfl
    simp only [Act.put]
    refine gate_takeF (i := 3) (v := ?_) rfl (by kernel_rfl) (by kernel_rfl) (by kernel_rfl) (fun _ _ _ h => h) (by decide) ⟨hF, fun _ => trivial⟩ (Or.inl ⟨by rfl, ?_⟩) ?_
    rotate_left
    · intro wq hSw; obtain ⟨s0, s1, s2, s3⟩ := hSw; go_simp; rfl
    simp only [Act.put]
    refine gate_takeF (i := 4) (v := ?_) rfl (by kernel_rfl) (by kernel_rfl) (by kernel_rfl) (fun _ _ _ h => h) (by decide) ⟨hF, fun _ => trivial⟩ (Or.inl ⟨by rfl, ?_⟩) ?_
    rotate_left
    · intro wq hSw; obtain ⟨s0, s1, s2, s3⟩ := hSw; go_simp; rfl
    simp only [Act.put]
    refine gate_takeF (i := 5) (v := ?_) rfl (by kernel_rfl) (by kernel_rfl) (by kernel_rfl) (fun _ _ _ h => h) (by decide) ⟨hF, fun _ => trivial⟩ (Or.inl ⟨by rfl, ?_⟩) ?_
    rotate_left
    · intro wq hSw; obtain ⟨s0, s1, s2, s3⟩ := hSw; go_simp; rfl
    simp only [Act.put]
    refine gate_takeF (i := 6) (v := ?_) rfl (by kernel_rfl) (by kernel_rfl) (by kernel_rfl) (fun _ _ _ h => h) (by decide) ⟨hF, fun _ => trivial⟩ (Or.inl ⟨by rfl, ?_⟩) ?_
    rotate_left
    · intro wq hSw; obtain ⟨s0, s1, s2, s3⟩ := hSw; go_simp; rfl
    simp only [Act.put]
    refine gate_takeF (i := 7) (v := ?_) rfl (by kernel_rfl) (by kernel_rfl) (by kernel_rfl) (fun _ _ _ h => h) (by decide) ⟨hF, fun _ => trivial⟩ (Or.inl ⟨by rfl, ?_⟩) ?_
    rotate_left
    · intro wq hSw; obtain ⟨s0, s1, s2, s3⟩ := hSw; go_simp; rfl
    simp only [Act.put]
    refine gate_takeF (i := 8) (v := ?_) rfl (by kernel_rfl) (by kernel_rfl) (by kernel_rfl) (fun _ _ _ h => h) (by decide) ⟨hF, fun _ => trivial⟩ (Or.inl ⟨by rfl, ?_⟩) ?_
    rotate_left
    · intro wq hSw; obtain ⟨s0, s1, s2, s3⟩ := hSw; go_simp; rfl
    simp only [Act.put]
    refine gate_one (i := 9) (by kernel_rfl) rfl (fun K hK => ?_)
    go_simp
    refine (HCK.out _).mono ?_
    rintro e w5 ⟨rfl, hb5⟩
    have hF' : w5.cell? ⟨x, 0, none⟩ = some (.int .i64 k) ∧ w5.cell? ⟨x, 1, none⟩ = some (.int .i64 m) ∧ w5.cell? ⟨X, 0, none⟩ = some (.int .i64 s) ∧ w5.cell? ⟨X, 1, none⟩ = some (.string (S t)) := ⟨hb5.cell_at hF.1, hb5.cell_at hF.2.1, hb5.cell_at hF.2.2.1, hb5.cell_at hF.2.2.2⟩
    refine hK _ _ ⟨hF', fun _ => trivial⟩ ?_
    clear hK K hF
    have hF := hF'
    clear hF'
    refine gate_takeF (i := 10) (v := ?_) rfl (by kernel_rfl) (by kernel_rfl) (by kernel_rfl) (fun _ _ _ h => h) (by decide) ⟨hF, fun _ => trivial⟩ (Or.inl ⟨by rfl, ?_⟩) ?_
    rotate_left
    · intro wq hSw; obtain ⟨s0, s1, s2, s3⟩ := hSw; go_simp; rfl
    simp only [Act.put]
    refine gate_done (by kernel_rfl) ?_ _
    have HB5 := Lib.hid (HB0.out.keep hb5)
    clear hb5 HB0 hF
    have e0 := HB5.out.r0
    have e1 := HB5.out.r1
    have e2 := HB5.out.r2
    have g0 := HB5.out.g0
    have g1 := HB5.out.g1
    have g2 := HB5.out.g2
    have QQ := three_put e0 e1 e2 (.int .i64 0) (.int .i64 0) (.int .i64 0)
    have hl : Lat w (((w5.setCell ⟨X + 1, 0, none⟩ (.int .i64 0)).setCell ⟨X + 1, 1, none⟩ (.int .i64 0)).setCell ⟨X + 1, 2, none⟩ (.int .i64 0)) := by
      have hw1 : w.heap.size ≤ X + 1 := by have := HX.out; omega
      exact ((HB5.out.lat.setCell (p := ⟨X + 1, 0, none⟩) hw1 _).setCell (p := ⟨X + 1, 1, none⟩) hw1 _).setCell (p := ⟨X + 1, 2, none⟩) hw1 _
    have HQ := Lib.hid QQ; have HLL := Lib.hid hl
    clear QQ hl
    go_wp2
    have Q0 := HQ.out
    exact bodyPost_ret (v := .tuple #[.agg #[.int .i64 0, .int .i64 0, .int .i64 0], .int .i64 (E : Nat)]) (by simp [results, Tryz.results7, go_sem, Q0.1, Q0.2.1, Q0.2.2]) rfl ⟨rfl, HLL.out⟩

set_option maxHeartbeats 4000000 in
set_option maxRecDepth 100000 in
theorem ref_hear_old (G : Nat → Prop) (x k m n : Nat) (q : Int) (K0 : Kn) (L : List Dr) (ds : List Dr) (s : Int) (t : Bts) (w : World) (h : REarO G x k m n q K0 L ds w) (hE : hrE k m ds s t = 0) (hmem : s ∈ ds.map Dr.s) (qn : Int) (hqn : wrap64 (q + 1) = qn) :
    Calls Tryz.prog 7 #[.pointer (some ⟨x, 0, none⟩), .agg #[.int .i64 s, .string (S t)]] w fun e w' => e = .returned (.tuple #[.agg #[.int .i64 qn, .int .i64 (ds.length : Nat), .int .i64 ((knwL K0 k).length : Nat)], .int .i64 0]) ∧ REarStep G x k m n qn K0 L ds w w' := by
  obtain ⟨Gp, p, lv, tv, a, cap, h⟩ := h
  obtain ⟨hde, hl60⟩ := hrE_zero hE
  have hck := fun W => refDrop k m s (S t) W
  rw [hde] at hck
  have hd2 := drpE_zero hde
  have hk16 : k ≤ 16 := by omega
  have HCK : Hid (∀ W, Calls Tryz.prog 21 #[.int .i64 k, .int .i64 m, .agg #[.int .i64 s, .string (S t)]] W fun e w' => e = .returned (.int .i64 0) ∧ Lat W w') := hck
  obtain ⟨ln, hln⟩ : ∃ ln, ln = ds.length := ⟨_, rfl⟩
  have d60 : decide ((60 : Int) ≤ (ln : Int)) = false := decide_eq_false (by omega)
  have hgp : Gp p := h.peel.gp
  have HGPP := Lib.hid hgp
  have HPNX : Hid (¬ p = x) := fun e => h.npx (e ▸ hgp)
  have HPL : Hid (p < w.heap.size) := h.lt p (h.sub p hgp)
  clear hgp
  have HKM := Lib.hid (And.intro (show 1 ≤ k by omega) (And.intro hk16 (And.intro (show m ≤ 8 by omega) (And.intro (show 1 ≤ s by omega) (And.intro (show s ≤ 10000 by omega) (show (S t).size = m by omega))))))
  have HH := Lib.hid h; have HMEM := Lib.hid hmem; have HDE := Lib.hid hde; have HLN := Lib.hid hln; have HL60 := Lib.hid hl60
  obtain ⟨kn, hkn⟩ : ∃ kn, kn = (knwL K0 k).length := ⟨_, rfl⟩
  have HKN := Lib.hid hkn
  rw [← hln, ← hkn]
  clear h hck hE hde hd2 hln hkn hmem hl60
  go_enter Tryz.func7, Tryz.ntmps7
  go_upto_region 1 with fail
  obtain ⟨X, hX⟩ : ∃ X, X = w.heap.size := ⟨_, rfl⟩
  obtain ⟨W0, hW0⟩ : ∃ W0, W0 = (w.alloc (.cells #[.int .i64 s, .string (S t)] 37)).alloc (.cells #[.int .i64 0, .int .i64 0, .int .i64 0] 33) := ⟨_, rfl⟩
  have hb0 := HL.new w s t
  rw [← hW0] at hb0
  rw [← hW0]
  rw [← hX] at hb0
  rw [← hX]
  have HX : Hid (X = w.heap.size) := hX
  clear hW0 hX
  have hF : W0.drew.cell? ⟨x, 0, none⟩ = some (.int .i64 k) ∧ W0.drew.cell? ⟨x, 1, none⟩ = some (.int .i64 m) ∧ W0.drew.cell? ⟨X, 0, none⟩ = some (.int .i64 s) ∧ W0.drew.cell? ⟨X, 1, none⟩ = some (.string (S t)) := ⟨hb0.lat.cell_at HH.out.c0, hb0.lat.cell_at HH.out.c1, hb0.c0, hb0.c1⟩
  have HB0 := Lib.hid (hb0.keep (Lat.drew W0))
  clear hb0
  refine wp_region_gate (fun w' => w'.cell? ⟨x, 0, none⟩ = some (.int .i64 k) ∧ w'.cell? ⟨x, 1, none⟩ = some (.int .i64 m) ∧ w'.cell? ⟨X, 0, none⟩ = some (.int .i64 s) ∧ w'.cell? ⟨X, 1, none⟩ = some (.string (S t))) (fun _ => True) 1000 (by kernel_rfl) ?_
  refine gate_takeF (i := 0) (v := ?_) rfl (by kernel_rfl) (by kernel_rfl) (by kernel_rfl) (fun _ _ _ h => h) (by decide) ⟨hF, fun _ => trivial⟩ (Or.inl ⟨by rfl, ?_⟩) ?_
  rotate_left
  · intro wq hSw; obtain ⟨s0, s1, s2, s3⟩ := hSw; go_simp; rfl
  simp only [Act.put]
  refine gate_takeF (i := 1) (v := ?_) rfl (by kernel_rfl) (by kernel_rfl) (by kernel_rfl) (fun _ _ _ h => h) (by decide) ⟨hF, fun _ => trivial⟩ (Or.inl ⟨by rfl, ?_⟩) ?_
  rotate_left
  · intro wq hSw; obtain ⟨s0, s1, s2, s3⟩ := hSw; go_simp; rfl
  simp only [Act.put]
  refine gate_takeF (i := 2) (v := ?_) rfl (by kernel_rfl) (by kernel_rfl) (by kernel_rfl) (fun _ _ _ h => h) (by decide) ⟨hF, fun _ => trivial⟩ (Or.inl ⟨by rfl, ?_⟩) ?_
  rotate_left
  · intro wq hSw; obtain ⟨s0, s1, s2, s3⟩ := hSw; go_simp; rfl
  simp only [Act.put]
  refine gate_takeF (i := 3) (v := ?_) rfl (by kernel_rfl) (by kernel_rfl) (by kernel_rfl) (fun _ _ _ h => h) (by decide) ⟨hF, fun _ => trivial⟩ (Or.inl ⟨by rfl, ?_⟩) ?_
  rotate_left
  · intro wq hSw; obtain ⟨s0, s1, s2, s3⟩ := hSw; go_simp; rfl
  simp only [Act.put]
  refine gate_takeF (i := 4) (v := ?_) rfl (by kernel_rfl) (by kernel_rfl) (by kernel_rfl) (fun _ _ _ h => h) (by decide) ⟨hF, fun _ => trivial⟩ (Or.inl ⟨by rfl, ?_⟩) ?_
  rotate_left
  · intro wq hSw; obtain ⟨s0, s1, s2, s3⟩ := hSw; go_simp; rfl
  simp only [Act.put]
  refine gate_takeF (i := 5) (v := ?_) rfl (by kernel_rfl) (by kernel_rfl) (by kernel_rfl) (fun _ _ _ h => h) (by decide) ⟨hF, fun _ => trivial⟩ (Or.inl ⟨by rfl, ?_⟩) ?_
  rotate_left
  · intro wq hSw; obtain ⟨s0, s1, s2, s3⟩ := hSw; go_simp; rfl
  simp only [Act.put]
  refine gate_takeF (i := 6) (v := ?_) rfl (by kernel_rfl) (by kernel_rfl) (by kernel_rfl) (fun _ _ _ h => h) (by decide) ⟨hF, fun _ => trivial⟩ (Or.inl ⟨by rfl, ?_⟩) ?_
  rotate_left
  · intro wq hSw; obtain ⟨s0, s1, s2, s3⟩ := hSw; go_simp; rfl
  simp only [Act.put]
  refine gate_takeF (i := 7) (v := ?_) rfl (by kernel_rfl) (by kernel_rfl) (by kernel_rfl) (fun _ _ _ h => h) (by decide) ⟨hF, fun _ => trivial⟩ (Or.inl ⟨by rfl, ?_⟩) ?_
  rotate_left
  · intro wq hSw; obtain ⟨s0, s1, s2, s3⟩ := hSw; go_simp; rfl
  simp only [Act.put]
  refine gate_takeF (i := 8) (v := ?_) rfl (by kernel_rfl) (by kernel_rfl) (by kernel_rfl) (fun _ _ _ h => h) (by decide) ⟨hF, fun _ => trivial⟩ (Or.inl ⟨by rfl, ?_⟩) ?_
  rotate_left
  · intro wq hSw; obtain ⟨s0, s1, s2, s3⟩ := hSw; go_simp; rfl
  simp only [Act.put]
  refine gate_one (i := 9) (by kernel_rfl) rfl (fun K hK => ?_)
  go_simp
  refine (HCK.out _).mono ?_
  rintro e w5 ⟨rfl, hb5⟩
  have hF' : w5.cell? ⟨x, 0, none⟩ = some (.int .i64 k) ∧ w5.cell? ⟨x, 1, none⟩ = some (.int .i64 m) ∧ w5.cell? ⟨X, 0, none⟩ = some (.int .i64 s) ∧ w5.cell? ⟨X, 1, none⟩ = some (.string (S t)) := ⟨hb5.cell_at hF.1, hb5.cell_at hF.2.1, hb5.cell_at hF.2.2.1, hb5.cell_at hF.2.2.2⟩
  refine hK _ _ ⟨hF', fun _ => trivial⟩ ?_
  clear hK K hF
  have hF := hF'
  clear hF'
  refine gate_takeF (i := 10) (v := ?_) rfl (by kernel_rfl) (by kernel_rfl) (by kernel_rfl) (fun _ _ _ h => h) (by decide) ⟨hF, fun _ => trivial⟩ (Or.inl ⟨by rfl, ?_⟩) ?_
  rotate_left
  · intro wq hSw; obtain ⟨s0, s1, s2, s3⟩ := hSw; go_simp; rfl
  simp only [Act.put]
  refine gate_done (by kernel_rfl) ?_ _
  have HB5 := Lib.hid (HB0.out.keep hb5)
  clear hb5 HB0 hF
  have c5 := HB5.out.lat.cell_at HH.out.c5
  rw [← HLN.out] at c5
  go_upto_region 6 with fail
  clear c5
  have hF : w5.drew.cell? ⟨X, 0, none⟩ = some (.int .i64 s) ∧ w5.drew.cell? ⟨X, 1, none⟩ = some (.string (S t)) := ⟨HB5.out.c0, HB5.out.c1⟩
  have HB6 := Lib.hid (HB5.out.keep (Lat.drew w5))
  refine wp_region_gate (fun w' => w'.cell? ⟨X, 0, none⟩ = some (.int .i64 s) ∧ w'.cell? ⟨X, 1, none⟩ = some (.string (S t))) (fun _ => True) 1000 (by kernel_rfl) ?_
  refine gate_takeF (i := 0) (v := ?_) rfl (by kernel_rfl) (by kernel_rfl) (by kernel_rfl) (fun _ _ _ h => h) (by decide) ⟨hF, fun _ => trivial⟩ (Or.inl ⟨by rfl, ?_⟩) ?_
  rotate_left
  · intro wq hSw; obtain ⟨s0, s1⟩ := hSw; go_simp; rfl
  simp only [Act.put]
  refine gate_takeF (i := 2) (v := ?_) rfl (by kernel_rfl) (by kernel_rfl) (by kernel_rfl) (fun _ _ _ h => h) (by decide) ⟨hF, fun _ => trivial⟩ (Or.inl ⟨by rfl, ?_⟩) ?_
  rotate_left
  · intro wq hSw; obtain ⟨s0, s1⟩ := hSw; go_simp; rfl
  simp only [Act.put]
  refine gate_takeF (i := 3) (v := ?_) rfl (by kernel_rfl) (by kernel_rfl) (by kernel_rfl) (fun _ _ _ h => h) (by decide) ⟨hF, fun _ => trivial⟩ (Or.inl ⟨by rfl, ?_⟩) ?_
  rotate_left
  · intro wq hSw; obtain ⟨s0, s1⟩ := hSw; go_simp; rfl
  simp only [Act.put]
  refine gate_one (i := 1) (by kernel_rfl) rfl (fun K hK => ?_)
  have hsd := ref_seeds G x k m n q K0 L ds w5.drew ⟨Gp, p, lv, tv, a, cap, HH.out.keep HB6.out.lat⟩
  rw [← HLN.out] at hsd
  go_simp
  refine hsd.mono ?_
  rintro e w6 ⟨ya, yc, rfl, hyi, hb6⟩
  have hF' : w6.cell? ⟨X, 0, none⟩ = some (.int .i64 s) ∧ w6.cell? ⟨X, 1, none⟩ = some (.string (S t)) := ⟨hb6.cell_at hF.1, hb6.cell_at hF.2⟩
  refine hK _ _ ⟨hF', fun _ => trivial⟩ ?_
  clear hK K hF hsd
  have hF := hF'
  clear hF'
  refine gate_one (i := 4) (by kernel_rfl) rfl (fun K hK => ?_)
  go_simp
  refine (refIn_yes ya ln yc _ _ w6 hyi HMEM.out).mono ?_
  rintro e w7 ⟨rfl, rfl⟩
  refine hK _ _ ⟨hF, fun _ => trivial⟩ ?_
  clear hK K
  refine gate_takeF (i := 5) (v := ?_) rfl (by kernel_rfl) (by kernel_rfl) (by kernel_rfl) (fun _ _ _ h => h) (by decide) ⟨hF, fun _ => trivial⟩ (Or.inl ⟨by rfl, ?_⟩) ?_
  rotate_left
  · intro wq hSw; obtain ⟨s0, s1⟩ := hSw; go_simp; rfl
  simp only [Act.put]
  refine gate_done (by kernel_rfl) ?_ _
  have HB7 := Lib.hid (HB6.out.keep hb6)
  clear hb6 hyi HB6 hF HB5
  have HE := Lib.hid (HH.out.keep HB7.out.lat)
  have HBB := Lib.hid HB7.out.toHB
  have HFR : Hid (Fr G w w6) := Fr.lat HB7.out.lat
  have HLL : Hid (ds.length = ln) := HLN.out.symm
  have HNX : Hid (∀ i, G i → i ≠ X + 1) := fun i hi e => by have := HH.out.lt i hi; have := HX.out; omega
  have HGI : Hid (∀ i, G i → G i ∨ w.heap.size ≤ i) := fun i hi => .inl hi
  have c3 := HE.out.c3
  have f3 := HE.out.f3
  go_upto_region 11 with fail
  clear c3 f3
  have hcnt := HE.out.count qn
  have hbb := HBB.out.fr (Fr.set (S := fun i => i = x) _ ⟨x, 3, none⟩ (.int .i64 qn) rfl) (fun i e => by rw [e]; exact HH.out.lt x HH.out.gx)
  have hfrc := HFR.out.then_set ⟨x, 3, none⟩ (.int .i64 qn) (.inl HH.out.gx)
  generalize hwe : World.setCell _ ⟨x, 3, none⟩ (.int .i64 qn) = we at hcnt hbb hfrc ⊢
  have hc4 := hcnt.c3
  have hc5 := hcnt.c5
  rw [HLL.out] at hc5
  have hF : we.drew.cell? ⟨x, 3, none⟩ = some (.int .i64 qn) ∧ we.drew.cell? ⟨x, 5, none⟩ = some (.slice a ln cap) ∧ we.drew.cell? ⟨x, 4, none⟩ = some (.pointer (some ⟨p, 0, none⟩)) := ⟨hc4, hc5, hcnt.c4⟩
  have hG : we.drew.cell? ⟨X + 1, 0, none⟩ = some (.int .i64 0) ∧ we.drew.cell? ⟨X + 1, 1, none⟩ = some (.int .i64 0) ∧ we.drew.cell? ⟨X + 1, 2, none⟩ = some (.int .i64 0) := ⟨hbb.r0, hbb.r1, hbb.r2⟩
  have HEC := Lib.hid hcnt; have HBC := Lib.hid hbb; have HFC := Lib.hid hfrc
  clear hwe hcnt hbb hfrc hc4 hc5 HE HBB HFR
  refine wp_region_gate (fun w' => w'.cell? ⟨x, 3, none⟩ = some (.int .i64 qn) ∧ w'.cell? ⟨x, 5, none⟩ = some (.slice a ln cap) ∧ w'.cell? ⟨x, 4, none⟩ = some (.pointer (some ⟨p, 0, none⟩))) (fun w' => w'.cell? ⟨X + 1, 0, none⟩ = some (.int .i64 0) ∧ w'.cell? ⟨X + 1, 1, none⟩ = some (.int .i64 0) ∧ w'.cell? ⟨X + 1, 2, none⟩ = some (.int .i64 0)) 16 (by kernel_rfl) ?_
  refine gate_takeF (i := 0) (v := ?_) rfl (by kernel_rfl) (by kernel_rfl) (by kernel_rfl) (fun _ _ _ h => h) (by decide) ⟨hF, fun _ => hG⟩ (Or.inl ⟨by rfl, ?_⟩) ?_
  rotate_left
  · intro wq hSw; obtain ⟨s0, s1, s2⟩ := hSw; go_simp; rfl
  simp only [Act.put]
  refine gate_takeF (i := 1) (v := ?_) rfl (by kernel_rfl) (by kernel_rfl) (by kernel_rfl) (fun _ _ _ h => h) (by decide) ⟨hF, fun _ => hG⟩ (Or.inl ⟨by rfl, ?_⟩) ?_
  rotate_left
  · intro wq hSw; obtain ⟨s0, s1, s2⟩ := hSw; go_simp; rfl
  simp only [Act.put]
  refine gate_takeF (i := 2) (v := ?_) rfl (by kernel_rfl) (by kernel_rfl) (by kernel_rfl) (fun _ _ _ h => h) (by decide) ⟨hF, fun _ => hG⟩ (Or.inl ⟨by rfl, ?_⟩) ?_
  rotate_left
  · intro wq hSw; obtain ⟨s0, s1, s2⟩ := hSw; go_simp; rfl
  simp only [Act.put]
  refine gate_takeF (i := 3) (v := ?_) rfl (by kernel_rfl) (by kernel_rfl) (by kernel_rfl) (fun _ _ _ h => h) (by decide) ⟨hF, fun _ => hG⟩ (Or.inl ⟨by rfl, ?_⟩) ?_
  rotate_left
  · intro wq hSw; obtain ⟨s0, s1, s2⟩ := hSw; go_simp; rfl
  simp only [Act.put]
  refine gate_takeF (i := 4) (v := ?_) rfl (by kernel_rfl) (by kernel_rfl) (by kernel_rfl) (fun _ _ _ h => h) (by decide) ⟨hF, fun _ => hG⟩ (Or.inl ⟨by rfl, ?_⟩) ?_
  rotate_left
  · intro wq hSw; obtain ⟨s0, s1, s2⟩ := hSw; go_simp; rfl
  simp only [Act.put]
  refine gate_takeF (i := 5) (v := ?_) rfl (by kernel_rfl) (by kernel_rfl) (by kernel_rfl) (fun _ _ _ h => h) (by decide) ⟨hF, fun _ => hG⟩ (Or.inl ⟨by rfl, ?_⟩) ?_
  rotate_left
  · intro wq hSw; obtain ⟨s0, s1, s2⟩ := hSw; go_simp; rfl
  simp only [Act.put]
  refine gate_takeF (i := 6) (v := ?_) rfl (by kernel_rfl) (by kernel_rfl) (by kernel_rfl) (fun _ _ _ h => h) (by decide) ⟨hF, fun _ => hG⟩ (Or.inl ⟨by rfl, ?_⟩) ?_
  rotate_left
  · intro wq hSw; obtain ⟨s0, s1, s2⟩ := hSw; go_simp; rfl
  simp only [Act.put]
  refine gate_takeF (i := 7) (v := ?_) rfl (by kernel_rfl) (by kernel_rfl) (by kernel_rfl) (fun _ _ _ h => h) (by decide) ⟨hF, fun _ => hG⟩ (Or.inl ⟨by rfl, ?_⟩) ?_
  rotate_left
  · intro wq hSw; obtain ⟨s0, s1, s2⟩ := hSw; go_simp; rfl
  simp only [Act.put]
  refine gate_takeF (i := 8) (v := ?_) rfl (by kernel_rfl) (by kernel_rfl) (by kernel_rfl) (fun _ _ _ h => h) (by decide) ⟨hF, fun _ => hG⟩ (Or.inl ⟨by rfl, ?_⟩) ?_
  rotate_left
  · intro wq hSw; obtain ⟨s0, s1, s2⟩ := hSw; go_simp; rfl
  simp only [Act.put]
  refine gate_takeF (i := 9) (v := ?_) rfl (by kernel_rfl) (by kernel_rfl) (by kernel_rfl) (fun _ _ _ h => h) (by decide) ⟨hF, fun _ => hG⟩ (Or.inl ⟨by rfl, ?_⟩) ?_
  rotate_left
  · intro wq hSw; obtain ⟨s0, s1, s2⟩ := hSw; go_simp; rfl
  simp only [Act.put]
  refine gate_takeF (i := 10) (v := ?_) rfl (by kernel_rfl) (by kernel_rfl) (by kernel_rfl) (fun _ _ _ h => h) (by decide) ⟨hF, fun _ => hG⟩ (Or.inl ⟨by rfl, ?_⟩) ?_
  rotate_left
  · intro wq hSw; obtain ⟨s0, s1, s2⟩ := hSw; go_simp; rfl
  simp only [Act.put]
  refine gate_takeF (i := 11) (v := ?_) rfl (by kernel_rfl) (by kernel_rfl) (by kernel_rfl) (fun _ _ _ h => h) (by decide) ⟨hF, fun _ => hG⟩ (Or.inl ⟨by rfl, ?_⟩) ?_
  rotate_left
  · intro wq hSw; obtain ⟨s0, s1, s2⟩ := hSw; go_simp; rfl
  simp only [Act.put]
  refine gate_takeF (i := 12) (v := ?_) rfl (by kernel_rfl) (by kernel_rfl) (by kernel_rfl) (fun _ _ _ h => h) (by decide) ⟨hF, fun _ => hG⟩ (Or.inl ⟨by rfl, ?_⟩) ?_
  rotate_left
  · intro wq hSw; obtain ⟨s0, s1, s2⟩ := hSw; go_simp; rfl
  simp only [Act.put]
  refine gate_one (i := 13) (by kernel_rfl) rfl (fun K hK => ?_)
  have hkn := refKnows _ p k m _ _ _ _ _ we.drew (HEC.out.keep (Lat.drew we)).peel hk16
  go_simp
  refine hkn.mono ?_
  rintro e wk ⟨ov, rfl, hov, hbk⟩
  obtain ⟨oa, oc, rfl, -⟩ := OwnInts.sliceN hov (fun z hz => by have := knwL_rng hz; omega) HKN.out.symm
  clear hov
  have hF' : wk.cell? ⟨x, 3, none⟩ = some (.int .i64 qn) ∧ wk.cell? ⟨x, 5, none⟩ = some (.slice a ln cap) ∧ wk.cell? ⟨x, 4, none⟩ = some (.pointer (some ⟨p, 0, none⟩)) := ⟨hbk.cell_at hF.1, hbk.cell_at hF.2.1, hbk.cell_at hF.2.2⟩
  have hG' : wk.cell? ⟨X + 1, 0, none⟩ = some (.int .i64 0) ∧ wk.cell? ⟨X + 1, 1, none⟩ = some (.int .i64 0) ∧ wk.cell? ⟨X + 1, 2, none⟩ = some (.int .i64 0) := ⟨hbk.cell_at hG.1, hbk.cell_at hG.2.1, hbk.cell_at hG.2.2⟩
  have HBK := Lib.hid ((Lat.drew we).trans hbk)
  refine hK _ _ ⟨hF', fun _ => hG'⟩ ?_
  clear hK K hF hG hkn hbk
  have hF := hF'
  have hG := hG'
  clear hF' hG'
  refine gate_takeF (i := 14) (v := ?_) rfl (by kernel_rfl) (by kernel_rfl) (by kernel_rfl) (fun _ _ _ h => h) (by decide) ⟨hF, fun _ => hG⟩ (Or.inl ⟨by rfl, ?_⟩) ?_
  rotate_left
  · intro wq hSw; obtain ⟨s0, s1, s2⟩ := hSw; go_simp; rfl
  simp only [Act.put]
  refine gate_takeF (i := 15) (v := ?_) rfl (by kernel_rfl) (by kernel_rfl) (by kernel_rfl) (fun _ _ _ h => h) (by decide) ⟨hF, fun _ => hG⟩ (Or.inl ⟨by rfl, ?_⟩) ?_
  rotate_left
  · intro wq hSw; obtain ⟨s0, s1, s2⟩ := hSw; go_simp; rfl
  simp only [Act.put]
  have hbf := HBC.out.keep HBK.out
  have e0 := hG.1
  have e1 := hG.2.1
  have e2 := hG.2.2
  have g0 := hbf.g0
  have g1 := hbf.g1
  have g2 := hbf.g2
  have HBF := Lib.hid hbf
  have hqX : ∀ i, i ≠ X + 1 → ∀ j v u1 u2 u3, wk.cell? ⟨i, j, none⟩ = some v → (((wk.setCell ⟨X + 1, 0, none⟩ u1).setCell ⟨X + 1, 1, none⟩ u2).setCell ⟨X + 1, 2, none⟩ u3).cell? ⟨i, j, none⟩ = some v := fun i hi j v u1 u2 u3 hv => by
    rw [World.cell?_setCell_other _ _ _ _ (by intro e; injection e with e _ _; exact hi e.symm), World.cell?_setCell_other _ _ _ _ (by intro e; injection e with e _ _; exact hi e.symm), World.cell?_setCell_other _ _ _ _ (by intro e; injection e with e _ _; exact hi e.symm)]; exact hv
  have hxX : x ≠ X + 1 := by have := HH.out.lt x HH.out.gx; have := HX.out; omega
  have hF9 := fun u1 u2 u3 => And.intro (hqX x hxX _ _ u1 u2 u3 hF.1) (And.intro (hqX x hxX _ _ u1 u2 u3 hF.2.1) (hqX x hxX _ _ u1 u2 u3 hF.2.2))
  have HF9 := Lib.hid hF9
  have QQ := three_put hG.1 hG.2.1 hG.2.2 (.int .i64 qn) (.int .i64 (ln : Nat)) (.int .i64 (kn : Nat))
  have HQQ := Lib.hid QQ
  refine gate_one (i := 16) (by kernel_rfl) rfl (fun K hK => ?_)
  clear hF9 hqX QQ hbf
  go_simp
  refine hK _ _ (FG.past (by kernel_rfl) (HF9.out _ _ _)) ?_
  clear hK K hF hG e0 e1 e2 g0 g1 g2
  refine gate_takeF (i := 17) (v := ?_) rfl (by kernel_rfl) (by kernel_rfl) (by kernel_rfl) (fun _ _ _ h => h) (by decide) (FG.past (by kernel_rfl) (HF9.out _ _ _)) (Or.inl ⟨by rfl, ?_⟩) ?_
  rotate_left
  · intro wq hSw; go_simp; rfl
  simp only [Act.put]
  refine gate_done (by kernel_rfl) ?_ _
  simp only [List.getElem_toArray, List.getElem_cons_succ, List.getElem_cons_zero]
  go_wp2
  have hff : Fr (fun i => i = X + 1) wk (((wk.setCell ⟨X + 1, 0, none⟩ (.int .i64 qn)).setCell ⟨X + 1, 1, none⟩ (.int .i64 (ln : Nat))).setCell ⟨X + 1, 2, none⟩ (.int .i64 (kn : Nat))) := ((Fr.set (S := fun i => i = X + 1) wk ⟨X + 1, 0, none⟩ _ rfl).then_set ⟨X + 1, 1, none⟩ _ (.inl rfl)).then_set ⟨X + 1, 2, none⟩ _ (.inl rfl)
  have hfin : REarStep G x k m n qn K0 L ds w (((wk.setCell ⟨X + 1, 0, none⟩ (.int .i64 qn)).setCell ⟨X + 1, 1, none⟩ (.int .i64 (ln : Nat))).setCell ⟨X + 1, 2, none⟩ (.int .i64 (kn : Nat))) :=
    ⟨(HFC.out.next HBK.out).trans hff (fun i hi e => by have := HX.out; omega), ⟨_, ⟨_, _, _, _, _, _, (HEC.out.keep HBK.out).fr hff (fun i hi e => HNX.out i hi e)⟩, HGI.out⟩⟩
  have Q0 := HQQ.out
  refine bodyPost_ret (v := .tuple #[.agg #[.int .i64 qn, .int .i64 (ln : Nat), .int .i64 (kn : Nat)], .int .i64 0]) (by simp [results, Tryz.results7, go_sem, Q0.1, Q0.2.1, Q0.2.2]) rfl ⟨?_, hfin⟩
  rfl

set_option maxHeartbeats 4000000 in
set_option maxRecDepth 100000 in
theorem ref_hear_new (G : Nat → Prop) (x k m n : Nat) (q : Int) (K0 : Kn) (L : List Dr) (ds : List Dr) (s : Int) (t : Bts) (w : World) (h : REarO G x k m n q K0 L ds w) (hE : hrE k m ds s t = 0) (hmem : s ∉ ds.map Dr.s) (qn : Int) (hqn : wrap64 (q + 1) = qn) :
    Calls Tryz.prog 7 #[.pointer (some ⟨x, 0, none⟩), .agg #[.int .i64 s, .string (S t)]] w fun e w' => e = .returned (.tuple #[.agg #[.int .i64 qn, .int .i64 (ds.length + 1 : Nat), .int .i64 ((knwL (rtkK k K0 (L ++ [⟨s, S t⟩])) k).length : Nat)], .int .i64 0]) ∧ REarStep G x k m n qn (rtkK k K0 (L ++ [⟨s, S t⟩])) (rtkL k K0 (L ++ [⟨s, S t⟩])) (ds ++ [⟨s, S t⟩]) w w' := by
  obtain ⟨Gp, p, lv, tv, a, cap, h⟩ := h
  obtain ⟨hde, hl60⟩ := hrE_zero hE
  have hck := fun W => refDrop k m s (S t) W
  rw [hde] at hck
  have hd2 := drpE_zero hde
  have hk16 : k ≤ 16 := by omega
  have HCK : Hid (∀ W, Calls Tryz.prog 21 #[.int .i64 k, .int .i64 m, .agg #[.int .i64 s, .string (S t)]] W fun e w' => e = .returned (.int .i64 0) ∧ Lat W w') := hck
  obtain ⟨ln, hln⟩ : ∃ ln, ln = ds.length := ⟨_, rfl⟩
  have d60 : decide ((60 : Int) ≤ (ln : Int)) = false := decide_eq_false (by omega)
  have hgp : Gp p := h.peel.gp
  have HGPP := Lib.hid hgp
  have HPNX : Hid (¬ p = x) := fun e => h.npx (e ▸ hgp)
  have HPL : Hid (p < w.heap.size) := h.lt p (h.sub p hgp)
  clear hgp
  have HKM := Lib.hid (And.intro (show 1 ≤ k by omega) (And.intro hk16 (And.intro (show m ≤ 8 by omega) (And.intro (show 1 ≤ s by omega) (And.intro (show s ≤ 10000 by omega) (show (S t).size = m by omega))))))
  have HH := Lib.hid h; have HMEM := Lib.hid hmem; have HDE := Lib.hid hde; have HLN := Lib.hid hln; have HL60 := Lib.hid hl60
  obtain ⟨kn, hkn⟩ : ∃ kn, kn = (knwL (rtkK k K0 (L ++ [⟨s, S t⟩])) k).length := ⟨_, rfl⟩
  have HKN := Lib.hid hkn
  rw [← hln, ← hkn]
  clear h hck hE hde hd2 hln hkn hmem hl60
  go_enter Tryz.func7, Tryz.ntmps7
  go_upto_region 1 with fail
  obtain ⟨X, hX⟩ : ∃ X, X = w.heap.size := ⟨_, rfl⟩
  obtain ⟨W0, hW0⟩ : ∃ W0, W0 = (w.alloc (.cells #[.int .i64 s, .string (S t)] 37)).alloc (.cells #[.int .i64 0, .int .i64 0, .int .i64 0] 33) := ⟨_, rfl⟩
  have hb0 := HL.new w s t
  rw [← hW0] at hb0
  rw [← hW0]
  rw [← hX] at hb0
  rw [← hX]
  have HX : Hid (X = w.heap.size) := hX
  clear hW0 hX
  have hF : W0.drew.cell? ⟨x, 0, none⟩ = some (.int .i64 k) ∧ W0.drew.cell? ⟨x, 1, none⟩ = some (.int .i64 m) ∧ W0.drew.cell? ⟨X, 0, none⟩ = some (.int .i64 s) ∧ W0.drew.cell? ⟨X, 1, none⟩ = some (.string (S t)) := ⟨hb0.lat.cell_at HH.out.c0, hb0.lat.cell_at HH.out.c1, hb0.c0, hb0.c1⟩
  have HB0 := Lib.hid (hb0.keep (Lat.drew W0))
  clear hb0
  refine wp_region_gate (fun w' => w'.cell? ⟨x, 0, none⟩ = some (.int .i64 k) ∧ w'.cell? ⟨x, 1, none⟩ = some (.int .i64 m) ∧ w'.cell? ⟨X, 0, none⟩ = some (.int .i64 s) ∧ w'.cell? ⟨X, 1, none⟩ = some (.string (S t))) (fun _ => True) 1000 (by kernel_rfl) ?_
  refine gate_takeF (i := 0) (v := ?_) rfl (by kernel_rfl) (by kernel_rfl) (by kernel_rfl) (fun _ _ _ h => h) (by decide) ⟨hF, fun _ => trivial⟩ (Or.inl ⟨by rfl, ?_⟩) ?_
  rotate_left
  · intro wq hSw; obtain ⟨s0, s1, s2, s3⟩ := hSw; go_simp; rfl
  simp only [Act.put]
  refine gate_takeF (i := 1) (v := ?_) rfl (by kernel_rfl) (by kernel_rfl) (by kernel_rfl) (fun _ _ _ h => h) (by decide) ⟨hF, fun _ => trivial⟩ (Or.inl ⟨by rfl, ?_⟩) ?_
  rotate_left
  · intro wq hSw; obtain ⟨s0, s1, s2, s3⟩ := hSw; go_simp; rfl
  simp only [Act.put]
  refine gate_takeF (i := 2) (v := ?_) rfl (by kernel_rfl) (by kernel_rfl) (by kernel_rfl) (fun _ _ _ h => h) (by decide) ⟨hF, fun _ => trivial⟩ (Or.inl ⟨by rfl, ?_⟩) ?_
  rotate_left
  · intro wq hSw; obtain ⟨s0, s1, s2, s3⟩ := hSw; go_simp; rfl
  simp only [Act.put]
  refine gate_takeF (i := 3) (v := ?_) rfl (by kernel_rfl) (by kernel_rfl) (by kernel_rfl) (fun _ _ _ h => h) (by decide) ⟨hF, fun _ => trivial⟩ (Or.inl ⟨by rfl, ?_⟩) ?_
  rotate_left
  · intro wq hSw; obtain ⟨s0, s1, s2, s3⟩ := hSw; go_simp; rfl
  simp only [Act.put]
  refine gate_takeF (i := 4) (v := ?_) rfl (by kernel_rfl) (by kernel_rfl) (by kernel_rfl) (fun _ _ _ h => h) (by decide) ⟨hF, fun _ => trivial⟩ (Or.inl ⟨by rfl, ?_⟩) ?_
  rotate_left
  · intro wq hSw; obtain ⟨s0, s1, s2, s3⟩ := hSw; go_simp; rfl
  simp only [Act.put]
  refine gate_takeF (i := 5) (v := ?_) rfl (by kernel_rfl) (by kernel_rfl) (by kernel_rfl) (fun _ _ _ h => h) (by decide) ⟨hF, fun _ => trivial⟩ (Or.inl ⟨by rfl, ?_⟩) ?_
  rotate_left
  · intro wq hSw; obtain ⟨s0, s1, s2, s3⟩ := hSw; go_simp; rfl
  simp only [Act.put]
  refine gate_takeF (i := 6) (v := ?_) rfl (by kernel_rfl) (by kernel_rfl) (by kernel_rfl) (fun _ _ _ h => h) (by decide) ⟨hF, fun _ => trivial⟩ (Or.inl ⟨by rfl, ?_⟩) ?_
  rotate_left
  · intro wq hSw; obtain ⟨s0, s1, s2, s3⟩ := hSw; go_simp; rfl
  simp only [Act.put]
  refine gate_takeF (i := 7) (v := ?_) rfl (by kernel_rfl) (by kernel_rfl) (by kernel_rfl) (fun _ _ _ h => h) (by decide) ⟨hF, fun _ => trivial⟩ (Or.inl ⟨by rfl, ?_⟩) ?_
  rotate_left
  · intro wq hSw; obtain ⟨s0, s1, s2, s3⟩ := hSw; go_simp; rfl
  simp only [Act.put]
  refine gate_takeF (i := 8) (v := ?_) rfl (by kernel_rfl) (by kernel_rfl) (by kernel_rfl) (fun _ _ _ h => h) (by decide) ⟨hF, fun _ => trivial⟩ (Or.inl ⟨by rfl, ?_⟩) ?_
  rotate_left
  · intro wq hSw; obtain ⟨s0, s1, s2, s3⟩ := hSw; go_simp; rfl
  simp only [Act.put]
  refine gate_one (i := 9) (by kernel_rfl) rfl (fun K hK => ?_)
  go_simp
  refine (HCK.out _).mono ?_
  rintro e w5 ⟨rfl, hb5⟩
  have hF' : w5.cell? ⟨x, 0, none⟩ = some (.int .i64 k) ∧ w5.cell? ⟨x, 1, none⟩ = some (.int .i64 m) ∧ w5.cell? ⟨X, 0, none⟩ = some (.int .i64 s) ∧ w5.cell? ⟨X, 1, none⟩ = some (.string (S t)) := ⟨hb5.cell_at hF.1, hb5.cell_at hF.2.1, hb5.cell_at hF.2.2.1, hb5.cell_at hF.2.2.2⟩
  refine hK _ _ ⟨hF', fun _ => trivial⟩ ?_
  clear hK K hF
  have hF := hF'
  clear hF'
  refine gate_takeF (i := 10) (v := ?_) rfl (by kernel_rfl) (by kernel_rfl) (by kernel_rfl) (fun _ _ _ h => h) (by decide) ⟨hF, fun _ => trivial⟩ (Or.inl ⟨by rfl, ?_⟩) ?_
  rotate_left
  · intro wq hSw; obtain ⟨s0, s1, s2, s3⟩ := hSw; go_simp; rfl
  simp only [Act.put]
  refine gate_done (by kernel_rfl) ?_ _
  have HB5 := Lib.hid (HB0.out.keep hb5)
  clear hb5 HB0 hF
  have c5 := HB5.out.lat.cell_at HH.out.c5
  rw [← HLN.out] at c5
  go_upto_region 6 with fail
  clear c5
  have hF : w5.drew.cell? ⟨X, 0, none⟩ = some (.int .i64 s) ∧ w5.drew.cell? ⟨X, 1, none⟩ = some (.string (S t)) := ⟨HB5.out.c0, HB5.out.c1⟩
  have HB6 := Lib.hid (HB5.out.keep (Lat.drew w5))
  refine wp_region_gate (fun w' => w'.cell? ⟨X, 0, none⟩ = some (.int .i64 s) ∧ w'.cell? ⟨X, 1, none⟩ = some (.string (S t))) (fun _ => True) 1000 (by kernel_rfl) ?_
  refine gate_takeF (i := 0) (v := ?_) rfl (by kernel_rfl) (by kernel_rfl) (by kernel_rfl) (fun _ _ _ h => h) (by decide) ⟨hF, fun _ => trivial⟩ (Or.inl ⟨by rfl, ?_⟩) ?_
  rotate_left
  · intro wq hSw; obtain ⟨s0, s1⟩ := hSw; go_simp; rfl
  simp only [Act.put]
  refine gate_takeF (i := 2) (v := ?_) rfl (by kernel_rfl) (by kernel_rfl) (by kernel_rfl) (fun _ _ _ h => h) (by decide) ⟨hF, fun _ => trivial⟩ (Or.inl ⟨by rfl, ?_⟩) ?_
  rotate_left
  · intro wq hSw; obtain ⟨s0, s1⟩ := hSw; go_simp; rfl
  simp only [Act.put]
  refine gate_takeF (i := 3) (v := ?_) rfl (by kernel_rfl) (by kernel_rfl) (by kernel_rfl) (fun _ _ _ h => h) (by decide) ⟨hF, fun _ => trivial⟩ (Or.inl ⟨by rfl, ?_⟩) ?_
  rotate_left
  · intro wq hSw; obtain ⟨s0, s1⟩ := hSw; go_simp; rfl
  simp only [Act.put]
  refine gate_one (i := 1) (by kernel_rfl) rfl (fun K hK => ?_)
  have hsd := ref_seeds G x k m n q K0 L ds w5.drew ⟨Gp, p, lv, tv, a, cap, HH.out.keep HB6.out.lat⟩
  rw [← HLN.out] at hsd
  go_simp
  refine hsd.mono ?_
  rintro e w6 ⟨ya, yc, rfl, hyi, hb6⟩
  have hF' : w6.cell? ⟨X, 0, none⟩ = some (.int .i64 s) ∧ w6.cell? ⟨X, 1, none⟩ = some (.string (S t)) := ⟨hb6.cell_at hF.1, hb6.cell_at hF.2⟩
  refine hK _ _ ⟨hF', fun _ => trivial⟩ ?_
  clear hK K hF hsd
  have hF := hF'
  clear hF'
  refine gate_one (i := 4) (by kernel_rfl) rfl (fun K hK => ?_)
  go_simp
  refine (refIn_no ya ln yc _ _ w6 hyi HMEM.out).mono ?_
  rintro e w7 ⟨rfl, rfl⟩
  refine hK _ _ ⟨hF, fun _ => trivial⟩ ?_
  clear hK K
  refine gate_takeF (i := 5) (v := ?_) rfl (by kernel_rfl) (by kernel_rfl) (by kernel_rfl) (fun _ _ _ h => h) (by decide) ⟨hF, fun _ => trivial⟩ (Or.inl ⟨by rfl, ?_⟩) ?_
  rotate_left
  · intro wq hSw; obtain ⟨s0, s1⟩ := hSw; go_simp; rfl
  simp only [Act.put]
  refine gate_done (by kernel_rfl) ?_ _
  have HB7 := Lib.hid (HB6.out.keep hb6)
  clear hb6 hyi HB6 hF HB5
  go_upto_region 8 with fail
  have hF : w6.drew.cell? ⟨x, 4, none⟩ = some (.pointer (some ⟨p, 0, none⟩)) ∧ w6.drew.cell? ⟨X, 0, none⟩ = some (.int .i64 s) ∧ w6.drew.cell? ⟨X, 1, none⟩ = some (.string (S t)) := ⟨HB7.out.lat.cell_at HH.out.c4, HB7.out.c0, HB7.out.c1⟩
  have HB8 := Lib.hid (HB7.out.keep (Lat.drew w6))
  refine wp_region_gate (fun w' => w'.cell? ⟨x, 4, none⟩ = some (.pointer (some ⟨p, 0, none⟩)) ∧ w'.cell? ⟨X, 0, none⟩ = some (.int .i64 s) ∧ w'.cell? ⟨X, 1, none⟩ = some (.string (S t))) (fun _ => True) 1000 (by kernel_rfl) ?_
  refine gate_takeF (i := 0) (v := ?_) rfl (by kernel_rfl) (by kernel_rfl) (by kernel_rfl) (fun _ _ _ h => h) (by decide) ⟨hF, fun _ => trivial⟩ (Or.inl ⟨by rfl, ?_⟩) ?_
  rotate_left
  · intro wq hSw; obtain ⟨s0, s1, s2⟩ := hSw; go_simp; rfl
  simp only [Act.put]
  refine gate_takeF (i := 1) (v := ?_) rfl (by kernel_rfl) (by kernel_rfl) (by kernel_rfl) (fun _ _ _ h => h) (by decide) ⟨hF, fun _ => trivial⟩ (Or.inl ⟨by rfl, ?_⟩) ?_
  rotate_left
  · intro wq hSw; obtain ⟨s0, s1, s2⟩ := hSw; go_simp; rfl
  simp only [Act.put]
  refine gate_takeF (i := 2) (v := ?_) rfl (by kernel_rfl) (by kernel_rfl) (by kernel_rfl) (fun _ _ _ h => h) (by decide) ⟨hF, fun _ => trivial⟩ (Or.inl ⟨by rfl, ?_⟩) ?_
  rotate_left
  · intro wq hSw; obtain ⟨s0, s1, s2⟩ := hSw; go_simp; rfl
  simp only [Act.put]
  refine gate_takeF (i := 3) (v := ?_) rfl (by kernel_rfl) (by kernel_rfl) (by kernel_rfl) (fun _ _ _ h => h) (by decide) ⟨hF, fun _ => trivial⟩ (Or.inl ⟨by rfl, ?_⟩) ?_
  rotate_left
  · intro wq hSw; obtain ⟨s0, s1, s2⟩ := hSw; go_simp; rfl
  simp only [Act.put]
  refine gate_takeF (i := 4) (v := ?_) rfl (by kernel_rfl) (by kernel_rfl) (by kernel_rfl) (fun _ _ _ h => h) (by decide) ⟨hF, fun _ => trivial⟩ (Or.inl ⟨by rfl, ?_⟩) ?_
  rotate_left
  · intro wq hSw; obtain ⟨s0, s1, s2⟩ := hSw; go_simp; rfl
  simp only [Act.put]
  refine gate_one (i := 5) (by kernel_rfl) rfl (fun K hK => ?_)
  have h8 := HH.out.keep HB8.out.lat
  have htk := refTake Gp p k m K0 (ds.map Dr.s) L lv tv s (S t) w6.drew h8.peel HKM.out.1 HKM.out.2.1 HKM.out.2.2.1 HKM.out.2.2.2.1 HKM.out.2.2.2.2.1 HKM.out.2.2.2.2.2 (by have := HH.out.left; have := HH.out.most; omega) (by rw [List.length_map]; have := HH.out.most; omega)
  have H8 := Lib.hid h8
  clear h8
  go_simp
  refine htk.mono ?_
  rintro e w8 ⟨rv, rfl, -, hfr8, hob8⟩
  have hpX : ∀ i, w.heap.size ≤ i → ¬ Gp i := fun i hi e => by have := HH.out.lt i (HH.out.sub i e); omega
  have hF' : w8.cell? ⟨x, 4, none⟩ = some (.pointer (some ⟨p, 0, none⟩)) ∧ w8.cell? ⟨X, 0, none⟩ = some (.int .i64 s) ∧ w8.cell? ⟨X, 1, none⟩ = some (.string (S t)) := ⟨hfr8.cell_at hF.1 HH.out.npx, hfr8.cell_at hF.2.1 (hpX X (by have := HX.out; omega)), hfr8.cell_at hF.2.2 (hpX X (by have := HX.out; omega))⟩
  refine hK _ _ ⟨hF', fun _ => trivial⟩ ?_
  clear hK K hF htk
  have hF := hF'
  clear hF'
  refine gate_done (by kernel_rfl) ?_ _
  have HST := Lib.hid hfr8
  have HOB := Lib.hid hob8
  have HPX := Lib.hid hpX
  have hb9 := HB8.out.toHB.fr hfr8 (fun i e => HH.out.lt i (HH.out.sub i e))
  have HB9 := Lib.hid hb9
  have HB8L := Lib.hid HB8.out.lat
  have HB8X := Lib.hid HB8.out.lt
  clear hfr8 hob8 hpX hb9 hF HB8 HB7
  go_upto_region 9 with fail
  have hF : w8.drew.cell? ⟨X, 0, none⟩ = some (.int .i64 s) ∧ w8.drew.cell? ⟨X, 1, none⟩ = some (.string (S t)) := ⟨HB9.out.c0, HB9.out.c1⟩
  have hG : w8.drew.cell? ⟨x, 5, none⟩ = some (.slice a ln cap) := by
    have := HST.out.cell_at H8.out.c5 HH.out.npx
    rw [← HLN.out] at this; exact this
  refine wp_region_gate (fun w' => w'.cell? ⟨X, 0, none⟩ = some (.int .i64 s) ∧ w'.cell? ⟨X, 1, none⟩ = some (.string (S t))) (fun w' => w'.cell? ⟨x, 5, none⟩ = some (.slice a ln cap)) 7 (by kernel_rfl) ?_
  refine gate_takeF (i := 0) (v := ?_) rfl (by kernel_rfl) (by kernel_rfl) (by kernel_rfl) (fun _ _ _ h => h) (by decide) ⟨hF, fun _ => hG⟩ (Or.inl ⟨by rfl, ?_⟩) ?_
  rotate_left
  · intro wq hSw; obtain ⟨s0, s1⟩ := hSw; go_simp; rfl
  simp only [Act.put]
  refine gate_takeF (i := 1) (v := ?_) rfl (by kernel_rfl) (by kernel_rfl) (by kernel_rfl) (fun _ _ _ h => h) (by decide) ⟨hF, fun _ => hG⟩ (Or.inl ⟨by rfl, ?_⟩) ?_
  rotate_left
  · intro wq hSw; obtain ⟨s0, s1⟩ := hSw; go_simp; rfl
  simp only [Act.put]
  refine gate_takeF (i := 2) (v := ?_) rfl (by kernel_rfl) (by kernel_rfl) (by kernel_rfl) (fun _ _ _ h => h) (by decide) ⟨hF, fun _ => hG⟩ (Or.inl ⟨by rfl, ?_⟩) ?_
  rotate_left
  · intro wq hSw; obtain ⟨s0, s1⟩ := hSw; go_simp; rfl
  simp only [Act.put]
  refine gate_takeF (i := 3) (v := ?_) rfl (by kernel_rfl) (by kernel_rfl) (by kernel_rfl) (fun _ _ _ h => h) (by decide) ⟨hF, fun _ => hG⟩ (Or.inl ⟨by rfl, ?_⟩) ?_
  rotate_left
  · intro wq hSw; obtain ⟨s0, s1⟩ := hSw; go_simp; rfl
  simp only [Act.put]
  refine gate_takeG (i := 4) (v := ?_) rfl (by kernel_rfl) (by kernel_rfl) (by kernel_rfl) (fun _ _ _ h => h) (by decide) (by kernel_rfl) (by kernel_rfl) ⟨hF, fun _ => hG⟩ (Or.inl ⟨by rfl, ?_⟩) ?_
  rotate_left
  · intro wq hSw; obtain ⟨⟨s0, s1⟩, s2⟩ := hSw; go_simp; rfl
  simp only [Act.put]
  refine gate_takeF (i := 5) (v := ?_) rfl (by kernel_rfl) (by kernel_rfl) (by kernel_rfl) (fun _ _ _ h => h) (by decide) ⟨hF, fun _ => hG⟩ (Or.inl ⟨by rfl, ?_⟩) ?_
  rotate_left
  · intro wq hSw; obtain ⟨s0, s1⟩ := hSw; go_simp; rfl
  simp only [Act.put]
  refine gate_one (i := 6) (by kernel_rfl) rfl (fun K hK => ?_)
  go_simp
  refine hK _ _ ⟨⟨(Lat.alloc _ _).cell_at hF.1, (Lat.alloc _ _).cell_at hF.2⟩, fun _ => (Lat.alloc _ _).cell_at hG⟩ ?_
  clear hK K
  have ho8 : OwnR w8.drew 0 37 2 (.slice a ln cap) (ds.map Dr.row) := by
    have := (H8.out.row.fr HST.out (fun i hi => (H8.out.own i hi).2.2)).keep (Lat.drew w8)
    rw [← HLN.out] at this; exact this
  have HO8 := Lib.hid ho8
  have HRL : Hid ((ds.map Dr.row).length = ln) := by show _ = _; rw [List.length_map, HLN.out]
  clear ho8
  refine gate_one (i := 7) (by kernel_rfl) rfl (fun K hK => ?_)
  refine appR_step w8.drew 0 rfl (.tmp 46) (.tmp 48) 22 rfl 37 _ 2 24 Tryz.underlying22 info_DropE rfl (by decide) (by decide) _ _ _ rfl HO8.out rfl rfl (fun u hu => by simp at hu; rcases hu with rfl | rfl <;> rfl) (by rw [HRL.out]; have := HH.out.most; have := HLN.out; omega) (Nat.zero_le _) ?_
  rw [HRL.out]
  intro g' cap' w9 hown9 hb9 hs9
  have hs9 : AppStep w8.drew w9 (.slice a ln cap) (.slice (some ⟨g', 0, none⟩) (ln + 1) cap') := hs9
  have hnx : (Value.slice a ln cap).ownBlock ≠ some x := fun e => by rw [HLN.out] at e; exact (HH.out.own x e).2.1 rfl
  have hnX : ∀ i, w.heap.size ≤ i → (Value.slice a ln cap).ownBlock ≠ some i := fun i hi e => by
    rw [HLN.out] at e
    have := HH.out.lt i (HH.out.own i e).1
    omega
  have hXw : w.heap.size ≤ X := Nat.le_of_eq HX.out.symm
  have hF9 : w9.cell? ⟨X, 0, none⟩ = some (.int .i64 s) ∧ w9.cell? ⟨X, 1, none⟩ = some (.string (S t)) := ⟨hs9.cell hF.1 (hnX X hXw), hs9.cell hF.2 (hnX X hXw)⟩
  have hG9 : w9.cell? ⟨x, 5, none⟩ = some (.slice a ln cap) := hs9.cell hG hnx
  have hxl8 := World.block_lt_of_cell? _ _ hG
  have hf9 : w9.frozen? ⟨x, 5, none⟩ = false := by
    rw [World.frozen?_of_block (w := w8.drew) (a := ⟨x, 5, none⟩) (hs9.block x hxl8 (fun e => hnx e.symm))]
    exact HST.out.free_at (H8.out.lt x H8.out.gx) H8.out.f5 HH.out.npx
  obtain ⟨Gp2, lv2, tv2, hGp2, hp2⟩ := HOB.out
  have he10 := (H8.out).heard (d := ⟨s, S t⟩) (g := g') (cap' := cap') (w4 := w9) HST.out hp2 (fun i hi => (hGp2 i hi).1) (Lat.drew w8) (by rw [← HLN.out]; exact hs9) hb9 (by rw [← HLN.out]; exact hown9) HDE.out HL60.out (by have := rtkL_len k K0 (L ++ [⟨s, S t⟩]); rw [List.length_append, List.length_singleton] at this; have := HH.out.left; omega)
  rw [← HLN.out] at he10
  have hfr10 : Fr G w (w9.setCell ⟨x, 5, none⟩ (.slice (some ⟨g', 0, none⟩) (ln + 1) cap')) := ((((Fr.lat HB8L.out : Fr G w w6.drew).trans HST.out (fun i _ e => HH.out.sub i e)).next (Lat.drew w8)).trans (Fr.app hs9 ⟨hb9.os, hb9.tape, hb9.output⟩) (fun i _ e => by
    rw [HLN.out] at e
    exact (HH.out.own i e).1)).then_set ⟨x, 5, none⟩ _ (.inl HH.out.gx)
  have hb10 := ((HB9.out.keep (Lat.drew w8)).fr (Fr.app hs9 ⟨hb9.os, hb9.tape, hb9.output⟩) (fun i e => by
    rcases Nat.lt_or_ge i w.heap.size with h1 | h1
    · exact h1
    · exact absurd e (hnX i h1))).fr (Fr.set (S := fun i => i = x) w9 ⟨x, 5, none⟩ (.slice (some ⟨g', 0, none⟩) (ln + 1) cap') rfl) (fun i e => by rw [e]; exact HH.out.lt x HH.out.gx)
  have HE10 := Lib.hid he10; have HFR10 := Lib.hid hfr10; have HB10 := Lib.hid hb10
  refine hK _ _ (FG.past (by kernel_rfl) hF9) ?_
  clear hK K hF hG hown9 hb9 hs9 hnx hnX he10 hfr10 hxl8 hp2 hGp2 hb10
  refine gate_takeF (i := 8) (v := ?_) rfl (by kernel_rfl) (by kernel_rfl) (by kernel_rfl) (fun _ _ _ h => h) (by decide) (FG.past (by kernel_rfl) hF9) (Or.inl ⟨by rfl, ?_⟩) ?_
  rotate_left
  · intro wq hSw; go_simp; rfl
  simp only [Act.put]
  refine gate_takeF (i := 9) (v := ?_) rfl (by kernel_rfl) (by kernel_rfl) (by kernel_rfl) (fun _ _ _ h => h) (by decide) (FG.past (by kernel_rfl) hF9) (Or.inl ⟨by rfl, ?_⟩) ?_
  rotate_left
  · intro wq hSw; go_simp; rfl
  simp only [Act.put]
  refine gate_one (i := 10) (by kernel_rfl) rfl (fun K hK => ?_)
  clear hF9
  go_simp
  refine hK _ _ (FG.past (by kernel_rfl) ⟨HB10.out.c0, HB10.out.c1⟩) ?_
  clear hK K
  refine gate_done (by kernel_rfl) ?_ _
  clear hG9 hf9 HB9
  have HE := HE10
  have HBB := HB10
  have HFR := HFR10
  have HLL : Hid ((ds ++ [(⟨s, S t⟩ : Dr)]).length = ln + 1) := by show _ = _; rw [List.length_append, HLN.out]; rfl
  have hX6 := HB8X.out
  have HNX : Hid (∀ i, (i < (w9.setCell ⟨x, 5, none⟩ (.slice (some ⟨g', 0, none⟩) (ln + 1) cap')).heap.size ∧ (G i ∨ w6.drew.heap.size ≤ i)) → i ≠ X + 1) := fun i hi e => by
    rcases hi.2 with h1 | h1
    · have := HH.out.lt i h1; have := HX.out; omega
    · omega
  have HGI : Hid (∀ i, (i < (w9.setCell ⟨x, 5, none⟩ (.slice (some ⟨g', 0, none⟩) (ln + 1) cap')).heap.size ∧ (G i ∨ w6.drew.heap.size ≤ i)) → G i ∨ w.heap.size ≤ i) := fun i hi => hi.2.imp id (fun h1 => by have := HB8L.out.size; omega)
  clear HE10 HB10 HFR10 hX6
  have c3 := HE.out.c3
  have f3 := HE.out.f3
  go_upto_region 11 with fail
  clear c3 f3
  have hcnt := HE.out.count qn
  have hbb := HBB.out.fr (Fr.set (S := fun i => i = x) _ ⟨x, 3, none⟩ (.int .i64 qn) rfl) (fun i e => by rw [e]; exact HH.out.lt x HH.out.gx)
  have hfrc := HFR.out.then_set ⟨x, 3, none⟩ (.int .i64 qn) (.inl HH.out.gx)
  generalize hwe : World.setCell _ ⟨x, 3, none⟩ (.int .i64 qn) = we at hcnt hbb hfrc ⊢
  have hc4 := hcnt.c3
  have hc5 := hcnt.c5
  rw [HLL.out] at hc5
  have hF : we.drew.cell? ⟨x, 3, none⟩ = some (.int .i64 qn) ∧ we.drew.cell? ⟨x, 5, none⟩ = some (.slice (some ⟨g', 0, none⟩) (ln + 1) cap') ∧ we.drew.cell? ⟨x, 4, none⟩ = some (.pointer (some ⟨p, 0, none⟩)) := ⟨hc4, hc5, hcnt.c4⟩
  have hG : we.drew.cell? ⟨X + 1, 0, none⟩ = some (.int .i64 0) ∧ we.drew.cell? ⟨X + 1, 1, none⟩ = some (.int .i64 0) ∧ we.drew.cell? ⟨X + 1, 2, none⟩ = some (.int .i64 0) := ⟨hbb.r0, hbb.r1, hbb.r2⟩
  have HEC := Lib.hid hcnt; have HBC := Lib.hid hbb; have HFC := Lib.hid hfrc
  clear hwe hcnt hbb hfrc hc4 hc5 HE HBB HFR
  refine wp_region_gate (fun w' => w'.cell? ⟨x, 3, none⟩ = some (.int .i64 qn) ∧ w'.cell? ⟨x, 5, none⟩ = some (.slice (some ⟨g', 0, none⟩) (ln + 1) cap') ∧ w'.cell? ⟨x, 4, none⟩ = some (.pointer (some ⟨p, 0, none⟩))) (fun w' => w'.cell? ⟨X + 1, 0, none⟩ = some (.int .i64 0) ∧ w'.cell? ⟨X + 1, 1, none⟩ = some (.int .i64 0) ∧ w'.cell? ⟨X + 1, 2, none⟩ = some (.int .i64 0)) 16 (by kernel_rfl) ?_
  refine gate_takeF (i := 0) (v := ?_) rfl (by kernel_rfl) (by kernel_rfl) (by kernel_rfl) (fun _ _ _ h => h) (by decide) ⟨hF, fun _ => hG⟩ (Or.inl ⟨by rfl, ?_⟩) ?_
  rotate_left
  · intro wq hSw; obtain ⟨s0, s1, s2⟩ := hSw; go_simp; rfl
  simp only [Act.put]
  refine gate_takeF (i := 1) (v := ?_) rfl (by kernel_rfl) (by kernel_rfl) (by kernel_rfl) (fun _ _ _ h => h) (by decide) ⟨hF, fun _ => hG⟩ (Or.inl ⟨by rfl, ?_⟩) ?_
  rotate_left
  · intro wq hSw; obtain ⟨s0, s1, s2⟩ := hSw; go_simp; rfl
  simp only [Act.put]
  refine gate_takeF (i := 2) (v := ?_) rfl (by kernel_rfl) (by kernel_rfl) (by kernel_rfl) (fun _ _ _ h => h) (by decide) ⟨hF, fun _ => hG⟩ (Or.inl ⟨by rfl, ?_⟩) ?_
  rotate_left
  · intro wq hSw; obtain ⟨s0, s1, s2⟩ := hSw; go_simp; rfl
  simp only [Act.put]
  refine gate_takeF (i := 3) (v := ?_) rfl (by kernel_rfl) (by kernel_rfl) (by kernel_rfl) (fun _ _ _ h => h) (by decide) ⟨hF, fun _ => hG⟩ (Or.inl ⟨by rfl, ?_⟩) ?_
  rotate_left
  · intro wq hSw; obtain ⟨s0, s1, s2⟩ := hSw; go_simp; rfl
  simp only [Act.put]
  refine gate_takeF (i := 4) (v := ?_) rfl (by kernel_rfl) (by kernel_rfl) (by kernel_rfl) (fun _ _ _ h => h) (by decide) ⟨hF, fun _ => hG⟩ (Or.inl ⟨by rfl, ?_⟩) ?_
  rotate_left
  · intro wq hSw; obtain ⟨s0, s1, s2⟩ := hSw; go_simp; rfl
  simp only [Act.put]
  refine gate_takeF (i := 5) (v := ?_) rfl (by kernel_rfl) (by kernel_rfl) (by kernel_rfl) (fun _ _ _ h => h) (by decide) ⟨hF, fun _ => hG⟩ (Or.inl ⟨by rfl, ?_⟩) ?_
  rotate_left
  · intro wq hSw; obtain ⟨s0, s1, s2⟩ := hSw; go_simp; rfl
  simp only [Act.put]
  refine gate_takeF (i := 6) (v := ?_) rfl (by kernel_rfl) (by kernel_rfl) (by kernel_rfl) (fun _ _ _ h => h) (by decide) ⟨hF, fun _ => hG⟩ (Or.inl ⟨by rfl, ?_⟩) ?_
  rotate_left
  · intro wq hSw; obtain ⟨s0, s1, s2⟩ := hSw; go_simp; rfl
  simp only [Act.put]
  refine gate_takeF (i := 7) (v := ?_) rfl (by kernel_rfl) (by kernel_rfl) (by kernel_rfl) (fun _ _ _ h => h) (by decide) ⟨hF, fun _ => hG⟩ (Or.inl ⟨by rfl, ?_⟩) ?_
  rotate_left
  · intro wq hSw; obtain ⟨s0, s1, s2⟩ := hSw; go_simp; rfl
  simp only [Act.put]
  refine gate_takeF (i := 8) (v := ?_) rfl (by kernel_rfl) (by kernel_rfl) (by kernel_rfl) (fun _ _ _ h => h) (by decide) ⟨hF, fun _ => hG⟩ (Or.inl ⟨by rfl, ?_⟩) ?_
  rotate_left
  · intro wq hSw; obtain ⟨s0, s1, s2⟩ := hSw; go_simp; rfl
  simp only [Act.put]
  refine gate_takeF (i := 9) (v := ?_) rfl (by kernel_rfl) (by kernel_rfl) (by kernel_rfl) (fun _ _ _ h => h) (by decide) ⟨hF, fun _ => hG⟩ (Or.inl ⟨by rfl, ?_⟩) ?_
  rotate_left
  · intro wq hSw; obtain ⟨s0, s1, s2⟩ := hSw; go_simp; rfl
  simp only [Act.put]
  refine gate_takeF (i := 10) (v := ?_) rfl (by kernel_rfl) (by kernel_rfl) (by kernel_rfl) (fun _ _ _ h => h) (by decide) ⟨hF, fun _ => hG⟩ (Or.inl ⟨by rfl, ?_⟩) ?_
  rotate_left
  · intro wq hSw; obtain ⟨s0, s1, s2⟩ := hSw; go_simp; rfl
  simp only [Act.put]
  refine gate_takeF (i := 11) (v := ?_) rfl (by kernel_rfl) (by kernel_rfl) (by kernel_rfl) (fun _ _ _ h => h) (by decide) ⟨hF, fun _ => hG⟩ (Or.inl ⟨by rfl, ?_⟩) ?_
  rotate_left
  · intro wq hSw; obtain ⟨s0, s1, s2⟩ := hSw; go_simp; rfl
  simp only [Act.put]
  refine gate_takeF (i := 12) (v := ?_) rfl (by kernel_rfl) (by kernel_rfl) (by kernel_rfl) (fun _ _ _ h => h) (by decide) ⟨hF, fun _ => hG⟩ (Or.inl ⟨by rfl, ?_⟩) ?_
  rotate_left
  · intro wq hSw; obtain ⟨s0, s1, s2⟩ := hSw; go_simp; rfl
  simp only [Act.put]
  refine gate_one (i := 13) (by kernel_rfl) rfl (fun K hK => ?_)
  have hkn := refKnows _ p k m _ _ _ _ _ we.drew (HEC.out.keep (Lat.drew we)).peel hk16
  go_simp
  refine hkn.mono ?_
  rintro e wk ⟨ov, rfl, hov, hbk⟩
  obtain ⟨oa, oc, rfl, -⟩ := OwnInts.sliceN hov (fun z hz => by have := knwL_rng hz; omega) HKN.out.symm
  clear hov
  have hF' : wk.cell? ⟨x, 3, none⟩ = some (.int .i64 qn) ∧ wk.cell? ⟨x, 5, none⟩ = some (.slice (some ⟨g', 0, none⟩) (ln + 1) cap') ∧ wk.cell? ⟨x, 4, none⟩ = some (.pointer (some ⟨p, 0, none⟩)) := ⟨hbk.cell_at hF.1, hbk.cell_at hF.2.1, hbk.cell_at hF.2.2⟩
  have hG' : wk.cell? ⟨X + 1, 0, none⟩ = some (.int .i64 0) ∧ wk.cell? ⟨X + 1, 1, none⟩ = some (.int .i64 0) ∧ wk.cell? ⟨X + 1, 2, none⟩ = some (.int .i64 0) := ⟨hbk.cell_at hG.1, hbk.cell_at hG.2.1, hbk.cell_at hG.2.2⟩
  have HBK := Lib.hid ((Lat.drew we).trans hbk)
  refine hK _ _ ⟨hF', fun _ => hG'⟩ ?_
  clear hK K hF hG hkn hbk
  have hF := hF'
  have hG := hG'
  clear hF' hG'
  refine gate_takeF (i := 14) (v := ?_) rfl (by kernel_rfl) (by kernel_rfl) (by kernel_rfl) (fun _ _ _ h => h) (by decide) ⟨hF, fun _ => hG⟩ (Or.inl ⟨by rfl, ?_⟩) ?_
  rotate_left
  · intro wq hSw; obtain ⟨s0, s1, s2⟩ := hSw; go_simp; rfl
  simp only [Act.put]
  refine gate_takeF (i := 15) (v := ?_) rfl (by kernel_rfl) (by kernel_rfl) (by kernel_rfl) (fun _ _ _ h => h) (by decide) ⟨hF, fun _ => hG⟩ (Or.inl ⟨by rfl, ?_⟩) ?_
  rotate_left
  · intro wq hSw; obtain ⟨s0, s1, s2⟩ := hSw; go_simp; rfl
  simp only [Act.put]
  have hbf := HBC.out.keep HBK.out
  have e0 := hG.1
  have e1 := hG.2.1
  have e2 := hG.2.2
  have g0 := hbf.g0
  have g1 := hbf.g1
  have g2 := hbf.g2
  have HBF := Lib.hid hbf
  have hqX : ∀ i, i ≠ X + 1 → ∀ j v u1 u2 u3, wk.cell? ⟨i, j, none⟩ = some v → (((wk.setCell ⟨X + 1, 0, none⟩ u1).setCell ⟨X + 1, 1, none⟩ u2).setCell ⟨X + 1, 2, none⟩ u3).cell? ⟨i, j, none⟩ = some v := fun i hi j v u1 u2 u3 hv => by
    rw [World.cell?_setCell_other _ _ _ _ (by intro e; injection e with e _ _; exact hi e.symm), World.cell?_setCell_other _ _ _ _ (by intro e; injection e with e _ _; exact hi e.symm), World.cell?_setCell_other _ _ _ _ (by intro e; injection e with e _ _; exact hi e.symm)]; exact hv
  have hxX : x ≠ X + 1 := by have := HH.out.lt x HH.out.gx; have := HX.out; omega
  have hF9 := fun u1 u2 u3 => And.intro (hqX x hxX _ _ u1 u2 u3 hF.1) (And.intro (hqX x hxX _ _ u1 u2 u3 hF.2.1) (hqX x hxX _ _ u1 u2 u3 hF.2.2))
  have HF9 := Lib.hid hF9
  have QQ := three_put hG.1 hG.2.1 hG.2.2 (.int .i64 qn) (.int .i64 ((ln : Int) + 1)) (.int .i64 (kn : Nat))
  have HQQ := Lib.hid QQ
  refine gate_one (i := 16) (by kernel_rfl) rfl (fun K hK => ?_)
  clear hF9 hqX QQ hbf
  go_simp
  refine hK _ _ (FG.past (by kernel_rfl) (HF9.out _ _ _)) ?_
  clear hK K hF hG e0 e1 e2 g0 g1 g2
  refine gate_takeF (i := 17) (v := ?_) rfl (by kernel_rfl) (by kernel_rfl) (by kernel_rfl) (fun _ _ _ h => h) (by decide) (FG.past (by kernel_rfl) (HF9.out _ _ _)) (Or.inl ⟨by rfl, ?_⟩) ?_
  rotate_left
  · intro wq hSw; go_simp; rfl
  simp only [Act.put]
  refine gate_done (by kernel_rfl) ?_ _
  simp only [List.getElem_toArray, List.getElem_cons_succ, List.getElem_cons_zero]
  go_wp2
  have hff : Fr (fun i => i = X + 1) wk (((wk.setCell ⟨X + 1, 0, none⟩ (.int .i64 qn)).setCell ⟨X + 1, 1, none⟩ (.int .i64 ((ln : Int) + 1))).setCell ⟨X + 1, 2, none⟩ (.int .i64 (kn : Nat))) := ((Fr.set (S := fun i => i = X + 1) wk ⟨X + 1, 0, none⟩ _ rfl).then_set ⟨X + 1, 1, none⟩ _ (.inl rfl)).then_set ⟨X + 1, 2, none⟩ _ (.inl rfl)
  have hfin : REarStep G x k m n qn (rtkK k K0 (L ++ [⟨s, S t⟩])) (rtkL k K0 (L ++ [⟨s, S t⟩])) (ds ++ [⟨s, S t⟩]) w (((wk.setCell ⟨X + 1, 0, none⟩ (.int .i64 qn)).setCell ⟨X + 1, 1, none⟩ (.int .i64 ((ln : Int) + 1))).setCell ⟨X + 1, 2, none⟩ (.int .i64 (kn : Nat))) :=
    ⟨(HFC.out.next HBK.out).trans hff (fun i hi e => by have := HX.out; omega), ⟨_, ⟨_, _, _, _, _, _, (HEC.out.keep HBK.out).fr hff (fun i hi e => HNX.out i hi e)⟩, HGI.out⟩⟩
  have Q0 := HQQ.out
  refine bodyPost_ret (v := .tuple #[.agg #[.int .i64 qn, .int .i64 ((ln : Int) + 1), .int .i64 (kn : Nat)], .int .i64 0]) (by simp [results, Tryz.results7, go_sem, Q0.1, Q0.2.1, Q0.2.2]) rfl ⟨?_, hfin⟩
  rfl
end Go.Proofs.YtcpookgbneoilaaGreatDoor

namespace Go.Proofs.YtcpookgbneoilaaGreatDoor
open Go.ChangeShapes Go.WideShapes Go.ChangeAt Go.RowKit

def rowD (k : Nat) (d : Dr) : Vec := (bitsN (setZ k d.s.toNat), d.t.data.toList)
def rowsD (k : Nat) (ds : List Dr) : List Vec := ds.map (rowD k)
def slvC (k : Nat) (L : List Vec) : Nat → Nat → Bool
  | 0, _ => false
  | f + 1, j => if mayT k (tabT k (L.take j)) (L.getD j (0, [])) = true then slvC k L f (j + 1) else true
def SolveEnd (w w' : World) (e : Ending) (C : Bool) (R k : Nat) (o : Nat → List UInt8) : Prop :=
  Lat w w' ∧ ((C = true ∧ e = .returned (.tuple #[.slice none 0 0, eno 7])) ∨ (C = false ∧ R < k ∧ e = .returned (.tuple #[.slice none 0 0, eno 8])) ∨
    (C = false ∧ R = k ∧ ∃ g, e = .returned (.tuple #[.slice (some ⟨g, 0, none⟩) k k, .nilIface]) ∧ Blk w' g k (fun j => .string (S (o j)))))
theorem rowsD_getD (k : Nat) (ds : List Dr) (j : Nat) (d : Dr) (h : ds[j]? = some d) : (rowsD k ds).getD j (0, []) = rowD k d := by
  unfold rowsD
  rw [List.getD_eq_getElem?_getD, List.getElem?_map, h]; rfl
theorem take_snocD (L : List Vec) (i : Nat) (h : i < L.length) : L.take (i + 1) = L.take i ++ [L.getD i (0, [])] := by
  rw [List.take_succ_eq_append_getElem h, List.getD_eq_getElem?_getD, List.getElem?_eq_getElem h]; rfl

set_option maxHeartbeats 4000000 in
set_option maxRecDepth 100000 in
theorem solve_valid (k m : Nat) (a : Option Addr) (n cap : Nat) (ds : List Dr) (w : World) (h : DropsAt w a n cap ds) (hn : n ≤ 60) (hk1 : 1 ≤ k) (hk : k ≤ 16) (hm1 : 1 ≤ m) (hm8 : m ≤ 8) (hd : ∀ d ∈ ds, drpE k m d.s d.t = 0) :
    Calls Tryz.prog 35 #[.int .i64 k, .int .i64 m, .slice a n cap] w fun e w' => SolveEnd w w' e (slvC k (rowsD k ds) n 0) (rnkT (tabT k (rowsD k ds)) k) k (outF (tabT k (rowsD k ds)) k k) := by
  have hl := h.len
  have hcm := h.rows.cap
  have hle := h.rows.le
  unfold maxLen at hcm
  obtain ⟨C, hC⟩ : ∃ C, C = slvC k (rowsD k ds) n 0 := ⟨_, rfl⟩
  obtain ⟨R, hR⟩ : ∃ R, R = rnkT (tabT k (rowsD k ds)) k := ⟨_, rfl⟩
  obtain ⟨O, hO⟩ : ∃ O, O = outF (tabT k (rowsD k ds)) k k := ⟨_, rfl⟩
  rw [← hC, ← hR, ← hO]
  have d60 : decide ((60 : Int) < (n : Int)) = false := decide_eq_false (by omega)
  have hget : ∀ j, j < n → ∃ d, ds[j]? = some d ∧ d ∈ ds := fun j hj => ⟨ds[j], List.getElem?_eq_getElem (by omega), List.getElem_mem (by omega)⟩
  have H := Lib.hid h; have HD := Lib.hid hd; have HL := Lib.hid hl; have HC := Lib.hid hC; have HR := Lib.hid hR; have HO := Lib.hid hO; have HGET := Lib.hid hget
  clear h hd hl hC hR hO hget
  go_enter Tryz.func35, Tryz.ntmps35
  go_wp2_with (first
    | (go_at_call 39; refine (dblocks_yes k _ (by omega) (by omega)).mono ?_; rintro e w' ⟨rfl, rfl⟩)
    | (go_at_call 40; refine (size_yes m _ (by omega) (by omega)).mono ?_; rintro e w' ⟨rfl, rfl⟩))
  go_loopw [9, 10, 33] (fun _ _ i wr => ∃ j : Nat, j ≤ n ∧ i = .int .i64 j ∧ Hid (Lat w wr)) (fun _ _ i _ => n - (intOf i).toNat)
  case atStart => exact ⟨0, Nat.zero_le _, rfl, Lat.refl _⟩
  case round =>
    obtain ⟨j, hj, rfl, hrel⟩ := hrel
    by_cases hlt : j < n
    · obtain ⟨d, hdj, hdm⟩ := HGET.out j hlt
      obtain ⟨ab, ao, rfl, hc⟩ := (H.out.keep hrel.out).at_ (by omega)
      obtain ⟨c0, c1⟩ := hc j d hdj
      have he := HD.out d hdm
      obtain ⟨s, t⟩ := d
      have kc := fun W => dchk_tells k m s t W
      rw [he, errv_zero rfl] at kc
      have KC := Lib.hid kc; have HLA := Lib.hid hrel.out
      clear hc hdj hdm he kc hrel
      go_wp2_with (go_at_call 25; refine (KC.out _).mono ?_; rintro e w5 ⟨rfl, hb5⟩)
      have HL5 := Lib.hid (Lat.trans (Lat.trans HLA.out (Lat.alloc _ _)) hb5)
      clear hb5
      go_roundw
      case rel => exact ⟨j + 1, by omega, by go_num, HL5.out⟩
      case measure => simp [intOf]; omega
    · have HLA := Lib.hid hrel.out
      clear hrel
      obtain ⟨wo, hwo⟩ : ∃ wo : World, wo = wr := ⟨_, rfl⟩
      subst hwo
      go_wp2_with (go_at_call 50; refine (newTable_any k _).mono ?_; rintro e w1 ⟨⟨p, b, rfl, hp, hb, ht⟩, hb1⟩)
      have HB : Hid (w.heap.size ≤ b) := Nat.le_trans HLA.out.size hb
      have hst0 : St m k (tabT k ((rowsD k ds).take 0)) ((rowsD k ds).take 0) := by rw [List.take_zero]; exact St.nil m k
      have HT0 : Hid (TabAt w1 p b k (tabT k ((rowsD k ds).take 0))) := ht
      have HB1 := Lib.hid (Lat.trans HLA.out hb1); have HS0 := Lib.hid hst0
      clear hp hb ht hb1 hst0
      go_loopw [13, 14, 15, 48] (fun _ _ _ i wr => ∃ j : Nat, j ≤ n ∧ i = .int .i64 j ∧ Hid (slvC k (rowsD k ds) (n - j) j = C ∧ St m k (tabT k ((rowsD k ds).take j)) ((rowsD k ds).take j) ∧ TabAt wr p b k (tabT k ((rowsD k ds).take j)) ∧ Lat w wr)) (fun _ _ _ i _ => n - (intOf i).toNat)
      case atStart => exact ⟨0, Nat.zero_le _, rfl, HC.out.symm, HS0.out, HT0.out, HB1.out⟩
      case round =>
        obtain ⟨j, hj, rfl, hrel⟩ := hrel
        obtain ⟨hsc, hst, htab, hlat⟩ := hrel.out
        by_cases hlt : j < n
        · obtain ⟨d, hdj, hdm⟩ := HGET.out j hlt
          obtain ⟨ab, ao, rfl, hc⟩ := (H.out.keep hlat).at_ (by omega)
          obtain ⟨c0, c1⟩ := hc j d hdj
          have he := drpE_zero (HD.out d hdm)
          have hrow := rowsD_getD k ds j d hdj
          have hnx := take_snocD (rowsD k ds) j (by unfold rowsD; rw [List.length_map, HL.out]; exact hlt)
          have hsc2 : (if mayT k (tabT k ((rowsD k ds).take j)) ((rowsD k ds).getD j (0, [])) = true then slvC k (rowsD k ds) (n - (j + 1)) (j + 1) else true) = C := by
            rw [← hsc, show n - j = (n - (j + 1)) + 1 by omega]; rfl
          obtain ⟨s, t⟩ := d
          obtain ⟨sn, rfl⟩ : ∃ sn : Nat, s = sn := ⟨s.toNat, by have h5 : (1 : Int) ≤ s := he.2.2.2.2.1; omega⟩
          have hs1 : 1 ≤ sn := by have h5 : (1 : Int) ≤ (sn : Int) := he.2.2.2.2.1; omega
          have hs2 : sn ≤ 10000 := by have h5 : (sn : Int) ≤ 10000 := he.2.2.2.2.2.1; omega
          have htm : t.size = m := by have h5 : (t.size : Int) = (m : Int) := he.2.2.2.2.2.2; omega
          obtain ⟨tl, rfl⟩ := S_of t
          have hrd : rowD k ⟨(sn : Int), S tl⟩ = (bitsN (setZ k sn), tl) := by unfold rowD; simp only [Int.toNat_natCast]
          rw [hrd] at hrow
          rw [hrow] at hnx hsc2
          have hsz : ∀ z ∈ setZ k sn, 0 ≤ z ∧ z < 16 := fun z hz => by have := setZ_lt k sn hk1 hs1 z hz; omega
          have hbl : bitsN (setZ k sn) < 2 ^ k := bitsTo_lt _ k (setZ_lt k sn hk1 hs1) _ (Nat.le_refl _)
          have htl : tl.length = m := htm
          have hadd := fun W (hW : TabAt W p b k (tabT k ((rowsD k ds).take j))) => tadd_any p b k m _ (bitsN (setZ k sn), tl) W hW hk hst.ti hbl htl hm8
          have hmy : mayT k (tabT k ((rowsD k ds).take j)) (bitsN (setZ k sn), tl) = true → St m k (tabT k ((rowsD k ds).take (j + 1))) ((rowsD k ds).take (j + 1)) := fun hmt => by
            rw [hnx, tabT_snoc]
            refine hst.addT (by omega) htl hbl (fun h0 => ?_)
            unfold mayT at hmt
            by_cases h2 : (leftTo (tabT k ((rowsD k ds).take j)) (bitsN (setZ k sn), tl) k).2 = noughts m
            · exact h2
            · exfalso
              rw [decide_eq_true ⟨h0, by show _ ≠ noughts tl.length; rw [htl]; exact h2⟩] at hmt
              cases hmt
          have htn : addT k (tabT k ((rowsD k ds).take j)) (bitsN (setZ k sn), tl) = tabT k ((rowsD k ds).take (j + 1)) := by rw [hnx, tabT_snoc]
          obtain ⟨my, hmyd⟩ : ∃ my, my = mayT k (tabT k ((rowsD k ds).take j)) (bitsN (setZ k sn), tl) := ⟨_, rfl⟩
          obtain ⟨rs, hrs⟩ : ∃ rs, rs = rsT k (tabT k ((rowsD k ds).take j)) (bitsN (setZ k sn), tl) := ⟨_, rfl⟩
          simp only [← hmyd, ← hrs, htn] at hadd
          rw [← hmyd] at hsc2 hmy
          have HTB := Lib.hid htab; have HLT := Lib.hid hlat; have HSZ := Lib.hid hsz; have HADD := Lib.hid hadd; have HMY := Lib.hid hmy; have HSC := Lib.hid hsc2
          clear hrel hsc hst htab hlat hc hdj hdm he hrow hnx hsc2 hrd hsz hbl htl htm hadd hmy htn hmyd hrs
          go_upto_region 16 with fail
          obtain ⟨X, hX⟩ : ∃ X, X = wr.heap.size := ⟨_, rfl⟩
          obtain ⟨W0, hW0⟩ : ∃ W, W = wr.alloc (.cells #[.int .i64 sn, .string (S tl)] 37) := ⟨_, rfl⟩
          have hl0 : Lat wr W0 := by rw [hW0]; exact Lat.alloc _ _
          have e0 : W0.cell? ⟨X, 0, none⟩ = some (.int .i64 sn) := by rw [hW0, hX, World.cell?_alloc_at _ _ _ _ rfl]; rfl
          have e1 : W0.cell? ⟨X, 1, none⟩ = some (.string (S tl)) := by rw [hW0, hX, World.cell?_alloc_at _ _ _ _ rfl]; rfl
          have hbX : b ≠ X := by have := HTB.out.lt.2; omega
          rw [← hW0, ← hX]
          clear hW0 hX c0 c1
          have hF : W0.drew.cell? ⟨X, 0, none⟩ = some (.int .i64 sn) ∧ W0.drew.cell? ⟨X, 1, none⟩ = some (.string (S tl)) := ⟨e0, e1⟩
          have hL0 : Lat wr W0.drew := Lat.trans hl0 (Lat.drew W0)
          refine wp_region_gate (fun w' => w'.cell? ⟨X, 0, none⟩ = some (.int .i64 sn) ∧ w'.cell? ⟨X, 1, none⟩ = some (.string (S tl))) (fun _ => True) 1000 (by kernel_rfl) ?_
          obtain ⟨w0, hw0⟩ : ∃ x, x = W0.drew := ⟨_, rfl⟩
          rw [← hw0] at hF hL0 ⊢
          clear hw0 e0 e1 hl0
          refine gate_takeF (i := 0) (v := ?_) rfl (by kernel_rfl) (by kernel_rfl) (by kernel_rfl) (fun _ _ _ h => h) (by decide) ⟨hF, fun _ => trivial⟩ (Or.inl ⟨by rfl, ?_⟩) ?_
          rotate_left
          · intro wq hSw; obtain ⟨s0, s1⟩ := hSw; go_simp; rfl
          simp only [Act.put]
          refine gate_takeF (i := 1) (v := ?_) rfl (by kernel_rfl) (by kernel_rfl) (by kernel_rfl) (fun _ _ _ h => h) (by decide) ⟨hF, fun _ => trivial⟩ (Or.inl ⟨by rfl, ?_⟩) ?_
          rotate_left
          · intro wq hSw; obtain ⟨s0, s1⟩ := hSw; go_simp; rfl
          simp only [Act.put]
          refine gate_takeF (i := 2) (v := ?_) rfl (by kernel_rfl) (by kernel_rfl) (by kernel_rfl) (fun _ _ _ h => h) (by decide) ⟨hF, fun _ => trivial⟩ (Or.inl ⟨by rfl, ?_⟩) ?_
          rotate_left
          · intro wq hSw; obtain ⟨s0, s1⟩ := hSw; go_simp; rfl
          simp only [Act.put]
          refine gate_takeF (i := 3) (v := ?_) rfl (by kernel_rfl) (by kernel_rfl) (by kernel_rfl) (fun _ _ _ h => h) (by decide) ⟨hF, fun _ => trivial⟩ (Or.inl ⟨by rfl, ?_⟩) ?_
          rotate_left
          · intro wq hSw; obtain ⟨s0, s1⟩ := hSw; go_simp; rfl
          simp only [Act.put]
          refine gate_takeF (i := 6) (v := ?_) rfl (by kernel_rfl) (by kernel_rfl) (by kernel_rfl) (fun _ _ _ h => h) (by decide) ⟨hF, fun _ => trivial⟩ (Or.inl ⟨by rfl, ?_⟩) ?_
          rotate_left
          · intro wq hSw; obtain ⟨s0, s1⟩ := hSw; go_simp; rfl
          simp only [Act.put]
          refine gate_takeF (i := 7) (v := ?_) rfl (by kernel_rfl) (by kernel_rfl) (by kernel_rfl) (fun _ _ _ h => h) (by decide) ⟨hF, fun _ => trivial⟩ (Or.inl ⟨by rfl, ?_⟩) ?_
          rotate_left
          · intro wq hSw; obtain ⟨s0, s1⟩ := hSw; go_simp; rfl
          simp only [Act.put]
          refine gate_one (i := 4) (by kernel_rfl) rfl (fun K hK => ?_)
          go_simp
          refine (dropOf_any k sn _ hk1 hk hs1 hs2).mono ?_
          rintro e w2 ⟨oa, oc, rfl, hoi, hb2⟩
          have hF2 : w2.cell? ⟨X, 0, none⟩ = some (.int .i64 sn) ∧ w2.cell? ⟨X, 1, none⟩ = some (.string (S tl)) := ⟨hb2.cell_at hF.1, hb2.cell_at hF.2⟩
          have hL2 : Lat wr w2 := Lat.trans hL0 hb2
          refine hK _ _ ⟨hF2, fun _ => trivial⟩ ?_
          clear hK K hF hb2 hL0
          have hF := hF2
          clear hF2
          refine gate_one (i := 5) (by kernel_rfl) rfl (fun K hK => ?_)
          go_simp
          refine (bits_any _ _ _ _ _ hoi HSZ.out).mono ?_
          rintro e w' ⟨rfl, rfl⟩
          refine hK _ _ ⟨hF, fun _ => trivial⟩ ?_
          clear hK K
          refine gate_takeF (i := 8) (v := ?_) rfl (by kernel_rfl) (by kernel_rfl) (by kernel_rfl) (fun _ _ _ h => h) (by decide) ⟨hF, fun _ => trivial⟩ (Or.inl ⟨by rfl, ?_⟩) ?_
          rotate_left
          · intro wq hSw; obtain ⟨s0, s1⟩ := hSw; go_simp; rfl
          simp only [Act.put]
          refine gate_one (i := 9) (by kernel_rfl) rfl (fun K hK => ?_)
          go_simp
          refine (HADD.out _ (HTB.out.keep hL2)).mono ?_
          rintro e w3 ⟨rfl, ht3, hf3⟩
          have hF3 : w3.cell? ⟨X, 0, none⟩ = some (.int .i64 sn) ∧ w3.cell? ⟨X, 1, none⟩ = some (.string (S tl)) := ⟨hf3.cell_at hF.1 (fun e => hbX e.symm), hf3.cell_at hF.2 (fun e => hbX e.symm)⟩
          have hl3 : Lat w w3 := hf3.lat_of (Lat.trans HLT.out hL2) (fun i e => by rw [e]; exact HB.out)
          have HT3 := Lib.hid ht3; have HL3 := Lib.hid hl3
          refine hK _ _ ⟨hF3, fun _ => trivial⟩ ?_
          clear hK K hF ht3 hf3 hl3 hL2 hoi
          have hF := hF3
          clear hF3
          refine gate_takeF (i := 10) (v := ?_) rfl (by kernel_rfl) (by kernel_rfl) (by kernel_rfl) (fun _ _ _ h => h) (by decide) ⟨hF, fun _ => trivial⟩ (Or.inl ⟨by rfl, ?_⟩) ?_
          rotate_left
          · intro wq hSw; obtain ⟨s0, s1⟩ := hSw; go_simp; rfl
          simp only [Act.put]
          refine gate_takeF (i := 11) (v := ?_) rfl (by kernel_rfl) (by kernel_rfl) (by kernel_rfl) (fun _ _ _ h => h) (by decide) ⟨hF, fun _ => trivial⟩ (Or.inl ⟨by rfl, ?_⟩) ?_
          rotate_left
          · intro wq hSw; obtain ⟨s0, s1⟩ := hSw; go_simp; rfl
          simp only [Act.put]
          refine gate_takeF (i := 12) (v := ?_) rfl (by kernel_rfl) (by kernel_rfl) (by kernel_rfl) (fun _ _ _ h => h) (by decide) ⟨hF, fun _ => trivial⟩ (Or.inl ⟨by rfl, ?_⟩) ?_
          rotate_left
          · intro wq hSw; obtain ⟨s0, s1⟩ := hSw; go_simp; rfl
          simp only [Act.put]
          refine gate_takeF (i := 13) (v := ?_) rfl (by kernel_rfl) (by kernel_rfl) (by kernel_rfl) (fun _ _ _ h => h) (by decide) ⟨hF, fun _ => trivial⟩ (Or.inl ⟨by rfl, ?_⟩) ?_
          rotate_left
          · intro wq hSw; obtain ⟨s0, s1⟩ := hSw; go_simp; rfl
          simp only [Act.put]
          refine gate_takeF (i := 14) (v := ?_) rfl (by kernel_rfl) (by kernel_rfl) (by kernel_rfl) (fun _ _ _ h => h) (by decide) ⟨hF, fun _ => trivial⟩ (Or.inl ⟨by rfl, ?_⟩) ?_
          rotate_left
          · intro wq hSw; obtain ⟨s0, s1⟩ := hSw; go_simp; rfl
          simp only [Act.put]
          refine gate_done (by kernel_rfl) ?_ _
          clear hF
          cases my with
          | true =>
            have HC2 : Hid (slvC k (rowsD k ds) (n - (j + 1)) (j + 1) = C) := by show _ = _; rw [← HSC.out, if_pos (by simp)]
            have HS2 := Lib.hid (HMY.out rfl)
            go_wp2
            go_roundw
            case rel => exact ⟨j + 1, by omega, by go_num, HC2.out, HS2.out, HT3.out, HL3.out⟩
            case measure => simp [intOf]; omega
          | false =>
            have HC2 : Hid (C = true) := by show _ = _; rw [← HSC.out, if_neg (by simp)]
            go_wp2
            go_ret2
            exact ⟨HL3.out, .inl ⟨HC2.out, rfl⟩⟩
        · obtain rfl : j = n := by omega
          have hall : (rowsD k ds).take j = rowsD k ds := List.take_of_length_le (by unfold rowsD; rw [List.length_map, HL.out]; exact Nat.le_refl _)
          have hC0 : C = false := by rw [← hsc, Nat.sub_self]; rfl
          rw [hall] at hst htab
          have hrk := rnkT_le (tabT k (rowsD k ds)) k
          have hfull := fun hr => rnkT_full (T := tabT k (rowsD k ds)) (k := k) hr
          rw [← HR.out] at hrk hfull
          have HTB := Lib.hid htab; have HLT := Lib.hid hlat; have HC0 := Lib.hid hC0; have HTI := Lib.hid hst.ti; have HFU := Lib.hid hfull
          clear hrel hsc hst htab hlat hall hC0 hfull
          by_cases hr : R < k
          · have dr : decide (R < k) = true := decide_eq_true hr
            go_wp2_with (go_at_call 53; refine (rank_tab p b k _ _ HTB.out).mono ?_; rw [← HR.out]; rintro e w' ⟨rfl, rfl⟩)
            go_ret2
            exact ⟨HLT.out, .inr (.inl ⟨HC0.out, hr, rfl⟩)⟩
          · have dr : decide (R < k) = false := decide_eq_false hr
            have hRk : R = k := by omega
            have hfl : ∀ b, b < k → tabT k (rowsD k ds) b ≠ none := fun b hb e => by have := HFU.out hRk b hb; rw [e] at this; cases this
            have kb := back_any p b k m _ wr HTB.out hk1 hk HTI.out hm8 hfl
            rw [← HO.out] at kb
            have KB := Lib.hid kb; have HRK := Lib.hid hRk
            clear kb hfl hRk
            go_wp2_with (first
              | (go_at_call 53; refine (rank_tab p b k _ _ HTB.out).mono ?_; rw [← HR.out]; rintro e w' ⟨rfl, rfl⟩)
              | (go_at_call 58; refine KB.out.mono ?_; rintro e w5 ⟨g, rfl, -, hbk, hb5⟩))
            go_ret2
            exact ⟨Lat.trans HLT.out hb5, .inr (.inr ⟨HC0.out, HRK.out, g, rfl, hbk⟩)⟩
end Go.Proofs.YtcpookgbneoilaaGreatDoor

