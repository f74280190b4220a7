import Derived.Test.YtcpookgbneoilaaGreatDoorAppG
import Derived.Test.YtcpookgbneoilaaGreatDoorOwnC
import Derived.Test.YtcpookgbneoilaaGreatDoorShelfSort
import Derived.Sort.Grow
import Derived.Test.YtcpookgbneoilaaGreatDoorMix
import Derived.Deep.LoopGhost
import Derived.Test.YtcpookgbneoilaaGreatDoorMapF
import Derived.Test.YtcpookgbneoilaaGreatDoorPeelPl
import Derived.Deep.CutRange
import Derived.Deep.DeepCutAuto
import Derived.Shelf.Slices.In.SortNone
import Derived.OrdersHeld
import Derived.Deep.RegionHeld3
import Derived.Test.YtcpookgbneoilaaGreatDoorOwnR
import Derived.Deep.AppendLies
import Derived.Test.YtcpookgbneoilaaGreatDoorBase
import Derived.Lib.SmallJoins
import Derived.Deep.Slices
import Derived.Deep.Fields
import Derived.ChangeSame
namespace Go.Proofs.YtcpookgbneoilaaGreatDoor
open Go.ChangeShapes Go.WideShapes Go.ChangeAt Go.RowKit

theorem run_app_void {P : Program} {w : World} {B : Nat} {t ty e : TypeId} {i : TypeInfo} (ht : P.underlying t = some (.slice e)) (hi : P.info? e = some i)
    {v : Value} {xs : List Value} (hown : Own w B e v xs) (c : Nat) : (Builtin.append_ #[t, t] ty #[v, .slice none 0 c]).run P w = .ok v w := by
  rcases hown.2 with ⟨rfl, h0⟩ | ⟨g, cap, cur, rfl, _, _, hnc, _⟩
  · simp [Builtin.append_, run_underlying ht, sizeOf, typeInfo, hi, Builtin.lenOf, Builtin.firstCells]
  · simp [Builtin.append_, run_underlying ht, sizeOf, typeInfo, hi, Builtin.lenOf, Builtin.firstCells, hnc, storeCells]
theorem run_app_many {P : Program} (w : World) (B : Nat) (t ty e : TypeId) (z : Value) (bytes : Nat) (ht : P.underlying t = some (.slice e)) (hinfo : (P.info? e).map (fun i => (i.zero, i.size, i.bytes)) = some (some z, 1, bytes)) (hz : z.cells.size = 1) (hby : bytes ≤ 16)
    (v : Value) (xs : List Value) (hown : Own w B e v xs) (A : Option Addr) (m c : Nat) (ys : List Value) (hl : ys.length = m) (hr : RowAt w A m c (fun j => ys.getD j undef)) (h1 : ∀ u ∈ ys, u.oneCell' = true) (hn : xs.length + m < 1000000000000) (hB : B ≤ w.heap.size) :
    ∃ v' w', (Builtin.append_ #[t, t] ty #[v, .slice A m c]).run P w = .ok v' w' ∧ Own w' B e v' (xs ++ ys) ∧ w.grownBy w' v.ownBlock ∧ (v'.ownBlock = v.ownBlock ∨ v'.ownBlock = some w.heap.size) := by
  obtain ⟨i0, hi, hz0, hz1, hz2⟩ := info_parts hinfo
  rcases A with _ | ad
  · have hm : m = 0 := by
      rcases Nat.eq_zero_or_pos m with h0 | h0
      · exact h0
      · obtain ⟨b, o, h, _⟩ := hr.at_ (by omega)
        cases h
    subst hm
    have hy : ys = [] := List.eq_nil_of_length_eq_zero hl
    subst hy
    exact ⟨v, w, run_app_void ht hi hown c, by rw [List.append_nil]; exact hown, World.grownBy.refl w _, .inl rfl⟩
  · have hcells : ∀ j u, ys[j]? = some u → w.cell? (ad.add j) = some u := by
      intro j u hu
      have hj : j < m := by rw [← hl]; exact (List.getElem?_eq_some_iff.1 hu).1
      obtain ⟨b, o, h, hc⟩ := hr.at_ (by omega)
      injection h with h
      subst h
      rw [Addr.add_lit, hc j hj, List.getD_eq_getElem?_getD, hu]; rfl
    obtain ⟨v', w', hrun, h2, h3, _, h5⟩ := run_append_own_at (P := P) w B t ty e i0 z 1 bytes ht hi hz0 hz1 hz2 hz (by decide) v xs.length xs hown ad m c ys (by omega) hcells h1 (by unfold maxLen; omega)
      (by calc (xs.length + m) * bytes ≤ (xs.length + m) * 16 := Nat.mul_le_mul_left _ hby
            _ ≤ 140737488355328 := by omega) hB
    refine ⟨v', w', hrun, ?_, h3, h5⟩
    unfold Own; rw [List.length_append, hl]; exact h2
theorem AppStep.of {wr w' : World} {v v' : Value} (hgrow : wr.grownBy w' v.ownBlock) (hloc : v'.ownBlock = v.ownBlock ∨ v'.ownBlock = some wr.heap.size) : AppStep wr w' v v' :=
  ⟨fun k hk hne => hgrow.block k hk hne, hgrow.size, hloc.imp id fun h => ⟨_, h, Nat.le_refl _⟩⟩

theorem wpList_appM {P : Program} (wr w0 : World) (B : Nat) {ops : Array Oper} {rest : List Oper} {o : Oper} {a : Act} {Q : Exit → Act → World → Prop}
    (hg : o.guard = none) (s x : Operand) (t : TypeId) (ho : o.op = .call { callee := .builtin .append, args := #[s, x], argTypes := #[t, t] })
    (e : TypeId) (z : Value) (bytes : Nat) (ht : P.underlying t = some (.slice e)) (hinfo : (P.info? e).map (fun i => (i.zero, i.size, i.bytes)) = some (some z, 1, bytes)) (hz : z.cells.size = 1) (hby : bytes ≤ 16)
    (v : Value) (xs : List Value) (hs : a.eval s = v) (hown : Own wr B e v xs) (A : Option Addr) (m c : Nat) (ys : List Value) (hx : a.eval x = .slice A m c) (hl : ys.length = m) (hr : RowAt wr A m c (fun j => ys.getD j undef)) (h1 : ∀ u ∈ ys, u.oneCell' = true)
    (hn : xs.length + m < 1000000000000) (hB : B = w0.heap.size) (hb : Below B w0 wr)
    (K : ∀ v' w', Own w' B e v' (xs ++ ys) → Below B w0 w' → AppStep wr w' v v' → wpList P ops Q rest (a.put o.dst v') w') :
    wpList P ops Q (o :: rest) a wr := by
  have hsz := hb.size
  obtain ⟨v', w', hrun, h2, h3, h4⟩ := run_app_many wr B t o.type e z bytes ht hinfo hz hby v xs hown A m c ys hl hr h1 hn (by omega)
  refine wpList_plain hg fun K' hK => ?_
  unfold Oper.wp execOp
  simp only [ho, resolve, invoke, builtin, Sem.run_bind, Sem.run_pure, Result.andThen_ok, List.map_toArray, List.map_cons, List.map_nil, hs, hx, hrun]
  exact hK _ _ (K v' w' h2 (Below.grown hb h3 (by omega) fun k hk => (Own.lt hown k hk).1) (AppStep.of h3 h4))
theorem RowAt.ofInts {w : World} {a : Option Addr} {n cap : Nat} {zs : List Int} (h : IntsAt w a n cap zs) : RowAt w a n cap (fun j => (zs.map (Value.int .i64)).getD j undef) :=
  ⟨h.row.le, h.row.cap, fun hn => by
    obtain ⟨b, o, ha, hc⟩ := h.row.at_ hn
    refine ⟨b, o, ha, fun j hj => ?_⟩
    have hl := h.len
    have e : (zs.map (Value.int .i64)).getD j undef = .int .i64 (zs.getD j 0) := by
      rw [List.getD_eq_getElem?_getD, List.getElem?_map, List.getD_eq_getElem?_getD, List.getElem?_eq_getElem (by omega)]; rfl
    rw [hc j hj, e]⟩
theorem RowAt.ofStrs {w : World} {a : Option Addr} {n cap : Nat} {zs : List ByteArray} (h : StrsAt w a n cap zs) : RowAt w a n cap (fun j => (zs.map Value.string).getD j undef) :=
  ⟨h.row.le, h.row.cap, fun hn => by
    obtain ⟨b, o, ha, hc⟩ := h.row.at_ hn
    refine ⟨b, o, ha, fun j hj => ?_⟩
    have hl := h.len
    have e : (zs.map Value.string).getD j undef = .string (zs.getD j ByteArray.empty) := by
      rw [List.getD_eq_getElem?_getD, List.getElem?_map, List.getD_eq_getElem?_getD, List.getElem?_eq_getElem (by omega)]; rfl
    rw [hc j hj, e]⟩
theorem app_ints (wr w0 : World) (B : Nat) {ops : Array Oper} {rest : List Oper} {o : Oper} {a : Act} {Q : Exit → Act → World → Prop}
    (hg : o.guard = none) (s x : Operand) (ho : o.op = .call { callee := .builtin .append, args := #[s, x], argTypes := #[42, 42] })
    (v : Value) (zs ys : List Int) (hs : a.eval s = v) (hown : OwnInts wr B v zs) (A : Option Addr) (m c : Nat) (hx : a.eval x = .slice A m c) (hat : IntsAt wr A m c ys)
    (hn : zs.length + m < 1000000000000) (hB : B = w0.heap.size) (hb : Below B w0 wr)
    (K : ∀ v' w', OwnInts w' B v' (zs ++ ys) → Below B w0 w' → AppStep wr w' v v' → wpList Tryz.prog ops Q rest (a.put o.dst v') w') :
    wpList Tryz.prog ops Q (o :: rest) a wr :=
  wpList_appM wr w0 B hg s x 42 ho 3 (.int .i64 0) 8 Tryz.underlying42 info_int rfl (by decide) v _ hs hown A m c (ys.map (Value.int .i64)) hx (by rw [List.length_map]; exact hat.len) (RowAt.ofInts hat)
    (fun u hu => by obtain ⟨y, _, rfl⟩ := List.mem_map.1 hu; rfl) (by simpa using hn) hB hb
    (fun v' w' h1 h2 h3 => K v' w' (by simpa [OwnInts] using h1) h2 h3)
end Go.Proofs.YtcpookgbneoilaaGreatDoor

namespace Go.Proofs.YtcpookgbneoilaaGreatDoor
open Go.ChangeShapes Go.WideShapes Go.ChangeAt Go.RowKit

theorem Own.apart {w : World} {B C : Nat} {e f : TypeId} {v u : Value} {xs ys : List Value} (h : Own w B e v xs) (k : Own w C f u ys) (hef : e ≠ f) : ∀ g, v.ownBlock = some g → u.ownBlock ≠ some g := by
  intro g h1 h2
  rcases h.2 with ⟨rfl, _⟩ | ⟨g1, cap1, cur1, rfl, _, hg1, _⟩
  · simp [Value.ownBlock] at h1
  rcases k.2 with ⟨rfl, _⟩ | ⟨g2, cap2, cur2, rfl, _, hg2, _⟩
  · simp [Value.ownBlock] at h2
  obtain rfl : g1 = g := by simpa [Value.ownBlock] using h1
  obtain rfl : g2 = g1 := by simpa [Value.ownBlock] using h2
  rw [hg1] at hg2
  injection hg2 with hg2
  injection hg2 with _ hg2 _
  exact hef hg2
theorem Own.grown {w w' : World} {B : Nat} {e : TypeId} {v : Value} {xs : List Value} (h : Own w B e v xs) {row : Option Nat} (hg : w.grownBy w' row) (hne : ∀ g, v.ownBlock = some g → row ≠ some g) : Own w' B e v xs := by
  refine World.ownsRow.kept (row := row) h hg ?_
  cases hv : v.ownBlock with
  | none =>
    rcases h.2 with ⟨rfl, _⟩ | ⟨g1, cap1, cur1, rfl, _⟩
    · exact .inl rfl
    · simp [Value.ownBlock] at hv
  | some g => exact .inr (fun e => hne g hv e.symm)

theorem app_cell {P : Program} (w : World) (B : Nat) (t ty e : TypeId) (z : Value) (bytes : Nat) (ht : P.underlying t = some (.slice e)) (hinfo : (P.info? e).map (fun i => (i.zero, i.size, i.bytes)) = some (some z, 1, bytes)) (hz : z.cells.size = 1) (hby : bytes ≤ 16)
    (v : Value) (xs : List Value) (hown : Own w B e v xs) (g : Nat) (u : Value) (hc : w.cell? ⟨g, 0, none⟩ = some u) (hu : u.oneCell' = true) (hn : xs.length < 1000000000) (hB : B ≤ w.heap.size) :
    ∃ a' c' w', (Builtin.append_ #[t, t] ty #[v, .slice (some ⟨g, 0, none⟩) 1 1]).run P w = .ok (.slice a' (xs.length + 1) c') w' ∧ Own w' B e (.slice a' (xs.length + 1) c') (xs ++ [u]) ∧ w.grownBy w' v.ownBlock ∧
      ((Value.slice a' (xs.length + 1) c').ownBlock = v.ownBlock ∨ (Value.slice a' (xs.length + 1) c').ownBlock = some w.heap.size) := by
  have hrow1 : RowAt w (some ⟨g, 0, none⟩) 1 1 (fun j => [u].getD j undef) := by
    refine ⟨Nat.le_refl _, by unfold maxLen; omega, fun _ => ⟨g, 0, rfl, fun j hj => ?_⟩⟩
    obtain rfl : j = 0 := by omega
    exact hc
  obtain ⟨v', w', hrun, h2, h3, h4⟩ := run_app_many (P := P) w B t ty e z bytes ht hinfo hz hby v xs hown (some ⟨g, 0, none⟩) 1 1 [u] rfl hrow1 (fun x hx => by rw [List.mem_singleton.1 hx]; exact hu) (by omega) hB
  obtain ⟨a', c', hv', _⟩ := Own.slice h2
  rw [List.length_append, List.length_singleton] at hv'
  subst hv'
  exact ⟨a', c', w', hrun, h2, h3, h4⟩
end Go.Proofs.YtcpookgbneoilaaGreatDoor

namespace Go.Proofs.YtcpookgbneoilaaGreatDoor
open Go.ChangeShapes Go.WideShapes Go.ChangeAt Go.RowKit

def nxt (n : Int) : Int := n * 16807 % 2147483647
theorem nxt_bd (n : Int) : 0 ≤ nxt n ∧ nxt n < 2147483647 := by unfold nxt; omega
theorem nxt_eq (n : Int) : n * 16807 % 2147483647 = nxt n := rfl
def itn (n : Int) : Nat → Int
  | 0 => n
  | k + 1 => nxt (itn n k)
def rowL (n : Int) (k : Nat) : List Int := (List.range k).map fun i => itn n (i + 1)
theorem rowL_succ (n : Int) (k : Nat) : rowL n (k + 1) = rowL n k ++ [nxt (itn n k)] := by
  unfold rowL; rw [List.range_succ, List.map_append]; rfl

theorem go_any (n : Int) (w : World) (h0 : 0 ≤ n) (h1 : n ≤ 2147483647) :
    Calls Tryz.prog 66 #[.int .i64 n] w fun e w' => e = .returned (.int .i64 (nxt n)) ∧ w = w' := by
  go_enter Tryz.func66, Tryz.ntmps66
  go_wp2
  go_ret
  exact ⟨rfl, rfl⟩

theorem itn_bd (n : Int) (k : Nat) (h0 : 1 ≤ n) (h1 : n ≤ 2147483646) : 0 ≤ itn n k ∧ itn n k ≤ 2147483646 := by
  cases k with
  | zero => exact ⟨by unfold itn; omega, by unfold itn; omega⟩
  | succ k => have := nxt_bd (itn n k); exact ⟨this.1, by unfold itn; omega⟩
theorem rowL_length (n : Int) (k : Nat) : (rowL n k).length = k := by simp [rowL]
theorem rowL_wf (n : Int) (k : Nat) : ∀ z ∈ rowL n k, -9223372036854775808 ≤ z ∧ z ≤ 9223372036854775807 := by
  intro z hz
  unfold rowL at hz
  obtain ⟨i, _, rfl⟩ := List.mem_map.1 hz
  have := nxt_bd (itn n i)
  show _ ≤ nxt (itn n i) ∧ nxt (itn n i) ≤ _
  omega

end Go.Proofs.YtcpookgbneoilaaGreatDoor

namespace Go.Proofs.YtcpookgbneoilaaGreatDoor
open Go.ChangeShapes Go.WideShapes Go.ChangeAt Go.RowKit

def dgc (k n d : Nat) : Prop := n * k * d < 1000 * (d + k * (d - 1))
instance (k n d : Nat) : Decidable (dgc k n d) := inferInstanceAs (Decidable (_ < _))
def degFrom (k n : Nat) : Nat → Nat → Nat
  | 0, d => d
  | f + 1, d => if dgc k n d then d else degFrom k n f (d + 1)
def degF (k n : Nat) : Nat := if n * k < 1000 then 1 else degFrom k n (k - 2) 2

theorem dgc_top (k n : Nat) (hk : 1 ≤ k) (hn : n ≤ 999) : dgc k n k := by
  unfold dgc
  have h1 : k + k * (k - 1) = k * k := by
    obtain ⟨j, rfl⟩ : ∃ j, k = j + 1 := ⟨k - 1, by omega⟩
    simp only [Nat.add_sub_cancel]
    rw [Nat.mul_add (j + 1) j 1, Nat.mul_one]; omega
  rw [h1, Nat.mul_assoc]
  have : 0 < k * k := Nat.mul_pos hk hk
  exact Nat.mul_lt_mul_of_pos_right (by omega) this
theorem degFrom_eq (k n : Nat) : ∀ f d0 d, d0 ≤ d → d ≤ d0 + f → (∀ x, d0 ≤ x → x < d → ¬ dgc k n x) → (dgc k n d ∨ d = d0 + f) → degFrom k n f d0 = d
  | 0, d0, d, h1, h2, _, _ => by unfold degFrom; omega
  | f + 1, d0, d, h1, h2, h3, h4 => by
    unfold degFrom
    by_cases hd : d0 = d
    · subst hd
      rcases h4 with h | h
      · rw [if_pos h]
      · omega
    · rw [if_neg (h3 d0 (Nat.le_refl _) (by omega))]
      exact degFrom_eq k n f (d0 + 1) d (by omega) (by omega) (fun x hx hx2 => h3 x (by omega) hx2) (h4.imp id (fun h => by omega))
theorem degF_eq (k n d : Nat) (h0 : ¬ n * k < 1000) (h1 : 2 ≤ d) (h2 : d ≤ k) (h3 : ∀ x, 2 ≤ x → x < d → ¬ dgc k n x) (h4 : dgc k n d) : degF k n = d := by
  unfold degF; rw [if_neg h0]; exact degFrom_eq k n (k - 2) 2 d h1 (by omega) h3 (.inl h4)
theorem degF_bd (k n : Nat) (hk : 1 ≤ k) (hn : n ≤ 999) : 1 ≤ degF k n ∧ degF k n ≤ k := by
  unfold degF; split
  · omega
  · rename_i h
    have hk2 : 2 ≤ k := by
      rcases Nat.lt_or_ge k 2 with h2 | h2
      · have : k = 1 := by omega
        subst this; omega
      · exact h2
    have : ∀ f d, d ≤ degFrom k n f d ∧ degFrom k n f d ≤ d + f := by
      intro f
      induction f with
      | zero => intro d; unfold degFrom; omega
      | succ f ih =>
        intro d
        unfold degFrom; have := ih (d + 1); split <;> omega
    have := this (k - 2) 2
    omega

theorem dblocks_yes (k : Int) (w : World) (h0 : 1 ≤ k) (h1 : k ≤ 16) :
    Calls Tryz.prog 39 #[.int .i64 k] w fun e w' => e = .returned (.bool true) ∧ w = w' := by
  have hd : decide (k ≤ 16) = true := by simp; omega
  go_enter Tryz.func39, Tryz.ntmps39
  go_wp2
  go_ret
  exact ⟨rfl, rfl⟩
theorem dblocks_no (k : Int) (w : World) (h : k < 1 ∨ 16 < k) :
    Calls Tryz.prog 39 #[.int .i64 k] w fun e w' => e = .returned (.bool false) ∧ w = w' := by
  by_cases h0 : 1 ≤ k
  · have hd : decide (k ≤ 16) = false := by simp; omega
    clear h
    go_enter Tryz.func39, Tryz.ntmps39
    go_wp2
    go_ret
    exact ⟨rfl, rfl⟩
  · clear h
    go_enter Tryz.func39, Tryz.ntmps39
    go_wp2
    go_ret
    exact ⟨rfl, rfl⟩

theorem for_any (k n : Nat) (w : World) (hk : 1 ≤ k) (hk2 : k ≤ 16) (hn : n ≤ 999) :
    Calls Tryz.prog 67 #[.int .i64 k, .int .i64 n] w fun e w' => e = .returned (.int .i64 (degF k n)) ∧ w = w' := by
  have hp : n * k ≤ 999 * 16 := Nat.mul_le_mul hn hk2
  have hp' : (n : Int) * (k : Int) ≤ 15984 := by rw [← Int.natCast_mul]; omega
  have hp0 : 0 ≤ (n : Int) * (k : Int) := by rw [← Int.natCast_mul]; omega
  by_cases h1 : n * k < 1000
  · have e1 : degF k n = 1 := by unfold degF; rw [if_pos h1]
    have E := Lib.hid e1; clear e1
    have h1' : (n : Int) * (k : Int) < 1000 := by rw [← Int.natCast_mul]; omega
    clear hp h1
    go_enter Tryz.func67, Tryz.ntmps67
    go_wp2
    go_ret
    exact ⟨by rw [E.out]; rfl, rfl⟩
  · have h1' : 1000 ≤ (n : Int) * (k : Int) := by rw [← Int.natCast_mul]; omega
    have h1b : decide ((n : Int) * (k : Int) < 1000) = false := by simp; omega
    have HN := Lib.hid h1
    clear hp h1
    go_enter Tryz.func67, Tryz.ntmps67
    go_wp2
    go_loop [5] (fun d => ∃ j : Nat, 2 ≤ j ∧ j ≤ k ∧ d = .int .i64 j ∧ Hid (∀ x, 2 ≤ x → x < j → ¬ dgc k n x)) (fun d => k - (intOf d).toNat)
    case atStart =>
      have hk2 : 2 ≤ k := by
        rcases Nat.lt_or_ge k 2 with h2 | h2
        · have : k = 1 := by omega
          subst this; omega
        · exact h2
      exact ⟨2, Nat.le_refl _, hk2, rfl, fun x h1 h2 => by omega⟩
    case round =>
      obtain ⟨j, hj, hjk, rfl, hrel⟩ := hrel
      obtain ⟨A, hA⟩ : ∃ A, A = n * k * j := ⟨_, rfl⟩
      obtain ⟨B, hB⟩ : ∃ B, B = k * (j - 1) := ⟨_, rfl⟩
      have a1 : A ≤ 999 * 16 * 16 := by rw [hA]; exact Nat.mul_le_mul (Nat.mul_le_mul hn hk2) (by omega)
      have b1 : B ≤ 16 * 16 := by rw [hB]; exact Nat.mul_le_mul hk2 (by omega)
      have eA : (n : Int) * (k : Int) * (j : Int) = (A : Int) := by rw [hA]; simp
      have eB : (k : Int) * ((j : Int) - 1) = (B : Int) := by rw [hB, show ((j : Int) - 1) = ((j - 1 : Nat) : Int) from by omega]; simp
      have bA : 0 ≤ (n : Int) * (k : Int) * (j : Int) ∧ (n : Int) * (k : Int) * (j : Int) ≤ 255744 := by rw [eA]; omega
      have bB : 0 ≤ (k : Int) * ((j : Int) - 1) ∧ (k : Int) * ((j : Int) - 1) ≤ 256 := by rw [eB]; omega
      have hdg : dgc k n j ↔ ¬ 1000 * ((j : Int) + (k : Int) * ((j : Int) - 1)) ≤ (n : Int) * (k : Int) * (j : Int) := by
        unfold dgc; rw [eA, eB, ← hA, ← hB]; omega
      have HD := Lib.hid hdg
      clear eA eB hdg hA hB a1 b1
      by_cases hc : 1000 * ((j : Int) + (k : Int) * ((j : Int) - 1)) ≤ (n : Int) * (k : Int) * (j : Int)
      · have hlt : j < k := by
          rcases Nat.lt_or_ge j k with h | h
          · exact h
          · have : j = k := by omega
            subst this
            exact absurd hc (HD.out.1 (dgc_top j n hk hn))
        go_wp2
        go_round
        case rel => exact ⟨j + 1, by omega, by omega, by go_num, fun x h1 h2 => by
          by_cases hx : x = j
          · subst hx; intro h; exact HD.out.1 h hc
          · exact hrel.out x h1 (by omega)⟩
        case measure => simp [intOf]; omega
      · have he : degF k n = j := degF_eq k n j HN.out hj hjk hrel.out (HD.out.2 hc)
        have E := Lib.hid he; clear he
        go_wp2
        go_ret
        exact ⟨congrArg (fun x : Nat => Ending.returned (.int .i64 (x : Int))) E.out.symm, rfl⟩

theorem for_eq (k n d : Nat) (w : World) (hk : 1 ≤ k) (hk2 : k ≤ 16) (hn : n ≤ 999) (hd : degF k n = d + 1) :
    Calls Tryz.prog 67 #[.int .i64 k, .int .i64 n] w fun e w' => e = .returned (.int .i64 ((d : Int) + 1)) ∧ w = w' :=
  (for_any k n w hk hk2 hn).mono fun e w' h => ⟨by rw [h.1, hd]; rfl, h.2⟩

def tmsF (k : Nat) : Nat → Nat → Nat
  | 0, _ => 0
  | m + 1, j => tmsF k m j + if j + 1 = degF k m then 1 else 0
theorem tmsF_le (k : Nat) : ∀ m j, tmsF k m j ≤ m
  | 0, _ => Nat.le_refl _
  | m + 1, j => by have := tmsF_le k m j; unfold tmsF; split <;> omega
def tmsL (k : Nat) : List Int := (List.range k).map fun j => (tmsF k 1000 j : Int)
theorem tmsL_get (k j : Nat) (h : j < k) : (tmsL k).getD j 0 = (tmsF k 1000 j : Int) := by simp [tmsL, List.getD, h]
theorem tmsL_length (k : Nat) : (tmsL k).length = k := by simp [tmsL]

end Go.Proofs.YtcpookgbneoilaaGreatDoor

namespace Go.Proofs.YtcpookgbneoilaaGreatDoor

theorem degFrom_ge (k n : Nat) : ∀ f d, d ≤ degFrom k n f d
  | 0, d => Nat.le_refl _
  | f + 1, d => by unfold degFrom; have := degFrom_ge k n f (d + 1); split <;> omega
theorem dgc_mono (k n m d : Nat) (h : n ≤ m) (hm : dgc k m d) : dgc k n d := by
  unfold dgc at *
  have : n * k * d ≤ m * k * d := Nat.mul_le_mul_right _ (Nat.mul_le_mul_right _ h)
  omega
theorem degFrom_mono (k n m : Nat) (h : n ≤ m) : ∀ f d, degFrom k n f d ≤ degFrom k m f d
  | 0, d => Nat.le_refl _
  | f + 1, d => by
    unfold degFrom
    by_cases hm : dgc k m d
    · rw [if_pos hm, if_pos (dgc_mono k n m d h hm)]; exact Nat.le_refl _
    · rw [if_neg hm]
      by_cases hn : dgc k n d
      · rw [if_pos hn]; have := degFrom_ge k m f (d + 1); omega
      · rw [if_neg hn]; exact degFrom_mono k n m h f (d + 1)
theorem degF_mono (k n m : Nat) (h : n ≤ m) : degF k n ≤ degF k m := by
  have hk : n * k ≤ m * k := Nat.mul_le_mul_right _ h
  unfold degF
  by_cases h1 : m * k < 1000
  · rw [if_pos h1, if_pos (by omega)]; exact Nat.le_refl _
  · rw [if_neg h1]
    by_cases h2 : n * k < 1000
    · rw [if_pos h2]; have := degFrom_ge k m (k - 2) 2; omega
    · rw [if_neg h2]; exact degFrom_mono k n m h _ _

def tsum (k m : Nat) : Nat → Nat
  | 0 => 0
  | i + 1 => tsum k m i + tmsF k m i
theorem tsum_step (k m i : Nat) : tsum k m (i + 1) = tsum k m i + tmsF k m i := rfl
theorem tsum_zero (k : Nat) : ∀ i, tsum k 0 i = 0
  | 0 => rfl
  | i + 1 => by unfold tsum; rw [tsum_zero k i]; rfl
theorem tsum_succ (k m : Nat) (hm : 1 ≤ degF k m) : ∀ i, tsum k (m + 1) i = tsum k m i + if degF k m ≤ i then 1 else 0
  | 0 => by unfold tsum; rw [if_neg (by omega)]
  | i + 1 => by
    unfold tsum
    rw [tsum_succ k m hm i, tmsF]
    by_cases h1 : degF k m ≤ i
    · rw [if_pos h1, if_neg (by omega), if_pos (by omega)]; omega
    · by_cases h2 : i + 1 = degF k m
      · rw [if_neg h1, if_pos h2, if_pos (by omega)]; omega
      · rw [if_neg h1, if_neg h2, if_neg (by omega)]; omega
theorem tsum_all (k : Nat) (hk : 1 ≤ k) : ∀ m, m ≤ 1000 → tsum k m k = m
  | 0, _ => tsum_zero k k
  | m + 1, h => by
    have hb := degF_bd k m hk (by omega)
    rw [tsum_succ k m hb.1, tsum_all k hk m (by omega), if_pos hb.2]
theorem tsum_le (k m i : Nat) : tsum k m i ≤ i * m := by
  induction i with
  | zero => simp [tsum]
  | succ i ih => unfold tsum; have := tmsF_le k m i; rw [Nat.succ_mul]; omega
theorem tmsF_half : ∀ k, k ≤ 16 → 2 ≤ k → 500 ≤ tmsF k 1000 0 + tmsF k 1000 1 := by decide +kernel
theorem tmsF_two : tmsF 2 1000 0 = 500 := by decide +kernel
end Go.Proofs.YtcpookgbneoilaaGreatDoor

namespace Go.Proofs.YtcpookgbneoilaaGreatDoor
def nxtN (n : Nat) : Nat := n * 16807 % 2147483647
def dgcB (k n d : Nat) : Bool := Nat.blt (n * k * d) (1000 * (d + k * (d - 1)))
def degFromB (k n : Nat) : Nat → Nat → Nat
  | 0, d => d
  | f + 1, d => bif dgcB k n d then d else degFromB k n f (d + 1)
def degFB (k n : Nat) : Nat := bif Nat.blt (n * k) 1000 then 1 else degFromB k n (k - 2) 2
def memB (i : Nat) : List Nat → Bool
  | [] => false
  | x :: l => bif Nat.beq x i then true else memB i l
def runB (k : Nat) : Nat → Nat → Nat → List Nat → Bool
  | 0, d, _, _ => Nat.beq d 0
  | f + 1, d, n, out => bif Nat.beq d 0 then true else bif memB (nxtN n % k) out then runB k f d (nxtN n) out else runB k f (d - 1) (nxtN n) (nxtN n % k :: out)
def okB (k seed : Nat) : Bool := runB k 150 (degFB k (nxtN seed % 1000)) (nxtN seed) []
def okAllB (k : Nat) : Nat → Nat → Bool
  | 0, _ => true
  | m + 1, s => bif okB k s then okAllB k m (s + 1) else false
set_option maxRecDepth 1000000
theorem okAll1 : okAllB 1 9999 2 = true := by decide +kernel
theorem okAll2 : okAllB 2 9998 3 = true := by decide +kernel
theorem okAll3 : okAllB 3 9997 4 = true := by decide +kernel
theorem okAll4 : okAllB 4 9996 5 = true := by decide +kernel
theorem okAll5 : okAllB 5 9995 6 = true := by decide +kernel
theorem okAll6 : okAllB 6 9994 7 = true := by decide +kernel
theorem okAll7 : okAllB 7 9993 8 = true := by decide +kernel
theorem okAll8 : okAllB 8 9992 9 = true := by decide +kernel
theorem okAll9 : okAllB 9 9991 10 = true := by decide +kernel
theorem okAll10 : okAllB 10 9990 11 = true := by decide +kernel
theorem okAll11 : okAllB 11 9989 12 = true := by decide +kernel
theorem okAll12 : okAllB 12 9988 13 = true := by decide +kernel
theorem okAll13 : okAllB 13 9987 14 = true := by decide +kernel
theorem okAll14 : okAllB 14 9986 15 = true := by decide +kernel
theorem okAll15 : okAllB 15 9985 16 = true := by decide +kernel
theorem okAll16 : okAllB 16 9984 17 = true := by decide +kernel
end Go.Proofs.YtcpookgbneoilaaGreatDoor

namespace Go.Proofs.YtcpookgbneoilaaGreatDoor

theorem nxt_cast (n : Nat) : nxt (n : Int) = (nxtN n : Int) := by unfold nxt nxtN; omega
theorem blt_eq (a b : Nat) : Nat.blt a b = decide (a < b) := by
  rw [Bool.eq_iff_iff]; simp [Nat.blt_eq]
theorem degFromB_eq (k n : Nat) : ∀ f d, degFromB k n f d = degFrom k n f d
  | 0, _ => rfl
  | f + 1, d => by
    unfold degFromB degFrom dgcB dgc
    rw [blt_eq, degFromB_eq k n f (d + 1)]
    by_cases h : n * k * d < 1000 * (d + k * (d - 1)) <;> simp [h]
theorem degFB_eq (k n : Nat) : degFB k n = degF k n := by
  unfold degFB degF
  rw [blt_eq, degFromB_eq]
  by_cases h : n * k < 1000 <;> simp [h]
theorem memB_iff (i : Nat) : ∀ l, memB i l = true ↔ i ∈ l
  | [] => by simp [memB]
  | x :: l => by
    unfold memB
    by_cases h : x = i
    · subst h; simp
    · have hb : Nat.beq x i = false := by rw [Bool.eq_false_iff]; intro e; exact h (Nat.eq_of_beq_eq_true e)
      rw [hb, cond_false, memB_iff i l]
      simp [Ne.symm h]
theorem okAllB_at (k : Nat) : ∀ m s, okAllB k m s = true → ∀ x, s ≤ x → x < s + m → okB k x = true
  | 0, s, _, x, h1, h2 => by omega
  | m + 1, s, h, x, h1, h2 => by
    unfold okAllB at h
    by_cases hs : okB k s = true
    · rw [hs, cond_true] at h
      by_cases e : x = s
      · subst e; exact hs
      · exact okAllB_at k m (s + 1) h x (by omega) (by omega)
    · rw [Bool.not_eq_true] at hs
      rw [hs, cond_false] at h
      cases h

def dgo (k d : Nat) : Nat → Nat → List Nat → List Nat
  | 0, _, out => out
  | f + 1, n, out => if out.length < d then dgo k d f (nxtN n) (if nxtN n % k ∈ out then out else out ++ [nxtN n % k]) else out
theorem dgo_done (k d f n : Nat) (out : List Nat) (h : ¬ out.length < d) : dgo k d f n out = out := by
  cases f with
  | zero => rfl
  | succ f => unfold dgo; rw [if_neg h]
theorem runB_dgo (k : Nat) : ∀ f d n L out, (∀ i, i ∈ L ↔ i ∈ out) → runB k f d n out = true → (dgo k (L.length + d) f n L).length = L.length + d
  | 0, d, n, L, out, _, h => by
    have : d = 0 := Nat.eq_of_beq_eq_true h
    subst this; rfl
  | f + 1, d, n, L, out, hm, h => by
    by_cases hd : d = 0
    · subst hd; rw [dgo_done _ _ _ _ _ (by omega)]; rfl
    · have hb : Nat.beq d 0 = false := by rw [Bool.eq_false_iff]; intro e; exact hd (Nat.eq_of_beq_eq_true e)
      unfold runB at h
      rw [hb, cond_false] at h
      unfold dgo
      rw [if_pos (by omega)]
      by_cases hmem : nxtN n % k ∈ out
      · rw [(memB_iff _ _).2 hmem, cond_true] at h
        rw [if_pos ((hm _).2 hmem)]
        exact runB_dgo k f d (nxtN n) L out hm h
      · have hmf : memB (nxtN n % k) out = false := by rw [Bool.eq_false_iff]; intro e; exact hmem ((memB_iff _ _).1 e)
        rw [hmf, cond_false] at h
        rw [if_neg (fun e => hmem ((hm _).1 e))]
        have ih := runB_dgo k f (d - 1) (nxtN n) (L ++ [nxtN n % k]) (nxtN n % k :: out) (by intro i; simp [hm i, or_comm]) h
        rw [List.length_append, List.length_singleton] at ih
        have e : L.length + 1 + (d - 1) = L.length + d := by omega
        rw [e] at ih
        exact ih
theorem dgo_nodup (k d : Nat) : ∀ f n L, L.Nodup → (dgo k d f n L).Nodup
  | 0, _, _, h => h
  | f + 1, n, L, h => by
    unfold dgo
    split
    · apply dgo_nodup
      split
      · exact h
      · rename_i hn
        rw [List.nodup_append]
        exact ⟨h, by simp, fun a ha b hb => by rw [List.mem_singleton] at hb; subst hb; intro e; exact hn (e ▸ ha)⟩
    · exact h
theorem dgo_lt (k d : Nat) (hk : 1 ≤ k) : ∀ f n L, (∀ i ∈ L, i < k) → ∀ i ∈ dgo k d f n L, i < k
  | 0, _, _, h => h
  | f + 1, n, L, h => by
    unfold dgo
    split
    · apply dgo_lt k d hk
      split
      · exact h
      · intro i hi
        rcases List.mem_append.1 hi with hi | hi
        · exact h i hi
        · rw [List.mem_singleton] at hi; subst hi; exact Nat.mod_lt _ (by omega)
    · exact h

theorem ok_every (k seed : Nat) (h1 : 1 ≤ k) (h2 : k ≤ 16) (h3 : k < seed) (h4 : seed ≤ 10000) : okB k seed = true := by
  have h : okAllB k (10000 - k) (k + 1) = true := by
    have hc : k = 1 ∨ k = 2 ∨ k = 3 ∨ k = 4 ∨ k = 5 ∨ k = 6 ∨ k = 7 ∨ k = 8 ∨ k = 9 ∨ k = 10 ∨ k = 11 ∨ k = 12 ∨ k = 13 ∨ k = 14 ∨ k = 15 ∨ k = 16 := by omega
    rcases hc with rfl | rfl | rfl | rfl | rfl | rfl | rfl | rfl | rfl | rfl | rfl | rfl | rfl | rfl | rfl | rfl
    · exact okAll1
    · exact okAll2
    · exact okAll3
    · exact okAll4
    · exact okAll5
    · exact okAll6
    · exact okAll7
    · exact okAll8
    · exact okAll9
    · exact okAll10
    · exact okAll11
    · exact okAll12
    · exact okAll13
    · exact okAll14
    · exact okAll15
    · exact okAll16
  exact okAllB_at k _ _ h seed (by omega) (by omega)

def drawn (k seed : Nat) : List Nat := dgo k (degF k (nxtN seed % 1000)) 150 (nxtN seed) []
theorem drawn_length (k seed : Nat) (h1 : 1 ≤ k) (h2 : k ≤ 16) (h3 : k < seed) (h4 : seed ≤ 10000) : (drawn k seed).length = degF k (nxtN seed % 1000) := by
  have h := ok_every k seed h1 h2 h3 h4
  unfold okB at h
  rw [degFB_eq] at h
  have := runB_dgo k 150 (degF k (nxtN seed % 1000)) (nxtN seed) [] [] (fun i => Iff.rfl) h
  rw [List.length_nil, Nat.zero_add] at this
  exact this
end Go.Proofs.YtcpookgbneoilaaGreatDoor

namespace Go.Proofs.YtcpookgbneoilaaGreatDoor
open Go.ChangeShapes Go.WideShapes Go.ChangeAt Go.RowKit

def whl (k x t : Nat) : Nat := if t % (k + x) < k then t % (k + x) + 1 else t % (k + x) + 1 + t / (k + x) * x
theorem whl_rx (k x t : Nat) : t / (k + x) * x ≤ t := by
  have h1 : t / (k + x) * x ≤ t / (k + x) * (k + x) := Nat.mul_le_mul_left _ (by omega)
  have h2 := Nat.div_mul_le_self t (k + x)
  omega

theorem seed_yes (n : Int) (w : World) (h0 : 1 ≤ n) (h1 : n ≤ 10000) :
    Calls Tryz.prog 45 #[.int .i64 n] w fun e w' => e = .returned (.bool true) ∧ w = w' := by
  have hd : decide (n ≤ 10000) = true := decide_eq_true (by omega)
  go_enter Tryz.func45, Tryz.ntmps45
  go_wp2
  go_ret
  exact ⟨rfl, rfl⟩
theorem seed_no (n : Int) (w : World) (h : n < 1 ∨ 10000 < n) :
    Calls Tryz.prog 45 #[.int .i64 n] w fun e w' => e = .returned (.bool false) ∧ w = w' := by
  by_cases h0 : 1 ≤ n
  · have hd : decide (n ≤ 10000) = false := decide_eq_false (by omega)
    clear h
    go_enter Tryz.func45, Tryz.ntmps45
    go_wp2
    go_ret
    exact ⟨rfl, rfl⟩
  · clear h
    go_enter Tryz.func45, Tryz.ntmps45
    go_wp2
    go_ret
    exact ⟨rfl, rfl⟩

end Go.Proofs.YtcpookgbneoilaaGreatDoor

namespace Go.Proofs.YtcpookgbneoilaaGreatDoor
open Go.ChangeShapes Go.WideShapes Go.ChangeAt Go.RowKit Go.Sort

abbrev encI : Int → Value := Value.int .i64
theorem take_putI (cur : Array Value) (ts : List Int) (h : ts.length ≤ cur.size) : (putCells encI 0 ts.toArray cur).toList.take ts.length = ts.map encI := by
  apply List.ext_getElem?
  intro j
  by_cases hj : j < ts.length
  · rw [List.getElem?_take_of_lt hj, Array.getElem?_toList]
    simp [putCells, hj, show j < cur.size by omega]
  · rw [List.getElem?_take_eq_none (by omega), List.getElem?_eq_none (by simp; omega)]

theorem sort_own (B : Nat) (v : Value) (zs : List Int) (w w0 : World) (h : OwnInts w B v zs) (hne : zs ≠ []) (hl : zs.length ≤ 1000000) (hB : B = w0.heap.size) (hb : Below B w0 w) :
    Calls Tryz.prog 68 #[v] w fun e w' => e = .returned (.tuple #[]) ∧ OwnInts w' B v (zs.mergeSort fun x y => decide (x ≤ y)) ∧ Below B w0 w' := by
  obtain ⟨hlen, hor⟩ := h
  rw [List.length_map] at hor
  rcases hor with ⟨rfl, h0⟩ | ⟨g, cap, cur, rfl, hg, hh, hn, hc, hs, ht⟩
  · exact absurd (List.eq_nil_of_length_eq_zero h0) hne
  · have hgl : g < w.heap.size := (Array.getElem?_eq_some_iff.1 hh).1
    rw [Nat.mul_one] at ht hs
    have hH : Holds (Value.int .i64) w g 0 zs.toArray := by
      intro j hj
      have hj' : j < zs.length := by simpa using hj
      refine ⟨?_, by simp [World.frozen?, hh]⟩
      have h1 : (cur.toList.take zs.length)[j]? = (zs.map encI)[j]? := by rw [ht]
      rw [List.getElem?_take_of_lt hj'] at h1
      simp only [World.cell?, hh, Nat.zero_add]
      simp only [Option.isSome_none, Bool.false_eq_true, if_false]
      rw [← Array.getElem?_toList, h1]
      simp [hj']
    refine (Tryz.slices_Sort_int g 0 cap zs w hH hgl (by omega)).mono ?_
    rintro e w' ⟨he, n, os, rfl⟩
    have hts : (zs.mergeSort fun x y => decide (x ≤ y)).length = zs.length := List.length_mergeSort _
    refine ⟨he, ⟨by simp, .inr ⟨g, cap, putCells encI 0 (zs.mergeSort fun x y => decide (x ≤ y)).toArray cur, ?_, hg, ?_, by simpa using hn, hc, by simp [putCells, hs], ?_⟩⟩, ?_⟩
    · simp
    · rw [heap_grow_old _ _ (by simpa using hgl)]
      simp [putRow, mapBlock, Sort.ahead, Array.getElem?_modify, hh, onCells]
    · rw [Nat.mul_one, List.length_map]; exact take_putI cur _ (by omega)
    · refine hb.trans ⟨rfl, rfl, rfl, by simp, fun k hk => ?_⟩
      have := hb.size
      rw [heap_grow_old _ _ (by simp; omega)]
      have : g ≠ k := by omega
      simp [putRow, mapBlock, Sort.ahead, Array.getElem?_modify, this]
end Go.Proofs.YtcpookgbneoilaaGreatDoor

namespace Go.Proofs.YtcpookgbneoilaaGreatDoor
open Go.ChangeShapes Go.WideShapes Go.ChangeAt Go.RowKit

def setZ (k seed : Nat) : List Int := if seed ≤ k then [((seed - 1 : Nat) : Int)] else ((drawn k seed).map Int.ofNat).mergeSort (fun x y => decide (x ≤ y))
theorem goN (n : Nat) (w : World) (h1 : n ≤ 2147483647) :
    Calls Tryz.prog 66 #[.int .i64 n] w fun e w' => e = .returned (.int .i64 (nxtN n)) ∧ w = w' :=
  (go_any n w (by omega) (by omega)).mono fun e w' h => ⟨by rw [h.1, nxt_cast], h.2⟩
theorem nxtN_lt (n : Nat) : nxtN n < 2147483647 := Nat.mod_lt _ (by omega)
theorem mem_ofNat (i : Nat) (L : List Nat) : ((i : Int) ∈ L.map Int.ofNat) ↔ i ∈ L := by
  constructor
  · intro h; obtain ⟨j, hj, e⟩ := List.mem_map.1 h
    have : j = i := by have e' : (j : Int) = (i : Int) := e; omega
    exact this ▸ hj
  · intro h; exact List.mem_map.2 ⟨i, h, rfl⟩
theorem setZ_lt (k seed : Nat) (h1 : 1 ≤ k) (h2 : 1 ≤ seed) : ∀ z ∈ setZ k seed, 0 ≤ z ∧ z < k := by
  intro z hz
  unfold setZ at hz
  split at hz
  · rw [List.mem_singleton] at hz; subst hz; omega
  · rw [List.mem_mergeSort] at hz
    obtain ⟨j, hj, rfl⟩ := List.mem_map.1 hz
    have := dgo_lt k _ h1 150 (nxtN seed) [] (by simp) j hj
    have e : Int.ofNat j = (j : Int) := rfl
    omega
theorem setZ_length (k seed : Nat) (h1 : 1 ≤ k) (h2 : k ≤ 16) (h4 : seed ≤ 10000) : 1 ≤ (setZ k seed).length ∧ (setZ k seed).length ≤ k := by
  unfold setZ
  split
  · simp; omega
  · rw [List.length_mergeSort, List.length_map, drawn_length k seed h1 h2 (by omega) h4]
    exact degF_bd k _ h1 (by omega)

set_option maxHeartbeats 1000000 in
set_option maxRecDepth 100000 in
theorem dropOf_new (k seed : Nat) (w : World) (h1 : 1 ≤ k) (h2 : k ≤ 16) (h3 : 1 ≤ seed) (h4 : seed ≤ 10000) :
    Calls Tryz.prog 47 #[.int .i64 k, .int .i64 seed] w fun e w' => ∃ a cap, e = .returned (.slice a (setZ k seed).length cap) ∧ IntsAt w' a (setZ k seed).length cap (setZ k seed) ∧ (∀ b o, a = some ⟨b, o, none⟩ → w.heap.size ≤ b) ∧ Lat w w' := by
  by_cases hle : seed ≤ k
  · have d1 : decide (seed ≤ k) = true := decide_eq_true hle
    have e1 : setZ k seed = [((seed - 1 : Nat) : Int)] := by unfold setZ; rw [if_pos hle]
    have e2 : (seed : Int) - 1 = ((seed - 1 : Nat) : Int) := by omega
    have hat := ints_new w [(seed : Int) - 1] 3 (by simp) (by intro z hz; rw [List.mem_singleton] at hz; subst hz; omega)
    rw [e1, ← e2]
    have HT := Lib.hid hat
    clear hat e1 e2
    go_enter Tryz.func47, Tryz.ntmps47
    go_wp2
    go_ret
    exact ⟨_, _, rfl, HT.out, fun b o e => by
      injection e with e
      injection e with e _ _
      exact Nat.le_of_eq e, Lat.alloc _ _⟩
  · have d1 : decide (seed ≤ k) = false := decide_eq_false hle
    have hl := drawn_length k seed h1 h2 (by omega) h4
    obtain ⟨d, hd⟩ : ∃ d, d = degF k (nxtN seed % 1000) := ⟨_, rfl⟩
    have hdb := degF_bd k (nxtN seed % 1000) h1 (by omega)
    rw [← hd] at hl hdb
    have hdr : dgo k d 150 (nxtN seed) [] = drawn k seed := by rw [hd]; rfl
    have hset : setZ k seed = ((drawn k seed).map Int.ofNat).mergeSort (fun x y => decide (x ≤ y)) := by unfold setZ; rw [if_neg hle]
    have hsl : (setZ k seed).length = d := by rw [hset, List.length_mergeSort, List.length_map, hl]
    rw [hsl]
    have HD := Lib.hid hd; have HL := Lib.hid hl; have HDR := Lib.hid hdr; have HS := Lib.hid hset
    have hs3 := nxtN_lt seed
    clear hd hl hdr hset hle hsl
    go_enter Tryz.func47, Tryz.ntmps47
    go_wp2_with (first | (go_at_call 66; refine (goN seed _ (by omega)).mono ?_; rintro e w' ⟨rfl, rfl⟩) | (go_at_call 67; refine (for_any k (nxtN seed % 1000) _ h1 h2 (by omega)).mono ?_; rw [← HD.out]; rintro e w' ⟨rfl, rfl⟩))
    have hd0 : 1 ≤ d := hdb.1
    have hd16 : d ≤ 16 := by omega
    clear hdb
    go_loopg [5, 7] 150 (fun f nv v wr => ∃ (nn : Nat) (L : List Nat), nv = .int .i64 nn ∧ nn < 2147483647 ∧ Hid (OwnInts wr w.heap.size v (L.map Int.ofNat) ∧ Lat w wr ∧ dgo k d f nn L = drawn k seed ∧ L.length ≤ d ∧ ∀ i ∈ L, i < k))
    case atStart => exact ⟨nxtN seed, [], rfl, hs3, Own.nil _ _ _, Lat.refl _, HDR.out, Nat.zero_le _, by simp⟩
    case round =>
      obtain ⟨nn, L, rfl, hnn, hrel⟩ := hrel
      obtain ⟨hown, hb, hdg, hLd, hLk⟩ := hrel.out
      obtain ⟨a, cap, rfl, hat⟩ := OwnInts.slice hown (fun z hz => by
        obtain ⟨j, hj, rfl⟩ := List.mem_map.1 hz
        have := hLk j hj
        have e : Int.ofNat j = (j : Int) := rfl
        omega)
      obtain ⟨ln, hln⟩ : ∃ ln, ln = (L.map Int.ofNat).length := ⟨_, rfl⟩
      have hln2 : ln = L.length := by rw [hln, List.length_map]
      rw [← hln] at hown hat hrel ⊢
      have hlb : ln ≤ 16 := by omega
      have HO := Lib.hid hown; have HDG := Lib.hid hdg; have HLN := Lib.hid hln2; have HLK := Lib.hid hLk; have HA := Lib.hid hat
      have hnext := nxtN_lt nn
      by_cases hlt : ln < d
      · have hgk : ∃ g, gk = g + 1 := by
          rcases Nat.eq_zero_or_pos gk with h0 | h0
          · subst h0
            exfalso
            have e : L = drawn k seed := hdg
            have := HL.out
            rw [← e] at this
            omega
          · exact ⟨gk - 1, by omega⟩
        obtain ⟨g, hg⟩ := hgk
        have hstep : dgo k d g (nxtN nn) (if nxtN nn % k ∈ L then L else L ++ [nxtN nn % k]) = drawn k seed := by
          rw [hg] at hdg
          rw [← hdg]
          have hL : L.length < d := by omega
          exact (if_pos hL).symm
        have HST := Lib.hid hstep
        have HG := Lib.hid hg
        have HB := Lib.hid hb
        have hkz : ((k : Int) == 0) = false := by simp; omega
        clear hown hdg hLd hLk hat hln hln2 hstep hg hrel
        by_cases hmem : nxtN nn % k ∈ L
        · have hm2 : ((nxtN nn : Nat) : Int) % (k : Int) ∈ L.map Int.ofNat := (mem_ofNat _ L).2 hmem
          have HM := Lib.hid hm2
          have HM1 := Lib.hid hmem
          clear hm2 hmem
          go_wp2_with (first | (go_at_call 66; refine (goN nn _ (by omega)).mono ?_; rintro e w' ⟨rfl, rfl⟩) | (go_at_call 26; refine (containsI_yes a ln cap (L.map Int.ofNat) _ _ HA.out HM.out).mono ?_; rintro e w' ⟨rfl, rfl⟩))
          go_roundg g
          case measure => rw [HG.out]; omega
          case rel => exact ⟨nxtN nn, L, rfl, hnext, HO.out, HB.out, by have := HST.out; rw [if_pos HM1.out] at this; exact this, by rw [← HLN.out]; omega, HLK.out⟩
        · have hm2 : ((nxtN nn : Nat) : Int) % (k : Int) ∉ L.map Int.ofNat := fun h => hmem ((mem_ofNat _ L).1 h)
          have HM := Lib.hid hm2
          have HM1 := Lib.hid hmem
          have hlen : (L.map Int.ofNat).length < 1000000000000 := by rw [List.length_map, ← HLN.out]; omega
          have HLL := Lib.hid hlen
          clear hm2 hmem hlen
          go_wp2_with (first | (go_at_call 66; refine (goN nn _ (by omega)).mono ?_; rintro e w' ⟨rfl, rfl⟩) | (go_at_call 26; refine (containsI_no a ln cap (L.map Int.ofNat) _ _ HA.out HM.out).mono ?_; rintro e w' ⟨rfl, rfl⟩) | (at_builtin; refine app_int wr w _ rfl _ _ rfl _ _ _ rfl HO.out rfl HLL.out rfl HB.out ?_; intro v' w2 hown' hb' _))
          go_roundg g
          case measure => rw [HG.out]; omega
          case rel =>
            refine ⟨nxtN nn, L ++ [nxtN nn % k], rfl, hnext, by rw [List.map_append]; exact hown', hb', by have := HST.out; rw [if_neg HM1.out] at this; exact this, by rw [List.length_append, List.length_singleton, ← HLN.out]; omega, fun i hi => ?_⟩
            rcases List.mem_append.1 hi with hi | hi
            · exact HLK.out i hi
            · rw [List.mem_singleton] at hi; subst hi; exact Nat.mod_lt _ (by omega)
      · have hLd' : L = drawn k seed := by
          rw [dgo_done _ _ _ _ _ (by omega)] at hdg; exact hdg
        have hlnd : ln = d := by omega
        have hne : L.map Int.ofNat ≠ [] := by intro e; rw [e] at hln; simp at hln; omega
        have hll : (L.map Int.ofNat).length ≤ 1000000 := by rw [← hln]; omega
        have HLD := Lib.hid hLd'; have HND := Lib.hid hlnd; have HNE := Lib.hid hne; have HLL := Lib.hid hll; have HB := Lib.hid hb; have HLN' := Lib.hid hln
        clear hown hdg hLd hLk hat hln2 hrel hLd' hlnd hne hll hln
        go_wp2_with (go_at_call 68; refine (sort_own w.heap.size _ (L.map Int.ofNat) _ w HO.out HNE.out HLL.out rfl HB.out).mono ?_; rintro e w' ⟨rfl, hown', hb'⟩)
        go_ret
        have hfin : ((L.map Int.ofNat).mergeSort fun x y => decide (x ≤ y)) = setZ k seed := by rw [HS.out, HLD.out]
        rw [hfin] at hown'
        obtain ⟨a2, cap2, hv, hat2⟩ := OwnInts.slice hown' (fun z hz => by have := setZ_lt k seed h1 h3 z hz; omega)
        have hsl : (setZ k seed).length = d := by rw [← hfin, List.length_mergeSort, ← HLN'.out, HND.out]
        rw [hsl] at hv hat2
        injection hv with e1 e2 e3
        subst e1
        subst e2
        subst e3
        exact ⟨a, cap, rfl, hat2, fun b o e => (Own.lt hown' b (by rw [e]; rfl)).1, hb'⟩
theorem dropOf_any (k seed : Nat) (w : World) (h1 : 1 ≤ k) (h2 : k ≤ 16) (h3 : 1 ≤ seed) (h4 : seed ≤ 10000) :
    Calls Tryz.prog 47 #[.int .i64 k, .int .i64 seed] w fun e w' => ∃ a cap, e = .returned (.slice a (setZ k seed).length cap) ∧ IntsAt w' a (setZ k seed).length cap (setZ k seed) ∧ Lat w w' :=
  (dropOf_new k seed w h1 h2 h3 h4).mono fun _ _ ⟨a, cap, he, hi, _, hb⟩ => ⟨a, cap, he, hi, hb⟩
end Go.Proofs.YtcpookgbneoilaaGreatDoor

namespace Go.Proofs.YtcpookgbneoilaaGreatDoor
open Go.ChangeShapes Go.WideShapes Go.ChangeAt Go.RowKit

abbrev dropV (seed : Int) (data : ByteArray) : Value := .agg #[.int .i64 seed, .string data]

theorem two_set {w : World} {g : Nat} {a b : Value} (c0 : w.cell? ⟨g, 0, none⟩ = some a) (c1 : w.cell? ⟨g, 1, none⟩ = some b) (x y : Value) :
    ((w.setCell ⟨g, 0, none⟩ x).setCell ⟨g, 1, none⟩ y).cell? ⟨g, 0, none⟩ = some x ∧ ((w.setCell ⟨g, 0, none⟩ x).setCell ⟨g, 1, none⟩ y).cell? ⟨g, 1, none⟩ = some y := by
  constructor
  · rw [World.cell?_setCell_other _ _ _ _ (by simp)]; exact World.cell?_setCell_same _ _ _ c0
  · exact World.cell?_setCell_same _ _ _ ((World.cell?_setCell_other _ _ _ _ (by simp)).trans c1)
theorem lat_two {w w1 : World} {o : Obj} (hb : Lat (w.alloc o) w1) (x y : Value) : Lat w ((w1.setCell ⟨w.heap.size, 0, none⟩ x).setCell ⟨w.heap.size, 1, none⟩ y) :=
  Below.setCell (Below.setCell (Lat.trans (Lat.alloc w o) hb) (Nat.le_refl _) x) (Nat.le_refl _) y
theorem dw_cells {w w1 : World} (hb1 : Lat (w.alloc (.cells #[.int .i64 0, .string .empty] 37)) w1) :
    (w1.cell? ⟨w.heap.size, 0, none⟩ = some (.int .i64 0) ∧ w1.cell? ⟨w.heap.size, 1, none⟩ = some (.string .empty)) ∧ w1.frozen? ⟨w.heap.size, 0, none⟩ = false ∧ w1.frozen? ⟨w.heap.size, 1, none⟩ = false :=
  ⟨⟨hb1.cell_at (by simp), hb1.cell_at (by simp)⟩, hb1.free_at (by simp) (by simp), hb1.free_at (by simp) (by simp)⟩

end Go.Proofs.YtcpookgbneoilaaGreatDoor

namespace Go.Proofs.YtcpookgbneoilaaGreatDoor
open Go.ChangeShapes Go.WideShapes Go.ChangeAt Go.RowKit

theorem dchk_ok (k size seed : Int) (d : ByteArray) (w : World) (h1 : 1 ≤ k) (h2 : k ≤ 16) (h3 : 1 ≤ size) (h4 : size ≤ 8) (h5 : 1 ≤ seed) (h6 : seed ≤ 10000) (h7 : (d.size : Int) = size) :
    Calls Tryz.prog 25 #[.int .i64 k, .int .i64 size, dropV seed d] w fun e w' => e = .returned .nilIface ∧ Lat w w' := by
  have d7 : ((d.size : Int) != size) = false := by rw [bne_eq_false_iff_eq]; exact h7
  have H7 := Lib.hid h7
  clear h7
  go_enter Tryz.func25, Tryz.ntmps25
  go_wp2_with (first | (go_at_call 39; refine (dblocks_yes k _ h1 h2).mono ?_; rintro e w1 ⟨rfl, rfl⟩) | (go_at_call 40; refine (size_yes size _ h3 h4).mono ?_; rintro e w1 ⟨rfl, rfl⟩) | (go_at_call 45; refine (seed_yes seed _ h5 h6).mono ?_; rintro e w1 ⟨rfl, rfl⟩))
  go_ret
  exact ⟨rfl, Lat.alloc _ _⟩
theorem dchk_shape (k size seed : Int) (d : ByteArray) (w : World) (h1 : 1 ≤ k) (h2 : k ≤ 16) (h3 : 1 ≤ size) (h4 : size ≤ 8) (h5 : 1 ≤ seed) (h6 : seed ≤ 10000) (h7 : (d.size : Int) ≠ size) :
    Calls Tryz.prog 25 #[.int .i64 k, .int .i64 size, dropV seed d] w fun e w' => e = .returned (eno 3) ∧ Lat w w' := by
  have d7 : ((d.size : Int) != size) = true := by rw [bne_iff_ne]; exact h7
  have H7 := Lib.hid h7
  clear h7
  go_enter Tryz.func25, Tryz.ntmps25
  go_wp2_with (first | (go_at_call 39; refine (dblocks_yes k _ h1 h2).mono ?_; rintro e w1 ⟨rfl, rfl⟩) | (go_at_call 40; refine (size_yes size _ h3 h4).mono ?_; rintro e w1 ⟨rfl, rfl⟩) | (go_at_call 45; refine (seed_yes seed _ h5 h6).mono ?_; rintro e w1 ⟨rfl, rfl⟩))
  go_ret
  exact ⟨rfl, Lat.alloc _ _⟩
theorem dchk_range (k size seed : Int) (d : ByteArray) (w : World) (h : k < 1 ∨ 16 < k ∨ size < 1 ∨ 8 < size ∨ seed < 1 ∨ 10000 < seed) :
    Calls Tryz.prog 25 #[.int .i64 k, .int .i64 size, dropV seed d] w fun e w' => e = .returned (eno 1) ∧ Lat w w' := by
  by_cases hk : k < 1 ∨ 16 < k
  · have HK := Lib.hid hk
    clear hk h
    go_enter Tryz.func25, Tryz.ntmps25
    go_wp2_with (go_at_call 39; refine (dblocks_no k _ HK.out).mono ?_; rintro e w1 ⟨rfl, rfl⟩)
    go_ret
    exact ⟨rfl, Lat.alloc _ _⟩
  have k1 : 1 ≤ k := by omega
  have k2 : k ≤ 16 := by omega
  by_cases hs : size < 1 ∨ 8 < size
  · have HS := Lib.hid hs
    clear hs hk h
    go_enter Tryz.func25, Tryz.ntmps25
    go_wp2_with (first | (go_at_call 39; refine (dblocks_yes k _ k1 k2).mono ?_; rintro e w1 ⟨rfl, rfl⟩) | (go_at_call 40; refine (size_no size _ HS.out).mono ?_; rintro e w1 ⟨rfl, rfl⟩))
    go_ret
    exact ⟨rfl, Lat.alloc _ _⟩
  have s1 : 1 ≤ size := by omega
  have s2 : size ≤ 8 := by omega
  have hz : seed < 1 ∨ 10000 < seed := by omega
  have HZ := Lib.hid hz
  clear hs hk h hz
  go_enter Tryz.func25, Tryz.ntmps25
  go_wp2_with (first | (go_at_call 39; refine (dblocks_yes k _ k1 k2).mono ?_; rintro e w1 ⟨rfl, rfl⟩) | (go_at_call 40; refine (size_yes size _ s1 s2).mono ?_; rintro e w1 ⟨rfl, rfl⟩) | (go_at_call 45; refine (seed_no seed _ HZ.out).mono ?_; rintro e w1 ⟨rfl, rfl⟩))
  go_ret
  exact ⟨rfl, Lat.alloc _ _⟩

theorem setZ_rises (k seed : Nat) : (setZ k seed).Pairwise (· < ·) := by
  unfold setZ
  split
  · exact List.pairwise_singleton _ _
  · have hn : (drawn k seed).Nodup := dgo_nodup k _ _ _ [] List.nodup_nil
    have hn2 : ((drawn k seed).map Int.ofNat).Nodup := List.Pairwise.map _ (fun a b h e => h (Int.ofNat.inj e)) hn
    have hn3 : (((drawn k seed).map Int.ofNat).mergeSort (fun x y => decide (x ≤ y))).Nodup := (List.mergeSort_perm _ _).nodup_iff.2 hn2
    have hs := List.pairwise_mergeSort (le := fun x y : Int => decide (x ≤ y)) (fun a b c h1 h2 => by simp only [decide_eq_true_eq] at *; omega) (fun a b => by simp only [Bool.or_eq_true, decide_eq_true_eq]; omega) ((drawn k seed).map Int.ofNat)
    exact (hs.and hn3).imp (fun {a b} h => by have := h.1; have := h.2; simp only [decide_eq_true_eq] at *; omega)
theorem setZ_next (k seed i : Nat) (h : i + 1 < (setZ k seed).length) : (setZ k seed).getD i 0 < (setZ k seed).getD (i + 1) 0 := by
  have := List.pairwise_iff_getElem.1 (setZ_rises k seed) i (i + 1) (by omega) h (by omega)
  rw [List.getD_eq_getElem?_getD, List.getD_eq_getElem?_getD, List.getElem?_eq_getElem (by omega), List.getElem?_eq_getElem h]
  exact this
def overAll (aa bb : List ByteArray) (k : Nat) : List ByteArray := (List.range k).map fun j => S (xorL (bl aa j) (bl bb j))
theorem overAll_length (aa bb : List ByteArray) (k : Nat) : (overAll aa bb k).length = k := by simp [overAll]
theorem overAll_succ (aa bb : List ByteArray) (k : Nat) : overAll aa bb (k + 1) = overAll aa bb k ++ [S (xorL (bl aa k) (bl bb k))] := by unfold overAll; rw [List.range_succ, List.map_append]; rfl
theorem overAll_getD (aa bb : List ByteArray) (k j : Nat) (h : j < k) : (overAll aa bb k).getD j ByteArray.empty = S (xorL (bl aa j) (bl bb j)) := by
  rw [List.getD_eq_getElem?_getD, List.getElem?_eq_getElem (by rw [overAll_length]; exact h)]
  simp [overAll]
theorem overAll_bl (aa bb : List ByteArray) (k j : Nat) (h : j < k) : bl (overAll aa bb k) j = xorL (bl aa j) (bl bb j) := by
  unfold bl at *; rw [overAll_getD aa bb k j h]; rfl
theorem overAll_ok (aa bb : List ByteArray) (ha : ChkOk aa) (hb : ChkOk bb) (hl : aa.length = bb.length) (h0 : szAt aa 0 = szAt bb 0) : ChkOk (overAll aa bb aa.length) ∧ szAt (overAll aa bb aa.length) 0 = szAt aa 0 := by
  have hs : ∀ j, j < aa.length → szAt (overAll aa bb aa.length) j = szAt aa 0 := by
    intro j hj
    have e1 := ha.all j hj
    have e2 := hb.all j (by omega)
    rw [← bl_length, overAll_bl _ _ _ _ hj, xorL_length _ _ (by rw [bl_length, bl_length]; omega), bl_length, e1]
  have hp := ha.pos
  have h00 := hs 0 (by omega)
  refine ⟨⟨by rw [overAll_length]; exact hp, by rw [overAll_length]; exact ha.most, by rw [h00]; exact ha.one, by rw [h00]; exact ha.eight, fun j hj => ?_⟩, h00⟩
  rw [overAll_length] at hj
  rw [h00]; exact hs j hj
theorem xorL_swap (A B a b : List UInt8) : xorL (xorL A B) (xorL a b) = xorL (xorL A a) (xorL B b) := by
  rw [xorL_assoc, ← xorL_assoc B a b, xorL_comm B a, xorL_assoc a B b, ← xorL_assoc]
theorem sumTo_over (aa bb : List ByteArray) (k m : Nat) (zs : List Int) (hz : ∀ z ∈ zs, 0 ≤ z ∧ z < k) : ∀ j, j ≤ zs.length → sumTo (overAll aa bb k) m zs j = xorL (sumTo aa m zs j) (sumTo bb m zs j)
  | 0, _ => by
    show noughts m = xorL (noughts m) (noughts m)
    rw [xorL_self]; simp [noughts]
  | j + 1, hj => by
    have ih := sumTo_over aa bb k m zs hz j (by omega)
    have hm := hz _ (getD_mem zs j (by omega))
    show xorL (sumTo (overAll aa bb k) m zs j) (bl (overAll aa bb k) (zs.getD j 0).toNat) = xorL (xorL (sumTo aa m zs j) (bl aa (zs.getD j 0).toNat)) (xorL (sumTo bb m zs j) (bl bb (zs.getD j 0).toNat))
    rw [ih, overAll_bl _ _ _ _ (by omega), xorL_swap]
end Go.Proofs.YtcpookgbneoilaaGreatDoor

namespace Go.Proofs.YtcpookgbneoilaaGreatDoor
open Go.ChangeShapes Go.WideShapes Go.ChangeAt Go.RowKit

def dsetE (k seed : Int) : Nat := if k < 1 ∨ 16 < k ∨ seed < 1 ∨ 10000 < seed then 1 else 0
def dsetR (k seed : Int) : List Int := if k < 1 ∨ 16 < k ∨ seed < 1 ∨ 10000 < seed then [] else setZ k.toNat seed.toNat
def dmkE (ss : List ByteArray) (seed : Int) : Nat := if chk ss ≠ 0 then chk ss else if seed < 1 ∨ 10000 < seed then 1 else 0
def dmkD (ss : List ByteArray) (seed : Int) : ByteArray := if dmkE ss seed = 0 then S (sumTo ss (szAt ss 0) (setZ ss.length seed.toNat) (setZ ss.length seed.toNat).length) else .empty
def dmkS (ss : List ByteArray) (seed : Int) : Int := if dmkE ss seed = 0 then seed else 0
theorem dmkE_zero {ss : List ByteArray} {seed : Int} (h : dmkE ss seed = 0) : chk ss = 0 ∧ 1 ≤ seed ∧ seed ≤ 10000 := by
  unfold dmkE at h
  split at h
  · omega
  · split at h
    · omega
    · omega
def drpE (k size seed : Int) (d : ByteArray) : Nat := if k < 1 ∨ 16 < k ∨ size < 1 ∨ 8 < size ∨ seed < 1 ∨ 10000 < seed then 1 else if (d.size : Int) ≠ size then 3 else 0
theorem drpE_zero {k size seed : Int} {d : ByteArray} (h : drpE k size seed d = 0) : 1 ≤ k ∧ k ≤ 16 ∧ 1 ≤ size ∧ size ≤ 8 ∧ 1 ≤ seed ∧ seed ≤ 10000 ∧ (d.size : Int) = size := by
  unfold drpE at h
  split at h
  · omega
  · split at h <;> omega
theorem dchk_tells (k size seed : Int) (d : ByteArray) (w : World) :
    Calls Tryz.prog 25 #[.int .i64 k, .int .i64 size, dropV seed d] w fun e w' => e = .returned (errv (drpE k size seed d)) ∧ Lat w w' := by
  by_cases h1 : k < 1 ∨ 16 < k ∨ size < 1 ∨ 8 < size ∨ seed < 1 ∨ 10000 < seed
  · have e1 : drpE k size seed d = 1 := if_pos h1
    rw [e1]
    exact dchk_range k size seed d w h1
  · by_cases h2 : (d.size : Int) = size
    · have e1 : drpE k size seed d = 0 := by unfold drpE; rw [if_neg h1, if_neg (fun h => h h2)]
      rw [e1]
      exact dchk_ok k size seed d w (by omega) (by omega) (by omega) (by omega) (by omega) (by omega) h2
    · have e1 : drpE k size seed d = 3 := by unfold drpE; rw [if_neg h1, if_pos h2]
      rw [e1]
      exact dchk_shape k size seed d w (by omega) (by omega) (by omega) (by omega) (by omega) (by omega) h2

theorem six_ways (k size seed : Int) (P : Prop)
    (p1 : k < 1 → P) (p2 : 1 ≤ k → 16 < k → P) (p3 : 1 ≤ k → k ≤ 16 → size < 1 → P) (p4 : 1 ≤ k → k ≤ 16 → 1 ≤ size → 8 < size → P) (p5 : 1 ≤ k → k ≤ 16 → 1 ≤ size → size ≤ 8 → seed < 1 → P)
    (p6 : 1 ≤ k → k ≤ 16 → 1 ≤ size → size ≤ 8 → 1 ≤ seed → 10000 < seed → P) (p7 : 1 ≤ k → k ≤ 16 → 1 ≤ size → size ≤ 8 → 1 ≤ seed → seed ≤ 10000 → P) : P := by
  by_cases h1 : k < 1
  · exact p1 h1
  by_cases h2 : 16 < k
  · exact p2 (by omega) h2
  by_cases h3 : size < 1
  · exact p3 (by omega) (by omega) h3
  by_cases h4 : 8 < size
  · exact p4 (by omega) (by omega) (by omega) h4
  by_cases h5 : seed < 1
  · exact p5 (by omega) (by omega) (by omega) (by omega) h5
  by_cases h6 : 10000 < seed
  · exact p6 (by omega) (by omega) (by omega) (by omega) (by omega) h6
  exact p7 (by omega) (by omega) (by omega) (by omega) (by omega) (by omega)

set_option maxHeartbeats 1000000 in
set_option maxRecDepth 100000 in
theorem refDrop (k size seed : Int) (d : ByteArray) (w : World) :
    Calls Tryz.prog 21 #[.int .i64 k, .int .i64 size, dropV seed d] w fun e w' => e = .returned (.int .i64 (drpE k size seed d)) ∧ Lat w w' := by
  refine six_ways k size seed _ ?_ ?_ ?_ ?_ ?_ ?_ ?_
  rotate_right
  focus
    intro k1 k2 s1 s2 z1 z2
    by_cases hd : (d.size : Int) = size
    · have hE : drpE k size seed d = 0 := by unfold drpE; rw [if_neg (by omega), if_neg (fun h => h hd)]
      have d1 : ((d.size : Int) != size) = false := by rw [bne_eq_false_iff_eq]; exact hd
      have HE := Lib.hid hE
      clear hE hd
      go_enter Tryz.func21, Tryz.ntmps21
      go_wp2
      go_ret
      exact ⟨by rw [HE.out]; rfl, Lat.alloc _ _⟩
    · have hE : drpE k size seed d = 3 := by unfold drpE; rw [if_neg (by omega), if_pos hd]
      have d1 : ((d.size : Int) != size) = true := by rw [bne_iff_ne]; exact hd
      have HE := Lib.hid hE
      clear hE hd
      go_enter Tryz.func21, Tryz.ntmps21
      go_wp2
      go_ret
      exact ⟨by rw [HE.out]; rfl, Lat.alloc _ _⟩
  all_goals
    intros
    have hE : drpE k size seed d = 1 := if_pos (by omega)
    have HE := Lib.hid hE
    clear hE
    go_enter Tryz.func21, Tryz.ntmps21
    go_wp2
    go_ret
    exact ⟨by rw [HE.out]; rfl, Lat.alloc _ _⟩
end Go.Proofs.YtcpookgbneoilaaGreatDoor

namespace Go.Proofs.YtcpookgbneoilaaGreatDoor
open Go.ChangeShapes Go.WideShapes Go.ChangeAt Go.RowKit Go.Maps

def strE : Value → Option (DataW Unit × List MemPlace)
  | .string s => some (.lit (.string s.data.toList), [])
  | _ => none
def boolE : Value → Option (DataW Unit × List MemPlace)
  | .bool b => some (.lit (.bool b), [])
  | _ => none
theorem strCodec : Codec strE := ⟨fun u v d p q h1 h2 => by
  unfold strE at h1 h2
  split at h1
  · rename_i s
    split at h2
    · rename_i t
      injection h1 with h1
      injection h2 with h2
      injection h1 with h1 _
      injection h2 with h2 _
      rw [← h1] at h2
      injection h2 with h2
      injection h2 with h2
      have : s = t := by
        cases s with | mk a => cases t with | mk b => exact congrArg ByteArray.mk (Array.ext' h2.symm)
      rw [this]
    · cases h2
  · cases h1⟩
theorem boolCodec : Codec boolE := ⟨fun u v d p q h1 h2 => by
  unfold boolE at h1 h2
  split at h1
  · rename_i s
    split at h2
    · rename_i t
      injection h1 with h1
      injection h2 with h2
      injection h1 with h1 _
      injection h2 with h2 _
      rw [← h1] at h2
      injection h2 with h2
      injection h2 with h2
      rw [h2]
    · cases h2
  · cases h1⟩
theorem wf_i64 {z : Int} (h : -9223372036854775808 ≤ z ∧ z ≤ 9223372036854775807) : (Lit.int .i64 z).wf = true := by
  simp [Lit.wf, IntKind.min, IntKind.max, IntKind.signed, IntKind.bits]
  omega
theorem u_int : Tryz.prog.underlying 3 = some (.int .i64) := by kernel_rfl
theorem u_mstr : Tryz.prog.underlying 91 = some (.map 3 9) := by kernel_rfl
theorem u_mbool : Tryz.prog.underlying 92 = some (.map 3 4) := by kernel_rfl
theorem zero_strV (w : World) : (zeroValue 9).run Tryz.prog w = .ok (.string { data := #[] }) w := by kernel_rfl
theorem zero_boolV (w : World) : (zeroValue 4).run Tryz.prog w = .ok (.bool false) w := by kernel_rfl

structure KnAt (w : World) (b k : Nat) (K : Kn) : Prop where
  map : ∃ n f, n + unkC K k ≤ k ∧ MapF Tryz.prog 3 .i64 strE b n f w ∧ ∀ z : Int, 0 ≤ z → z < (k : Int) → f z = (K z).map (fun b => Value.string (S b))
theorem KnAt.lt {w : World} {b k : Nat} {K : Kn} (h : KnAt w b k K) : b < w.heap.size := by
  obtain ⟨n, f, _, hm, _⟩ := h.map
  exact hm.lt
theorem KnAt.fr {w w' : World} {G : Nat → Prop} {b k : Nat} {K : Kn} (h : KnAt w b k K) (hf : Fr G w w') (hb : ¬ G b) : KnAt w' b k K := by
  obtain ⟨n, f, h1, hm, h2⟩ := h.map
  exact ⟨n, f, h1, hm.fr hf hb, h2⟩
theorem KnAt.keep {w w' : World} {b k : Nat} {K : Kn} (h : KnAt w b k K) (hb : Lat w w') : KnAt w' b k K := h.fr (G := fun _ => False) (Fr.lat hb) (fun e => e)
theorem KnAt.look_ok {w : World} {b k : Nat} {K : Kn} (h : KnAt w b k K) (hk : k ≤ 16) (z : Int) (h0 : 0 ≤ z) (h1 : z < (k : Int)) :
    (Instr.lookup 91 (.map (some b)) (.int .i64 z) true).run Tryz.prog w = .ok (.tuple #[.string (S ((K z).getD [])), .bool (K z).isSome]) w := by
  obtain ⟨n, f, _, hm, h2⟩ := h.map
  have := hm.look_ok strCodec u_int u_mstr (zero_strV w) (show strE (.string { data := #[] }) = some (_, _) from rfl) z (wf_i64 (by omega))
  rw [h2 z h0 h1] at this
  rw [this]
  cases K z <;> rfl
theorem KnAt.store {w : World} {b k : Nat} {K : Kn} (h : KnAt w b k K) (hk : k ≤ 16) (z : Int) (h0 : 0 ≤ z) (h1 : z < (k : Int)) (hn : K z = none) (x : Bts) :
    ∃ w', (Instr.mapUpdate 91 (.map (some b)) (.int .i64 z) (.string (S x))).run Tryz.prog w = .ok () w' ∧ KnAt w' b k (updK K z x) ∧ Fr (fun j => j = b) w w' := by
  obtain ⟨n, f, hc, hm, h2⟩ := h.map
  obtain ⟨w', hrun, hm2, hf⟩ := hm.store u_int u_mstr (by omega) z (wf_i64 (by omega)) (val := .string (S x)) (d := .lit (.string (S x).data.toList)) (ps := []) rfl
  have hfz := h2 z h0 h1
  rw [hn] at hfz
  rw [hfz] at hm2
  have hu := unkC_upd (k := k) (K := K) x ⟨h0, h1⟩ hn
  refine ⟨w', hrun, ⟨n + 1, _, by omega, by simpa using hm2, fun y g0 g1 => ?_⟩, hf⟩
  unfold updF updK
  by_cases e : y = z
  · subst e; rw [if_pos rfl, if_pos rfl]; rfl
  · rw [if_neg e, if_neg e]; exact h2 y g0 g1
theorem KnAt.made (w : World) (k : Nat) : KnAt (w.alloc (.map #[] 0)) w.heap.size k (fun _ => none) :=
  ⟨0, fun _ => none, by have := unkC_le (fun _ => none) k; omega, MapF.made w _ _ _ _, fun _ _ _ => rfl⟩

structure TkAt (w : World) (b : Nat) (T : List Int) : Prop where
  most : T.length ≤ 60
  map : ∃ f, MapF Tryz.prog 3 .i64 boolE b T.length f w ∧ ∀ z : Int, f z = if z ∈ T then some (Value.bool true) else none
theorem TkAt.lt {w : World} {b : Nat} {T : List Int} (h : TkAt w b T) : b < w.heap.size := by
  obtain ⟨f, hm, _⟩ := h.map
  exact hm.lt
theorem TkAt.fr {w w' : World} {G : Nat → Prop} {b : Nat} {T : List Int} (h : TkAt w b T) (hf : Fr G w w') (hb : ¬ G b) : TkAt w' b T := by
  obtain ⟨f, hm, h2⟩ := h.map
  exact ⟨h.most, f, hm.fr hf hb, h2⟩
theorem TkAt.keep {w w' : World} {b : Nat} {T : List Int} (h : TkAt w b T) (hb : Lat w w') : TkAt w' b T := h.fr (G := fun _ => False) (Fr.lat hb) (fun e => e)
theorem TkAt.look {w : World} {b : Nat} {T : List Int} (h : TkAt w b T) (z : Int) (h0 : 1 ≤ z) (h1 : z ≤ 10000) :
    (Instr.lookup 92 (.map (some b)) (.int .i64 z) false).run Tryz.prog w = .ok (.bool (decide (z ∈ T))) w := by
  obtain ⟨f, hm, h2⟩ := h.map
  have := hm.look boolCodec u_int u_mbool (zero_boolV w) (show boolE (.bool false) = some (_, _) from rfl) z (wf_i64 (by omega))
  rw [h2 z] at this
  rw [this]
  by_cases e : z ∈ T
  · rw [if_pos e, decide_eq_true e]; rfl
  · rw [if_neg e, decide_eq_false e]; rfl
theorem TkAt.len {w : World} {b : Nat} {T : List Int} (h : TkAt w b T) (ty : TypeId) : (Builtin.len_ #[92] ty #[.map (some b)]).run Tryz.prog w = .ok (.int .i64 T.length) w := by
  obtain ⟨f, hm, _⟩ := h.map
  exact hm.len u_mbool ty
theorem TkAt.store {w : World} {b : Nat} {T : List Int} (h : TkAt w b T) (z : Int) (h0 : 1 ≤ z) (h1 : z ≤ 10000) (hn : z ∉ T) (hl : T.length < 60) :
    ∃ w', (Instr.mapUpdate 92 (.map (some b)) (.int .i64 z) (.bool true)).run Tryz.prog w = .ok () w' ∧ TkAt w' b (T ++ [z]) ∧ Fr (fun j => j = b) w w' := by
  obtain ⟨f, hm, h2⟩ := h.map
  obtain ⟨w', hrun, hm2, hf⟩ := hm.store u_int u_mbool (by omega) z (wf_i64 (by omega)) (val := .bool true) (d := .lit (.bool true)) (ps := []) rfl
  rw [h2 z, if_neg hn] at hm2
  refine ⟨w', hrun, ⟨by rw [List.length_append, List.length_singleton]; omega, _, by rw [List.length_append, List.length_singleton]; simpa using hm2, fun y => ?_⟩, hf⟩
  unfold updF
  by_cases e : y = z
  · subst e; rw [if_pos rfl, if_pos (by simp)]
  · rw [if_neg e, h2 y]
    by_cases g : y ∈ T
    · rw [if_pos g, if_pos (List.mem_append_left _ g)]
    · rw [if_neg g, if_neg (fun h => (List.mem_append.1 h).elim g (fun h => e (List.mem_singleton.1 h)))]
theorem TkAt.made (w : World) : TkAt (w.alloc (.map #[] 0)) w.heap.size [] :=
  ⟨by simp, fun _ => none, MapF.made w _ _ _ _, fun z => by simp⟩

def OffG (G : Nat → Prop) (a : Option Addr) (n : Nat) : Prop := n ≠ 0 → ∀ b o, a = some ⟨b, o, none⟩ → ¬ G b
theorem IntsAt.fr {w w' : World} {G : Nat → Prop} {a : Option Addr} {n cap : Nat} {zs : List Int} (h : IntsAt w a n cap zs) (hf : Fr G w w') (ho : OffG G a n) : IntsAt w' a n cap zs :=
  ⟨h.len, ⟨h.row.le, h.row.cap, fun hn => by
    obtain ⟨b, o, ha, hc⟩ := h.row.at_ hn
    exact ⟨b, o, ha, fun j hj => hf.cell_at (hc j hj) (ho hn b o ha)⟩⟩, h.wf⟩
theorem IntsAt.blk {w : World} {a : Option Addr} {n cap : Nat} {zs : List Int} (h : IntsAt w a n cap zs) (hn : n ≠ 0) {b o : Nat} (ha : a = some ⟨b, o, none⟩) : b < w.heap.size := by
  obtain ⟨b', o', ha', hc⟩ := h.row.at_ hn
  have := hc 0 (by omega)
  have e := ha.symm.trans ha'
  injection e with e
  injection e with e1 _ _
  subst e1
  exact World.block_lt_of_cell? _ _ this

def InG (G : Nat → Prop) (a : Option Addr) (n : Nat) : Prop := n ≠ 0 → ∀ b o, a = some ⟨b, o, none⟩ → G b
structure WtAt (w : World) (N G : Nat → Prop) (r : List Value) (x : Wt) : Prop where
  ex : ∃ a c, r = [.slice a x.1.length c, .string (S x.2)] ∧ IntsAt w a x.1.length c x.1 ∧ OffG N a x.1.length ∧ InG G a x.1.length
theorem WtAt.fr {w w' : World} {N G H : Nat → Prop} {r : List Value} {x : Wt} (h : WtAt w N G r x) (hf : Fr H w w') (hs : ∀ i, i < w.heap.size → H i → G i → N i) : WtAt w' N G r x := by
  obtain ⟨a, c, h1, h2, h3, h4⟩ := h.ex
  exact ⟨a, c, h1, h2.fr hf (fun hn b o ha e => h3 hn b o ha (hs b (h2.blk hn ha) e (h4 hn b o ha))), h3, h4⟩
def WtsAt (w : World) (N G : Nat → Prop) (rows : List (List Value)) (L : List Wt) : Prop := rows.length = L.length ∧ ∀ (j : Nat) (x : Wt), L[j]? = some x → ∃ r, rows[j]? = some r ∧ WtAt w N G r x
theorem WtsAt.nil (w : World) (N G : Nat → Prop) : WtsAt w N G [] [] := ⟨rfl, fun j x h => by simp at h⟩
theorem WtsAt.map {w w' : World} {N N' G G' : Nat → Prop} {rows : List (List Value)} {L : List Wt} (h : WtsAt w N G rows L) (hm : ∀ r x, WtAt w N G r x → WtAt w' N' G' r x) : WtsAt w' N' G' rows L :=
  ⟨h.1, fun j x hx => by
    obtain ⟨r, h1, h2⟩ := h.2 j x hx
    exact ⟨r, h1, hm r x h2⟩⟩
theorem WtsAt.fr {w w' : World} {N G H : Nat → Prop} {rows : List (List Value)} {L : List Wt} (h : WtsAt w N G rows L) (hf : Fr H w w') (hs : ∀ i, i < w.heap.size → H i → G i → N i) : WtsAt w' N G rows L := h.map fun _ _ e => e.fr hf hs
theorem WtsAt.keep {w w' : World} {N G : Nat → Prop} {rows : List (List Value)} {L : List Wt} (h : WtsAt w N G rows L) (hb : Lat w w') : WtsAt w' N G rows L := h.fr (H := fun _ => False) (Fr.lat hb) (fun _ _ e => e.elim)
theorem WtAt.off {w : World} {N N' G G' : Nat → Prop} {r : List Value} {x : Wt} (e : WtAt w N G r x) (hs : ∀ i, i < w.heap.size → G i → N' i → N i) (hg : ∀ i, i < w.heap.size → G i → ¬ N i → G' i) : WtAt w N' G' r x := by
  obtain ⟨a, c, h1, h2, h3, h4⟩ := e.ex
  exact ⟨a, c, h1, h2, fun hn b o ha e => h3 hn b o ha (hs b (h2.blk hn ha) (h4 hn b o ha) e), fun hn b o ha => hg b (h2.blk hn ha) (h4 hn b o ha) (h3 hn b o ha)⟩
theorem WtsAt.off {w : World} {N N' G G' : Nat → Prop} {rows : List (List Value)} {L : List Wt} (h : WtsAt w N G rows L) (hs : ∀ i, i < w.heap.size → G i → N' i → N i) (hg : ∀ i, i < w.heap.size → G i → ¬ N i → G' i) : WtsAt w N' G' rows L := h.map fun _ _ e => e.off hs hg
theorem WtsAt.push {w : World} {N G : Nat → Prop} {rows : List (List Value)} {L : List Wt} (h : WtsAt w N G rows L) {r : List Value} {x : Wt} (hx : WtAt w N G r x) : WtsAt w N G (rows ++ [r]) (L ++ [x]) := by
  refine ⟨by rw [List.length_append, List.length_append, h.1]; rfl, fun j y hy => ?_⟩
  by_cases hj : j < L.length
  · rw [List.getElem?_append_left hj] at hy
    obtain ⟨r2, h1, h2⟩ := h.2 j y hy
    exact ⟨r2, by rw [List.getElem?_append_left (by rw [h.1]; exact hj)]; exact h1, h2⟩
  · rw [List.getElem?_append_right (by omega)] at hy
    have hj2 : j - L.length = 0 := by
      rcases Nat.eq_zero_or_pos (j - L.length) with h | h
      · exact h
      · rw [List.getElem?_eq_none (by rw [List.length_singleton]; omega)] at hy; cases hy
    rw [hj2] at hy
    simp at hy
    subst hy
    exact ⟨r, by rw [List.getElem?_append_right (by rw [h.1]; omega), h.1, hj2]; rfl, hx⟩

def Nb (p kb tb : Nat) (v : Value) (i : Nat) : Prop := i = p ∨ i = kb ∨ i = tb ∨ v.ownBlock = some i
structure PeelIn (G : Nat → Prop) (p kb tb k m : Nat) (K : Kn) (T : List Int) (L : List Wt) (a : Option Addr) (cap : Nat) (w : World) : Prop where
  lt : ∀ i, G i → i < w.heap.size
  gp : G p
  gk : G kb
  gt : G tb
  nk : p ≠ kb
  nt : p ≠ tb
  nkt : kb ≠ tb
  c0 : w.cell? ⟨p, 0, none⟩ = some (.int .i64 k)
  c1 : w.cell? ⟨p, 1, none⟩ = some (.int .i64 m)
  c2 : w.cell? ⟨p, 2, none⟩ = some (.map (some kb))
  c3 : w.cell? ⟨p, 3, none⟩ = some (.map (some tb))
  c4 : w.cell? ⟨p, 4, none⟩ = some (.slice a L.length cap)
  free : w.frozen? ⟨p, 4, none⟩ = false
  kn : KnAt w kb k K
  tk : TkAt w tb T
  row : ∃ rows, OwnR w 0 102 2 (.slice a L.length cap) rows ∧ WtsAt w (Nb p kb tb (.slice a L.length cap)) G rows L
  own : ∀ i, (Value.slice a L.length cap).ownBlock = some i → G i ∧ i ≠ p ∧ i ≠ kb ∧ i ≠ tb
  ok : WOk k m K L
  most : L.length ≤ T.length
def PeelO (G : Nat → Prop) (p k m : Nat) (K : Kn) (T : List Int) (L : List Wt) (w : World) : Prop := ∃ kb tb a cap, PeelIn G p kb tb k m K T L a cap w
theorem PeelIn.fr {G H : Nat → Prop} {p kb tb k m : Nat} {K : Kn} {T : List Int} {L : List Wt} {a : Option Addr} {cap : Nat} {w w' : World} (h : PeelIn G p kb tb k m K T L a cap w) (hf : Fr H w w') (hd : ∀ i, G i → ¬ H i) : PeelIn G p kb tb k m K T L a cap w' := by
  have dp := hd _ h.gp
  obtain ⟨rows, ho, hw⟩ := h.row
  exact ⟨fun i hi => Nat.lt_of_lt_of_le (h.lt i hi) hf.size, h.gp, h.gk, h.gt, h.nk, h.nt, h.nkt, hf.cell_at h.c0 dp, hf.cell_at h.c1 dp, hf.cell_at h.c2 dp, hf.cell_at h.c3 dp, hf.cell_at h.c4 dp, hf.free_at (h.lt _ h.gp) h.free dp,
    h.kn.fr hf (hd _ h.gk), h.tk.fr hf (hd _ h.gt), ⟨rows, ho.fr hf (fun i hi => hd _ (h.own i hi).1), hw.fr hf (fun i _ h1 h2 => absurd h1 (hd i h2))⟩, h.own, h.ok, h.most⟩
theorem PeelIn.keep {G : Nat → Prop} {p kb tb k m : Nat} {K : Kn} {T : List Int} {L : List Wt} {a : Option Addr} {cap : Nat} {w w' : World} (h : PeelIn G p kb tb k m K T L a cap w) (hb : Lat w w') : PeelIn G p kb tb k m K T L a cap w' :=
  h.fr (H := fun _ => False) (Fr.lat hb) (fun _ _ e => e)
theorem PeelIn.grow {G G' : Nat → Prop} {p kb tb k m : Nat} {K : Kn} {T : List Int} {L : List Wt} {a : Option Addr} {cap : Nat} {w : World} (h : PeelIn G p kb tb k m K T L a cap w) (hs : ∀ i, G i → G' i) (hl : ∀ i, G' i → i < w.heap.size) : PeelIn G' p kb tb k m K T L a cap w := by
  obtain ⟨rows, ho, hw⟩ := h.row
  exact ⟨hl, hs _ h.gp, hs _ h.gk, hs _ h.gt, h.nk, h.nt, h.nkt, h.c0, h.c1, h.c2, h.c3, h.c4, h.free, h.kn, h.tk, ⟨rows, ho, hw.off (fun _ _ _ e => e) (fun i _ e _ => hs i e)⟩, fun i hi => ⟨hs _ (h.own i hi).1, (h.own i hi).2⟩, h.ok, h.most⟩
theorem PeelO.fr {G H : Nat → Prop} {p k m : Nat} {K : Kn} {T : List Int} {L : List Wt} {w w' : World} (h : PeelO G p k m K T L w) (hf : Fr H w w') (hd : ∀ i, G i → ¬ H i) : PeelO G p k m K T L w' := by
  obtain ⟨kb, tb, a, cap, h⟩ := h
  exact ⟨kb, tb, a, cap, h.fr hf hd⟩
theorem PeelO.keep {G : Nat → Prop} {p k m : Nat} {K : Kn} {T : List Int} {L : List Wt} {w w' : World} (h : PeelO G p k m K T L w) (hb : Lat w w') : PeelO G p k m K T L w' := by
  obtain ⟨kb, tb, a, cap, h⟩ := h
  exact ⟨kb, tb, a, cap, h.keep hb⟩
structure PeelStep (G : Nat → Prop) (p k m : Nat) (K : Kn) (T : List Int) (L : List Wt) (w w' : World) : Prop where
  fr : Fr G w w'
  obj : ∃ G', PeelO G' p k m K T L w' ∧ ∀ i, G' i → G i ∨ w.heap.size ≤ i
  maps : w'.cell? ⟨p, 2, none⟩ = w.cell? ⟨p, 2, none⟩ ∧ w'.cell? ⟨p, 3, none⟩ = w.cell? ⟨p, 3, none⟩
end Go.Proofs.YtcpookgbneoilaaGreatDoor

namespace Go.Proofs.YtcpookgbneoilaaGreatDoor
open Go.ChangeShapes Go.WideShapes Go.ChangeAt Go.RowKit

theorem Own.frL {w w' : World} {B b : Nat} {e : TypeId} {v : Value} {xs : List Value} (h : Own w B e v xs) (hf : Fr (fun j => j = b) w w') (hb : b < B) : Own w' B e v xs :=
  Own.grown h ⟨hf.os, hf.tape, hf.output, hf.size, fun k hk hne => hf.block k hk (fun e => hne (by rw [e]))⟩ fun g hg e => by
    have e : b = g := Option.some.inj e
    have := (Own.lt h g hg).1
    omega
structure WB (w : World) (X : Nat) (a : Option Addr) (n cap : Nat) (d : Bts) (wr : World) : Prop where
  lat : Lat w wr
  lo : w.heap.size ≤ X
  lt : X + 1 < wr.heap.size
  c0 : wr.cell? ⟨X, 0, none⟩ = some (.slice a n cap)
  c1 : wr.cell? ⟨X, 1, none⟩ = some (.string (S d))
  f0 : wr.frozen? ⟨X, 0, none⟩ = false
  f1 : wr.frozen? ⟨X, 1, none⟩ = false
  r0 : wr.cell? ⟨X + 1, 0, none⟩ = some (.slice none 0 0)
  r1 : wr.cell? ⟨X + 1, 1, none⟩ = some (.string { data := #[] })
  g0 : wr.frozen? ⟨X + 1, 0, none⟩ = false
  g1 : wr.frozen? ⟨X + 1, 1, none⟩ = false
theorem WB.keep {w : World} {X : Nat} {a : Option Addr} {n cap : Nat} {d : Bts} {wr wx : World} (h : WB w X a n cap d wr) (hb : Lat wr wx) : WB w X a n cap d wx :=
  ⟨h.lat.trans hb, h.lo, Nat.lt_of_lt_of_le h.lt hb.size, hb.cell_at h.c0, hb.cell_at h.c1, hb.free_at (by have := h.lt; simp; omega) h.f0, hb.free_at (by have := h.lt; simp; omega) h.f1, hb.cell_at h.r0, hb.cell_at h.r1, hb.free_at h.lt h.g0, hb.free_at h.lt h.g1⟩
theorem WB.fr {w : World} {X : Nat} {a : Option Addr} {n cap : Nat} {d : Bts} {wr wx : World} {G : Nat → Prop} (h : WB w X a n cap d wr) (hb : Fr G wr wx) (hX : ∀ i, G i → X + 2 ≤ i) : WB w X a n cap d wx := by
  have n0 : ¬ G X := fun e => by have := hX _ e; omega
  have n1 : ¬ G (X + 1) := fun e => by have := hX _ e; omega
  have hlt := h.lt
  exact ⟨hb.lat_of h.lat (fun i e => by have := hX i e; have := h.lo; omega), h.lo, Nat.lt_of_lt_of_le h.lt hb.size, hb.cell_at h.c0 n0, hb.cell_at h.c1 n0, hb.free_at (by simp; omega) h.f0 n0, hb.free_at (by simp; omega) h.f1 n0, hb.cell_at h.r0 n1, hb.cell_at h.r1 n1, hb.free_at h.lt h.g0 n1, hb.free_at h.lt h.g1 n1⟩
theorem WB.put {w : World} {X : Nat} {a : Option Addr} {n cap : Nat} {d : Bts} {wr : World} (h : WB w X a n cap d wr) (e : Bts) : WB w X a n cap e (wr.setCell ⟨X, 1, none⟩ (.string (S e))) := by
  have hs : (wr.setCell ⟨X, 1, none⟩ (.string (S e))).heap.size = wr.heap.size := by simp [World.setCell]
  refine ⟨h.lat.setCell (p := ⟨X, 1, none⟩) h.lo _, h.lo, by rw [hs]; exact h.lt, ?_, World.cell?_setCell_same _ _ _ h.c1, by rw [World.frozen?_setCell]; exact h.f0, by rw [World.frozen?_setCell]; exact h.f1, ?_, ?_, by rw [World.frozen?_setCell]; exact h.g0, by rw [World.frozen?_setCell]; exact h.g1⟩
  · rw [World.cell?_setCell_other _ _ _ _ (by simp)]; exact h.c0
  · rw [World.cell?_setCell_other _ _ _ _ (by intro e; injection e with e _ _; omega)]; exact h.r0
  · rw [World.cell?_setCell_other _ _ _ _ (by intro e; injection e with e _ _; omega)]; exact h.r1

theorem app_intG (wr : World) (B : Nat) {ops : Array Oper} {rest : List Oper} {o : Oper} {a : Act} {Q : Exit → Act → World → Prop}
    (hg : o.guard = none) (s x : Operand) (ho : o.op = .call { callee := .builtin .append, args := #[s, x], argTypes := #[42, 42] })
    (v : Value) (zs : List Int) (z : Int) (hs : a.eval s = v) (hown : OwnInts wr B v zs) (hx : a.eval x = .slice (some ⟨wr.heap.size, 0, none⟩) 1 1)
    (hn : zs.length < 1000000) (hB : B ≤ wr.heap.size)
    (K : ∀ v' w', OwnInts w' B v' (zs ++ [z]) → Fr (fun j => v.ownBlock = some j) wr w' → wpList Tryz.prog ops Q rest (a.put o.dst v') w') :
    wpList Tryz.prog ops Q (o :: rest) a (wr.alloc (.cells #[.int .i64 z] 3)) := by
  have hal : OwnInts (wr.alloc (.cells #[.int .i64 z] 3)) B v zs := Own.alloc hown _
  have hrow1 : RowAt (wr.alloc (.cells #[.int .i64 z] 3)) (some ⟨wr.heap.size, 0, none⟩) 1 1 (fun j => [Value.int .i64 z].getD j undef) := by
    refine ⟨Nat.le_refl _, by unfold maxLen; omega, fun _ => ⟨wr.heap.size, 0, rfl, fun j hj => ?_⟩⟩
    obtain rfl : j = 0 := by omega
    simp
  obtain ⟨v', w', hrun, h2, h3, _⟩ := run_app_many (P := Tryz.prog) (wr.alloc (.cells #[.int .i64 z] 3)) B 42 o.type 3 (.int .i64 0) 8 Tryz.underlying42 info_int rfl (by decide) v _ hal (some ⟨wr.heap.size, 0, none⟩) 1 1 [.int .i64 z] rfl
    hrow1 (fun u hu => by rw [List.mem_singleton.1 hu]; rfl) (by rw [List.length_map]; omega) (by simp; omega)
  refine wpList_plain hg fun K' hK => ?_
  unfold Oper.wp execOp
  simp only [ho, resolve, invoke, builtin, Sem.run_bind, Sem.run_pure, Result.andThen_ok, List.map_toArray, List.map_cons, List.map_nil, hs, hx, hrun]
  refine hK _ _ (K v' w' (by simpa [OwnInts] using h2) ⟨h3.os, h3.tape, h3.output, ?_, fun k hk hne => ?_⟩)
  · have := h3.size; simp at this; omega
  · rw [h3.block k (by simp; omega) (fun e => hne e.symm)]; exact heap_alloc_old wr _ hk
theorem two_put {w : World} {g : Nat} {a b : Value} (c0 : w.cell? ⟨g, 0, none⟩ = some a) (c1 : w.cell? ⟨g, 1, none⟩ = some b) (x y : Value) :
    ((w.setCell ⟨g, 0, none⟩ x).setCell ⟨g, 1, none⟩ y).cell? ⟨g, 0, none⟩ = some x ∧ ((w.setCell ⟨g, 0, none⟩ x).setCell ⟨g, 1, none⟩ y).cell? ⟨g, 1, none⟩ = some y := by
  constructor
  · rw [World.cell?_setCell_other _ _ _ _ (by simp)]; exact World.cell?_setCell_same _ _ _ c0
  · exact World.cell?_setCell_same _ _ _ ((World.cell?_setCell_other _ _ _ _ (by simp)).trans c1)
theorem two_box {w W1 : World} (hz : W1.heap.size = w.heap.size + 1) (v0 v1 : Value) (t : TypeId) :
    ((W1.alloc (.cells #[v0, v1] t)).cell? ⟨w.heap.size + 1, 0, none⟩ = some v0 ∧ (W1.alloc (.cells #[v0, v1] t)).cell? ⟨w.heap.size + 1, 1, none⟩ = some v1) ∧ (W1.alloc (.cells #[v0, v1] t)).frozen? ⟨w.heap.size + 1, 0, none⟩ = false ∧ (W1.alloc (.cells #[v0, v1] t)).frozen? ⟨w.heap.size + 1, 1, none⟩ = false := by
  rw [← hz]; simp
theorem WB.new (w : World) (a : Option Addr) (n cap : Nat) (d : Bts) : WB w w.heap.size a n cap d ((w.alloc (.cells #[.slice a n cap, .string (S d)] 102)).alloc (.cells #[.slice none 0 0, .string { data := #[] }] 102)) := by
  obtain ⟨W1, hW⟩ : ∃ W1, W1 = w.alloc (.cells #[.slice a n cap, .string (S d)] 102) := ⟨_, rfl⟩
  have hz : W1.heap.size = w.heap.size + 1 := by rw [hW]; simp
  have c0 : W1.cell? ⟨w.heap.size, 0, none⟩ = some (.slice a n cap) := by rw [hW]; simp
  have c1 : W1.cell? ⟨w.heap.size, 1, none⟩ = some (.string (S d)) := by rw [hW]; simp
  have f0 : W1.frozen? ⟨w.heap.size, 0, none⟩ = false := by rw [hW]; simp
  have f1 : W1.frozen? ⟨w.heap.size, 1, none⟩ = false := by rw [hW]; simp
  have hl : Lat w W1 := by rw [hW]; exact Lat.alloc _ _
  rw [← hW]
  have h2 := two_box hz (.slice none 0 0) (.string { data := #[] }) 102
  refine ⟨hl.trans (Lat.alloc _ _), Nat.le_refl _, by simp [hz], (Lat.alloc _ _).cell_at c0, (Lat.alloc _ _).cell_at c1, (Lat.alloc _ _).free_at (by simp [hz]) f0, (Lat.alloc _ _).free_at (by simp [hz]) f1, h2.1.1, h2.1.2, h2.2.1, h2.2.2⟩
theorem filt_succ (K : Kn) (zs : List Int) (j : Nat) (hj : j < zs.length) : (zs.take (j + 1)).filter (unkn K) = if unkn K (zs.getD j 0) = true then (zs.take j).filter (unkn K) ++ [zs.getD j 0] else (zs.take j).filter (unkn K) := by
  have e : zs.getD j 0 = zs[j] := by rw [List.getD_eq_getElem?_getD, List.getElem?_eq_getElem hj]; rfl
  rw [List.take_succ_eq_append_getElem hj, List.filter_append, e]
  cases h : unkn K zs[j] <;> simp [h]
theorem fold_succ (K : Kn) (zs : List Int) (d : Bts) (j : Nat) (hj : j < zs.length) : (zs.take (j + 1)).foldl (ovK K) d = ovK K ((zs.take j).foldl (ovK K) d) (zs.getD j 0) := by
  have e : zs.getD j 0 = zs[j] := by rw [List.getD_eq_getElem?_getD, List.getElem?_eq_getElem hj]; rfl
  rw [List.take_succ_eq_append_getElem hj, List.foldl_append, e]; rfl

set_option maxHeartbeats 4000000 in
set_option maxRecDepth 100000 in
theorem without_any (p kb k m : Nat) (K : Kn) (a : Option Addr) (n cap : Nat) (zs : List Int) (d : Bts) (w : World) (hc2 : w.cell? ⟨p, 2, none⟩ = some (.map (some kb))) (hkn : KnAt w kb k K) (hk : k ≤ 16) (hz : IntsAt w a n cap zs) (hn : n ≤ 1000)
    (hin : ∀ z ∈ zs, 0 ≤ z ∧ z < (k : Int)) (hK : ∀ z b, K z = some b → 0 ≤ z ∧ z < (k : Int) ∧ b.length = m) (hd : d.length = m) (hm : m ≤ 8) :
    Calls Tryz.prog 69 #[.pointer (some ⟨p, 0, none⟩), .agg #[.slice a n cap, .string (S d)]] w fun e w' =>
      ∃ a' c', e = .returned (.agg #[.slice a' (wout K (zs, d)).1.length c', .string (S (wout K (zs, d)).2)]) ∧ IntsAt w' a' (wout K (zs, d)).1.length c' (wout K (zs, d)).1 ∧ (∀ b o, a' = some ⟨b, o, none⟩ → w.heap.size ≤ b) ∧ Lat w w' := by
  have hl := hz.len
  have hle := hz.row.le
  have hcm := hz.row.cap
  unfold maxLen at hcm
  have hb0 := WB.new w a n cap d
  have H2 := Lib.hid hc2; have HKN := Lib.hid hkn; have HZ := Lib.hid hz; have HIN := Lib.hid hin; have HKL := Lib.hid hK; have HD := Lib.hid hd; have HL := Lib.hid hl; have HB0 := Lib.hid hb0
  clear hc2 hkn hz hin hK hd hl hb0
  go_enter Tryz.func69, Tryz.ntmps69
  go_wp2
  go_loopw [5, 7, 8, 9, 13] (fun v _ _ _ i wr => ∃ j : Nat, j ≤ n ∧ i = .int .i64 j ∧ Hid (OwnInts wr (w.heap.size + 2) v ((zs.take j).filter (unkn K)) ∧ WB w w.heap.size a n cap ((zs.take j).foldl (ovK K) d) wr)) (fun _ _ _ _ i _ => n - (intOf i).toNat)
  case atStart => exact ⟨0, Nat.zero_le _, rfl, Own.nil _ _ _, HB0.out⟩
  case round =>
    obtain ⟨j, hj, rfl, hrel⟩ := hrel
    by_cases hlt : j < n
    · obtain ⟨hown, hwb⟩ := hrel.out
      obtain ⟨ab, ao, rfl, hc⟩ := (HZ.out.keep hwb.lat).row.at_ (by omega)
      have c1 := hc j hlt
      have hjl : j < zs.length := by rw [HL.out]; exact hlt
      have hzm := HIN.out _ (getD_mem zs j hjl)
      have hfs := filt_succ K zs j hjl
      have hds := fold_succ K zs d j hjl
      have hdl := ovK_len HKL.out (zs.take j) d HD.out
      obtain ⟨z, hz⟩ : ∃ z, z = zs.getD j 0 := ⟨_, rfl⟩
      obtain ⟨dj, hdj⟩ : ∃ dj, dj = (zs.take j).foldl (ovK K) d := ⟨_, rfl⟩
      rw [← hz] at c1 hzm hfs hds
      rw [← hdj] at hds hdl hwb
      have c2 := hwb.lat.cell_at H2.out
      have b0 := hwb.c0
      have b1 := hwb.c1
      have g1 := hwb.f1
      have i1 : (0 : Int) ≤ (j : Int) := by omega
      have i2 : (j : Int) < (n : Int) := by omega
      have hlook := (HKN.out.keep hwb.lat).look_ok hk z hzm.1 hzm.2
      obtain ⟨X, hX⟩ : ∃ X, X = w.heap.size := ⟨_, rfl⟩
      have HFS := Lib.hid hfs; have HDS := Lib.hid hds; have HDL := Lib.hid hdl; have HOW := Lib.hid hown; have HWB := Lib.hid hwb; have HJL := Lib.hid hjl; have HZM := Lib.hid hzm; have HX := Lib.hid hX
      clear hrel hc hjl hzm hfs hds hdl hz hdj hown hwb
      cases hq : K z with
      | some b =>
        have hbl := (HKL.out z b hq).2.2
        have hu : unkn K z = false := by unfold unkn; rw [hq]; rfl
        have ho : ovK K dj z = xorL dj b := by unfold ovK; rw [hq]
        rw [hq] at hlook
        have hlook2 : ∀ W, Lat wr W → (Instr.lookup 91 (.map (some kb)) (.int .i64 z) true).run Tryz.prog W = .ok (.tuple #[.string (S b), .bool true]) W := fun W hW => by
          have := ((HKN.out.keep HWB.out.lat).keep hW).look_ok hk z HZM.out.1 HZM.out.2
          rw [hq] at this; exact this
        have hover := fun W => overS dj (S b) W (by rw [HDL.out]; exact hbl.symm) (by rw [HDL.out]; unfold maxLen; omega)
        have h3 := hlook2 wr (Lat.refl _)
        have HQ := Lib.hid hq; have HBL := Lib.hid hbl; have HU := Lib.hid hu; have HO := Lib.hid ho; have HOV := Lib.hid hover
        clear hq hlook hlook2 hbl hu ho hover
        go_wp2_with (go_at_call 77; refine (HOV.out _).mono ?_; rintro e w5 ⟨rfl, hb5⟩; have hwb5 := HWB.out.keep hb5; have k1 := hwb5.c1; have k2 := hwb5.f1; have HW5 := Lib.hid hwb5; have HB5 := Lib.hid hb5; clear hwb5 hb5)
        go_roundw
        case rel => exact ⟨j + 1, by omega, by go_num, by rw [HFS.out, HU.out, if_neg (by decide)]; exact Own.frL (Own.keep HOW.out HB5.out) (Fr.set (S := fun i => i = w.heap.size) _ ⟨w.heap.size, 1, none⟩ _ rfl) (by omega), by rw [HDS.out, HO.out]; exact HW5.out.put _⟩
        case measure => simp [intOf]; omega
      | none =>
        have hlook2 : (Instr.lookup 91 (.map (some kb)) (.int .i64 z) true).run Tryz.prog wr = .ok (.tuple #[.string { data := #[] }, .bool false]) wr := by
          rw [hq] at hlook; exact hlook
        have hu : unkn K z = true := by unfold unkn; rw [hq]; rfl
        have ho : ovK K dj z = dj := by unfold ovK; rw [hq]
        have HU := Lib.hid hu; have HO := Lib.hid ho
        clear hq hlook hu ho
        have hl : ((zs.take j).filter (unkn K)).length < 1000000 := by
          have h1 := List.length_filter_le (unkn K) (zs.take j)
          rw [List.length_take] at h1
          omega
        have HLL := Lib.hid hl
        have HWZ : Hid (w.heap.size + 2 ≤ wr.heap.size) := HWB.out.lt
        clear hl
        go_wp2_with (at_builtin; refine app_intG wr (w.heap.size + 2) rfl (.tmp 32) (.tmp 34) rfl _ _ z rfl HOW.out rfl HLL.out HWZ.out ?_; intro v' w2 hown' hf2)
        go_roundw
        case rel => exact ⟨j + 1, by omega, by go_num, by rw [HFS.out, HU.out, if_pos rfl]; exact hown', by rw [HDS.out, HO.out]; exact HWB.out.fr hf2 (fun i e => (Own.lt HOW.out i e).1)⟩
        case measure => simp [intOf]; omega
    · obtain rfl : j = n := by omega
      obtain ⟨hown, hwb⟩ := hrel.out
      have b0 := hwb.c0
      have b1 := hwb.c1
      have g0 := hwb.f0
      have g1 := hwb.f1
      have r0 := hwb.r0
      have r1 := hwb.r1
      have s0 := hwb.g0
      have s1 := hwb.g1
      have HWB := Lib.hid hwb
      have ht : zs.take j = zs := List.take_of_length_le (by rw [HL.out]; exact Nat.le_refl _)
      rw [ht] at hown b1 HWB
      obtain ⟨oa, oc, rfl, hat⟩ := OwnInts.slice hown (fun z hz => by have := HIN.out z (List.mem_filter.1 hz).1; omega)
      have hbk : ∀ b o, oa = some ⟨b, o, none⟩ → w.heap.size + 2 ≤ b := fun b o e => (Own.lt hown b (by rw [e]; rfl)).1
      obtain ⟨fs, hfs⟩ : ∃ fs, fs = zs.filter (unkn K) := ⟨_, rfl⟩
      obtain ⟨dd, hdd⟩ : ∃ dd, dd = zs.foldl (ovK K) d := ⟨_, rfl⟩
      have hwo : wout K (zs, d) = (fs, dd) := by unfold wout; rw [hfs, hdd]
      rw [← hfs] at hat
      rw [← hdd] at b1 HWB
      obtain ⟨fl, hfl⟩ : ∃ fl, fl = fs.length := ⟨_, rfl⟩
      rw [← hfs, ← hfl]
      rw [← hfl] at hat
      have HWO := Lib.hid hwo; have HFL := Lib.hid hfl
      have HAT := Lib.hid hat; have HBK := Lib.hid hbk
      obtain ⟨W1, hW1⟩ : ∃ W1, W1 = wr.setCell ⟨w.heap.size, 0, none⟩ (.slice oa fl oc) := ⟨_, rfl⟩
      have q0 : W1.cell? ⟨w.heap.size, 0, none⟩ = some (.slice oa fl oc) := by rw [hW1]; exact World.cell?_setCell_same _ _ _ b0
      have q1 : W1.cell? ⟨w.heap.size, 1, none⟩ = some (.string (S dd)) := by rw [hW1, World.cell?_setCell_other _ _ _ _ (by simp)]; exact b1
      have q2 : W1.cell? ⟨w.heap.size + 1, 0, none⟩ = some (.slice none 0 0) := by rw [hW1, World.cell?_setCell_other _ _ _ _ (by intro e; injection e with e _ _; omega)]; exact r0
      have q3 : W1.cell? ⟨w.heap.size + 1, 1, none⟩ = some (.string { data := #[] }) := by rw [hW1, World.cell?_setCell_other _ _ _ _ (by intro e; injection e with e _ _; omega)]; exact r1
      have q4 : W1.frozen? ⟨w.heap.size + 1, 0, none⟩ = false := by rw [hW1, World.frozen?_setCell]; exact s0
      have q5 : W1.frozen? ⟨w.heap.size + 1, 1, none⟩ = false := by rw [hW1, World.frozen?_setCell]; exact s1
      have hfr : Fr (fun i => i = w.heap.size ∨ i = w.heap.size + 1) wr W1 := by rw [hW1]; exact Fr.set _ _ _ (.inl rfl)
      have HFR := Lib.hid hfr; have HOWN := Lib.hid hown; have HW1 := Lib.hid hW1
      clear hrel hown hwb ht hat hbk hfs hdd hwo hfl hfr
      go_upto_region 11 with fail
      rw [← hW1]
      clear hW1 b0 b1 g0 g1 r0 r1 s0 s1
      go_wp2
      have Q := two_put q2 q3 (.slice oa fl oc) (.string (S dd))
      have hfin : Fr (fun i => i = w.heap.size ∨ i = w.heap.size + 1) wr ((W1.setCell ⟨w.heap.size + 1, 0, none⟩ (.slice oa fl oc)).setCell ⟨w.heap.size + 1, 1, none⟩ (.string (S dd))) := (HFR.out.then_set ⟨w.heap.size + 1, 0, none⟩ _ (.inl (.inr rfl))).then_set ⟨w.heap.size + 1, 1, none⟩ _ (.inl (.inr rfl))
      refine bodyPost_ret (v := .agg #[.slice oa fl oc, .string (S dd)]) (by simp [results, Tryz.results69, go_sem, Q.1, Q.2]) rfl ?_
      rw [HWO.out]
      show ∃ a' c', Ending.returned (.agg #[.slice oa fl oc, .string (S dd)]) = .returned (.agg #[.slice a' fs.length c', .string (S dd)]) ∧ IntsAt _ a' fs.length c' fs ∧ _
      rw [← HFL.out]
      refine ⟨oa, oc, rfl, HAT.out.fr hfin (fun hn b o e h => ?_), fun b o e => ?_, hfin.lat_of HWB.out.lat (fun i e => ?_)⟩
      · have := HBK.out b o e
        omega
      · have := HBK.out b o e
        omega
      · omega
end Go.Proofs.YtcpookgbneoilaaGreatDoor

namespace Go.Proofs.YtcpookgbneoilaaGreatDoor
open Go.ChangeShapes Go.WideShapes Go.ChangeAt Go.RowKit

theorem sort_none (a : Option Addr) (cap : Nat) (w : World) : Calls Tryz.prog 68 #[.slice a 0 cap] w fun e w' => e = .returned (.tuple #[]) ∧ w' = w :=
  Any.slices_Sort_int_none Tryz.lays189 a cap w
theorem learn1_any (a : Option Addr) (n c : Nat) (s : ByteArray) (w : World) :
    Calls Tryz.prog 71 #[.agg #[.slice a n c, .string s]] w fun e w' => e = .returned (.bool (decide (n = 1))) ∧ Lat w w' := by
  obtain ⟨b, hb⟩ : ∃ b, b = decide (n = 1) := ⟨_, rfl⟩
  have h1 : ((n : Int) == 1) = b := by
    rw [hb]
    by_cases h : n = 1
    · subst h; rfl
    · rw [decide_eq_false h]; exact beq_eq_false_iff_ne.2 (by omega)
  rw [← hb]
  clear hb
  go_enter Tryz.func71, Tryz.ntmps71
  go_wp2
  go_ret
  exact ⟨rfl, Lat.alloc _ _⟩
def IxEnd (L : List Wt) (r : Int) : Prop := (r = -1 ∧ ∀ (j : Nat) (x : Wt), L[j]? = some x → one1 x = false) ∨ ∃ (i : Nat) (x : Wt), r = i ∧ L[i]? = some x ∧ one1 x = true ∧ ∀ j, j < i → ∀ y, L[j]? = some y → one1 y = false

set_option maxHeartbeats 1000000 in
theorem indexW0 (F : Nat) (eF : ∀ args w, (callFunc F args).run Tryz.prog w = .ok (.enter F args) w) (hF : ∀ (a : Option Addr) (n c : Nat) (s : ByteArray) (w : World), Calls Tryz.prog F #[.agg #[.slice a n c, .string s]] w fun e w' => e = .returned (.bool (decide (n = 1))) ∧ Lat w w') (N G : Nat → Prop) (a : Option Addr) (n cap : Nat) (rows : List (List Value)) (L : List Wt) (w : World) (h : RowsAt w 2 a n cap rows) (hw : WtsAt w N G rows L) (hn : n ≤ 1000000) :
    Calls Tryz.prog 70 #[.slice a n cap, .func (.func F) #[] #[]] w fun e w' => ∃ r : Int, e = .returned (.int .i64 r) ∧ IxEnd L r ∧ Lat w w' := by
  have hcap2 := h.cap
  have hle2 := h.le
  have hl : L.length = n := by rw [← hw.1]; exact h.len
  unfold maxLen at hcap2
  have H := Lib.hid h; have HW := Lib.hid hw; have HL := Lib.hid hl; have HF := Lib.hid hF
  clear h hw hl hF
  go_enter Tryz.func70, Tryz.ntmps70
  go_wp2
  go_loopw [8] (fun i wr => ∃ k : Nat, k ≤ n ∧ i = .int .i64 k ∧ Hid ((∀ j, j < k → ∀ y, L[j]? = some y → one1 y = false) ∧ Lat w wr)) (fun i _ => n - (intOf i).toNat)
  case atStart => exact ⟨0, Nat.zero_le _, rfl, fun j hj => absurd hj (Nat.not_lt_zero _), Lat.refl _⟩
  case round =>
    obtain ⟨k, hk, rfl, hrel⟩ := hrel
    by_cases hlt : k < n
    · obtain ⟨b, o, rfl, hc⟩ := (H.out.keep hrel.out.2).at_ (by omega)
      have hkl : k < L.length := by rw [HL.out]; exact hlt
      obtain ⟨x, hx⟩ : ∃ x, x = L[k] := ⟨_, rfl⟩
      have hx2 : L[k]? = some x := by rw [hx]; exact List.getElem?_eq_getElem hkl
      obtain ⟨r, hr, hwt⟩ := (HW.out.keep hrel.out.2).2 k x hx2
      obtain ⟨xa, xc, rfl, hxi, _, _⟩ := hwt.ex
      have c0 := (hc k _ hr).2 0 _ rfl
      have c1 := (hc k _ hr).2 1 _ rfl
      rw [Nat.add_zero] at c0
      rw [← Nat.add_assoc] at c1
      have hcall := HF.out xa x.1.length xc (S x.2)
      obtain ⟨q, hq⟩ : ∃ q, q = decide (x.1.length = 1) := ⟨_, rfl⟩
      have hq1 : one1 x = q := hq.symm
      rw [← hq] at hcall
      obtain ⟨xn, hxn⟩ : ∃ xn, xn = x.1.length := ⟨_, rfl⟩
      obtain ⟨xs, hxs⟩ : ∃ xs, xs = S x.2 := ⟨_, rfl⟩
      rw [← hxn, ← hxs] at hcall
      rw [← hxn] at c0
      rw [← hxs] at c1
      have HX := Lib.hid hx2; have HQ := Lib.hid hq1; have HR := Lib.hid hrel.out; have HC := Lib.hid hcall
      clear hx hx2 hr hwt hxi hc hq hq1 hrel hcall hxn hxs hkl
      cases q with
      | true =>
        go_wp2_with (go_at_fn F; refine (HC.out _).mono ?_; rintro e w5 ⟨rfl, hb5⟩)
        go_ret
        exact ⟨k, rfl, .inr ⟨k, x, rfl, HX.out, HQ.out, HR.out.1⟩, HR.out.2.trans hb5⟩
      | false =>
        go_wp2_with (go_at_fn F; refine (HC.out _).mono ?_; rintro e w5 ⟨rfl, hb5⟩)
        go_roundw
        case rel => exact ⟨k + 1, by omega, by go_num, fun j hj y hy => by
          by_cases e : j = k
          · subst e
            have := HX.out.symm.trans hy
            injection this with this
            subst this
            exact HQ.out
          · exact HR.out.1 j (by omega) y hy, HR.out.2.trans hb5⟩
        case measure => simp [intOf]; omega
    · obtain rfl : k = n := by omega
      have HR := Lib.hid hrel.out
      clear hrel
      go_wp2
      go_ret
      exact ⟨-1, rfl, .inl ⟨rfl, fun j x hx => HR.out.1 j (by
        rcases Nat.lt_or_ge j k with h | h
        · exact h
        · rw [List.getElem?_eq_none (by rw [HL.out]; exact h)] at hx; cases hx) x hx⟩, HR.out.2⟩
theorem indexW (N G : Nat → Prop) (a : Option Addr) (n cap : Nat) (rows : List (List Value)) (L : List Wt) (w : World) (h : RowsAt w 2 a n cap rows) (hw : WtsAt w N G rows L) (hn : n ≤ 1000000) :
    Calls Tryz.prog 70 #[.slice a n cap, .func (.func 71) #[] #[]] w fun e w' => ∃ r : Int, e = .returned (.int .i64 r) ∧ IxEnd L r ∧ Lat w w' :=
  indexW0 _ (enters_of Tryz.func71 (by kernel_rfl) rfl) learn1_any N G a n cap rows L w h hw hn
end Go.Proofs.YtcpookgbneoilaaGreatDoor

namespace Go.Proofs.YtcpookgbneoilaaGreatDoor
open Go.ChangeShapes Go.WideShapes Go.ChangeAt Go.RowKit Go.Sort

theorem sort_fr (B : Nat) (v : Value) (zs : List Int) (w : World) (h : OwnInts w B v zs) (hl : zs.length ≤ 1000000) :
    Calls Tryz.prog 68 #[v] w fun e w' => e = .returned (.tuple #[]) ∧ OwnInts w' B v (zs.mergeSort fun x y => decide (x ≤ y)) ∧ Fr (fun i => v.ownBlock = some i) w w' := by
  obtain ⟨hlen, hor⟩ := h
  rw [List.length_map] at hor
  rcases hor with ⟨rfl, h0⟩ | ⟨g, cap, cur, rfl, hg, hh, hn, hc, hs, ht⟩
  · obtain rfl := List.eq_nil_of_length_eq_zero h0
    refine (sort_none none 0 w).mono ?_
    rintro e w' ⟨he, rfl⟩
    exact ⟨he, by rw [List.mergeSort_nil]; exact Own.nil _ _ _, Fr.refl _ _⟩
  · have hgl : g < w.heap.size := (Array.getElem?_eq_some_iff.1 hh).1
    rw [Nat.mul_one] at ht hs
    have hH : Holds (Value.int .i64) w g 0 zs.toArray := by
      intro j hj
      have hj' : j < zs.length := by simpa using hj
      refine ⟨?_, by simp [World.frozen?, hh]⟩
      have h1 : (cur.toList.take zs.length)[j]? = (zs.map encI)[j]? := by rw [ht]
      rw [List.getElem?_take_of_lt hj'] at h1
      simp only [World.cell?, hh, Nat.zero_add]
      simp only [Option.isSome_none, Bool.false_eq_true, if_false]
      rw [← Array.getElem?_toList, h1]
      simp [hj']
    refine (Tryz.slices_Sort_int g 0 cap zs w hH hgl (by omega)).mono ?_
    rintro e w' ⟨he, n, os, rfl⟩
    have hts : (zs.mergeSort fun x y => decide (x ≤ y)).length = zs.length := List.length_mergeSort _
    refine ⟨he, ⟨by simp, .inr ⟨g, cap, putCells encI 0 (zs.mergeSort fun x y => decide (x ≤ y)).toArray cur, ?_, hg, ?_, by simpa using hn, hc, by simp [putCells, hs], ?_⟩⟩, ?_⟩
    · simp
    · rw [heap_grow_old _ _ (by simpa using hgl)]
      simp [putRow, mapBlock, Sort.ahead, Array.getElem?_modify, hh, onCells]
    · rw [Nat.mul_one, List.length_map]; exact take_putI cur _ (by omega)
    · refine ⟨rfl, rfl, rfl, by simp, fun k hk hne => ?_⟩
      rw [heap_grow_old _ _ (by simp; omega)]
      have : g ≠ k := fun e => hne (by rw [e]; rfl)
      simp [putRow, mapBlock, Sort.ahead, Array.getElem?_modify, this]

theorem app_intL (wr : World) (B : Nat) {ops : Array Oper} {rest : List Oper} {o : Oper} {a : Act} {Q : Exit → Act → World → Prop}
    (hg : o.guard = none) (s x : Operand) (ho : o.op = .call { callee := .builtin .append, args := #[s, x], argTypes := #[42, 42] })
    (v : Value) (zs : List Int) (z : Int) (hs : a.eval s = v) (hown : OwnInts wr B v zs) (hx : a.eval x = .slice (some ⟨wr.heap.size, 0, none⟩) 1 1)
    (hn : zs.length < 1000000) (hB : B ≤ wr.heap.size)
    (K : ∀ v' w', OwnInts w' B v' (zs ++ [z]) → Fr (fun j => v.ownBlock = some j) wr w' → (∀ i, v'.ownBlock = some i → v.ownBlock = some i ∨ wr.heap.size ≤ i) → wpList Tryz.prog ops Q rest (a.put o.dst v') w') :
    wpList Tryz.prog ops Q (o :: rest) a (wr.alloc (.cells #[.int .i64 z] 3)) := by
  have hal : OwnInts (wr.alloc (.cells #[.int .i64 z] 3)) B v zs := Own.alloc hown _
  have hrow1 : RowAt (wr.alloc (.cells #[.int .i64 z] 3)) (some ⟨wr.heap.size, 0, none⟩) 1 1 (fun j => [Value.int .i64 z].getD j undef) := by
    refine ⟨Nat.le_refl _, by unfold maxLen; omega, fun _ => ⟨wr.heap.size, 0, rfl, fun j hj => ?_⟩⟩
    obtain rfl : j = 0 := by omega
    simp
  obtain ⟨v', w', hrun, h2, h3, h4⟩ := run_app_many (P := Tryz.prog) (wr.alloc (.cells #[.int .i64 z] 3)) B 42 o.type 3 (.int .i64 0) 8 Tryz.underlying42 info_int rfl (by decide) v _ hal (some ⟨wr.heap.size, 0, none⟩) 1 1 [.int .i64 z] rfl
    hrow1 (fun u hu => by rw [List.mem_singleton.1 hu]; rfl) (by rw [List.length_map]; omega) (by simp; omega)
  refine wpList_plain hg fun K' hK => ?_
  unfold Oper.wp execOp
  simp only [ho, resolve, invoke, builtin, Sem.run_bind, Sem.run_pure, Result.andThen_ok, List.map_toArray, List.map_cons, List.map_nil, hs, hx, hrun]
  refine hK _ _ (K v' w' (by simpa [OwnInts] using h2) ⟨h3.os, h3.tape, h3.output, ?_, fun k hk hne => ?_⟩ (fun i hi => ?_))
  · have := h3.size; simp at this; omega
  · rw [h3.block k (by simp; omega) (fun e => hne e.symm)]; exact heap_alloc_old wr _ hk
  · rcases h4 with h | h
    · exact .inl (by rw [← h]; exact hi)
    · rw [h] at hi
      injection hi with hi
      exact .inr (by rw [← hi]; simp)

def GG (G : Nat → Prop) (w wr : World) (v : Value) (i : Nat) : Prop := i < wr.heap.size ∧ (G i ∨ w.heap.size ≤ i) ∧ v.ownBlock ≠ some i
section
variable {G : Nat → Prop} {p kb tb k m : Nat} {K K' : Kn} {T : List Int} {L : List Wt} {a : Option Addr} {cap : Nat} {w w1 w2 wr wx : World} {v v' : Value}
theorem PeelIn.gg (h : PeelIn (GG G w w1 v) p kb tb k m K T L a cap w1) (hb : Lat w1 w2) : PeelIn (GG G w w2 v) p kb tb k m K T L a cap w2 :=
  (h.keep hb).grow (fun _ hi => ⟨Nat.lt_of_lt_of_le hi.1 hb.size, hi.2⟩) (fun _ hi => hi.1)
theorem PeelIn.know (h : PeelIn G p kb tb k m K T L a cap w1) (hkn : KnAt w2 kb k K') (hf : Fr (fun i => i = kb) w1 w2) (hok : WOk k m K' L) : PeelIn G p kb tb k m K' T L a cap w2 := by
  obtain ⟨rows, ho, hw⟩ := h.row
  have np : ¬ p = kb := h.nk
  exact ⟨fun i hi => Nat.lt_of_lt_of_le (h.lt i hi) hf.size, h.gp, h.gk, h.gt, h.nk, h.nt, h.nkt, hf.cell_at h.c0 np, hf.cell_at h.c1 np, hf.cell_at h.c2 np, hf.cell_at h.c3 np, hf.cell_at h.c4 np, hf.free_at (h.lt _ h.gp) h.free np,
    hkn, h.tk.fr hf (fun e => h.nkt e.symm), ⟨rows, ho.fr hf (fun i hi e => (h.own i hi).2.2.1 e), hw.fr hf (fun i _ e _ => .inr (.inl e))⟩, h.own, hok, h.most⟩
theorem PeelIn.other (h : PeelIn (GG G w w1 v) p kb tb k m K T L a cap w1) (hf : Fr (fun i => v.ownBlock = some i) w1 w2) (hloc : ∀ i, v'.ownBlock = some i → v.ownBlock = some i ∨ w1.heap.size ≤ i) : PeelIn (GG G w w2 v') p kb tb k m K T L a cap w2 := by
  have h2 := h.fr hf (fun i hi e => hi.2.2 e)
  refine PeelIn.grow ⟨h2.lt, h2.gp, h2.gk, h2.gt, h2.nk, h2.nt, h2.nkt, h2.c0, h2.c1, h2.c2, h2.c3, h2.c4, h2.free, h2.kn, h2.tk, h2.row, h2.own, h2.ok, h2.most⟩ (fun i hi => ⟨Nat.lt_of_lt_of_le hi.1 hf.size, hi.2.1, fun e => ?_⟩) (fun _ hi => hi.1)
  rcases hloc i e with h3 | h3
  · exact hi.2.2 h3
  · have := hi.1; omega
theorem PeelIn.left (h : PeelIn (GG G w wr v) p kb tb k m K T L a cap wr) (hv : ∀ i, v.ownBlock = some i → i < wr.heap.size) (hw : w.heap.size ≤ wr.heap.size) (hl : Lat wr wx) {la : Option Addr} {ll lc : Nat} {rows : List (List Value)} (ho : OwnR wx wr.heap.size 102 2 (.slice la ll lc) rows)
    (hws : WtsAt wx (fun i => (Value.slice la ll lc).ownBlock = some i) (fun i => wr.heap.size ≤ i) rows (leftW K L)) (hll : (leftW K L).length = ll) :
    PeelIn (GG G w (wx.setCell ⟨p, 4, none⟩ (.slice la ll lc)) v) p kb tb k m K T (leftW K L) la lc (wx.setCell ⟨p, 4, none⟩ (.slice la ll lc)) := by
  have hs : (wx.setCell ⟨p, 4, none⟩ (.slice la ll lc)).heap.size = wx.heap.size := by simp [World.setCell]
  have hp := h.lt _ h.gp
  have hkb := h.lt _ h.gk
  have htb := h.lt _ h.gt
  have hf : Fr (fun i => i = p) wx (wx.setCell ⟨p, 4, none⟩ (.slice la ll lc)) := Fr.set _ _ _ rfl
  have h2 := h.keep hl
  have hlz := hl.size
  have hup : ∀ i, GG G w wr v i → GG G w (wx.setCell ⟨p, 4, none⟩ (.slice la ll lc)) v i := fun i hi => ⟨by rw [hs]; exact Nat.lt_of_lt_of_le hi.1 hl.size, hi.2⟩
  have hlen : (leftW K L).length ≤ L.length := by
    unfold leftW
    refine Nat.le_trans (List.length_filter_le _ _) ?_
    rw [List.length_map]; exact Nat.le_refl _
  have hob := OwnR.lt ho
  have c : ∀ j x, j ≠ 4 → wx.cell? ⟨p, j, none⟩ = some x → (wx.setCell ⟨p, 4, none⟩ (.slice la ll lc)).cell? ⟨p, j, none⟩ = some x := fun j x hj hx => by
    rw [World.cell?_setCell_other _ _ _ _ (by intro e; injection e with _ e _; exact hj e.symm)]; exact hx
  refine ⟨fun i hi => hi.1, hup _ h.gp, hup _ h.gk, hup _ h.gt, h.nk, h.nt, h.nkt, c _ _ (by decide) h2.c0, c _ _ (by decide) h2.c1, c _ _ (by decide) h2.c2, c _ _ (by decide) h2.c3, by rw [hll]; exact World.cell?_setCell_same _ _ _ h2.c4, by rw [World.frozen?_setCell]; exact h2.free,
    h2.kn.fr hf (fun e => h.nk e.symm), h2.tk.fr hf (fun e => h.nt e.symm), ⟨rows, ?_, ?_⟩, fun i hi => ?_, h.ok.left, Nat.le_trans hlen h.most⟩
  · rw [hll]; exact (ho.base (Nat.zero_le _)).fr hf (fun i hi e => by have := (hob i hi).1; omega)
  · rw [hll]
    refine (hws.fr hf (fun i _ e hi => ?_)).off (fun i _ hi e => ?_) (fun i hi hi2 hn => ⟨hi, ?_, fun e => ?_⟩)
    · omega
    · rcases e with e | e | e | e
      · omega
      · omega
      · omega
      · exact e
    · exact .inr (Nat.le_trans hw hi2)
    · have := hv i e; omega
  · rw [hll] at hi
    obtain ⟨g1, g2⟩ := hob i hi
    refine ⟨⟨by rw [hs]; exact g2, .inr (by omega), fun e => ?_⟩, by omega, by omega, by omega⟩
    have := hv i e
    omega
end
end Go.Proofs.YtcpookgbneoilaaGreatDoor

namespace Go.Proofs.YtcpookgbneoilaaGreatDoor

section
variable {P : Program} {md : Region.Mode} {ops : Array Oper} {Q : Exit → Act → World → Prop} {S : Array Bool → World → Prop} {S1 : World → Prop}

def wpGate (P : Program) (md : Region.Mode) (ops : Array Oper) (Q : Exit → Act → World → Prop) (S : Array Bool → World → Prop) : Nat → Array Bool → Act → World → Prop
  | 0, listed, a, w => Region.ready md ops listed = [] ∧ Q .normal a w
  | n + 1, listed, a, w =>
    (Region.ready md ops listed = [] → Q .normal a w) ∧
    ∀ i ∈ Region.ready md ops listed, wpOp P ops Q i (fun a' w' => S (listed.setIfInBounds i true) w' ∧ wpGate P md ops Q S n (listed.setIfInBounds i true) a' w') a w
theorem any_of_gate : ∀ (n : Nat) (listed : Array Bool) (a : Act) (w : World), wpGate P md ops Q S n listed a w → wpAny P md ops Q n listed a w
  | 0, _, _, _, h => h
  | n + 1, _, _, _, h => ⟨h.1, fun i hi => wpOp_mono (fun a' w' h' => any_of_gate n _ a' w' h'.2) (h.2 i hi)⟩

theorem gate_first {i : Nat} {oi : Oper} {v : Value} {I : Array Bool → Prop} (hi : ops[i]? = some oi) (hsel : ∀ (j : Nat) (o : Oper) cs b, ops[j]? = some o → o.op ≠ .select cs b)
    (hQ : ∀ c a w, Q (.panic c) (a.put oi.dst v) w → Q (.panic c) a w)
    (hset : ∀ l w, S l w → S (l.setIfInBounds i true) w) (hun : ∀ (l : Array Bool) j w, j ≠ i → S ((l.setIfInBounds i true).setIfInBounds j true) w → S (l.setIfInBounds j true) w)
    (hI : ∀ (l : Array Bool) j, I l → i ∈ Region.ready md ops l → j ∈ Region.ready md ops l → j ≠ i → I (l.setIfInBounds j true)) (h1 : ∀ l w, I l → S l w → S1 w) :
    ∀ (n : Nat) (listed : Array Bool) (a : Act) (w : World), I listed →
      (∀ j oj, ops[j]? = some oj → j ≠ i → listed.getD j true = false → (∀ e ∈ oj.after, Region.binds md e = true → e.on ≠ i) → oi.apart ops oj = true) →
      i ∈ Region.ready md ops listed → YieldsIf P ops S1 oi v a → S listed w →
      wpGate P md ops Q S n (listed.setIfInBounds i true) (a.put oi.dst v) w → wpGate P md ops Q S (n + 1) listed a w := by
  intro n
  induction n with
  | zero =>
    intro listed a w hil _ hr hy hS H
    refine ⟨fun h => (by rw [h] at hr; cases hr), fun j hj => ?_⟩
    by_cases hji : j = i
    · subst hji; exact hy.wpOp hi (h1 _ _ hil hS) ⟨hset _ _ hS, H⟩
    · have h2 := ready_mono hj hji
      rw [H.1] at h2
      cases h2
  | succ n ih =>
    intro listed a w hil hfree hr hy hS H
    refine ⟨fun h => (by rw [h] at hr; cases hr), fun j hj => ?_⟩
    by_cases hji : j = i
    · subst hji; exact hy.wpOp hi (h1 _ _ hil hS) ⟨hset _ _ hS, H⟩
    · have hH := H.2 j (ready_mono hj hji)
      obtain ⟨hjun, oj, hoj, hall⟩ := mem_ready.1 hj
      have hnot : ∀ e ∈ oj.after, Region.binds md e = true → e.on ≠ i := fun e he hb heq => by
        have h3 := hall e he hb
        have h0 := (mem_ready.1 hr).1
        rw [heq] at h3
        rcases Nat.lt_or_ge i listed.size with h' | h'
        · simp [h'] at h0 h3; rw [h0] at h3; cases h3
        · simp [Array.getElem?_eq_none h'] at h3
      have h2 := wpOp_putIf hoj (hfree j oj hoj hji hjun hnot) (fun cs b => hsel i oi cs b hi) (fun cs b => hsel j oj cs b hoj) hQ hy hH
      have hfree' : ∀ k ok, ops[k]? = some ok → k ≠ i → (listed.setIfInBounds j true).getD k true = false →
          (∀ e ∈ ok.after, Region.binds md e = true → e.on ≠ i) → oi.apart ops ok = true := fun k ok hk hki hunl hno => by
        refine hfree k ok hk hki ?_ hno
        by_cases hjk : j = k
        · subst hjk; exact hjun
        · rw [getD_set_ne true hjk] at hunl; exact hunl
      refine wpOp_mono (fun a' w' h3 => ?_) h2
      have hSj := hun listed j w' hji h3.2.1
      refine ⟨hSj, ih (listed.setIfInBounds j true) a' w' (hI _ _ hil hr hj hji) hfree' (ready_mono hr (Ne.symm hji)) h3.1 hSj ?_⟩
      rw [Array.setIfInBounds_comm _ _ hji]
      exact h3.2.2

abbrev FG (F G : World → Prop) (g : Nat) (l : Array Bool) (w : World) : Prop := F w ∧ (l.getD g true = false → G w)
variable {F G : World → Prop} {g : Nat}
theorem FG.set {i : Nat} (hig : i ≠ g) (l : Array Bool) (w : World) (h : FG F G g l w) : FG F G g (l.setIfInBounds i true) w := ⟨h.1, fun hg => h.2 (by rwa [getD_set_ne true hig] at hg)⟩
theorem FG.un {i : Nat} (hig : i ≠ g) (l : Array Bool) (j : Nat) (w : World) (hji : j ≠ i) (h : FG F G g ((l.setIfInBounds i true).setIfInBounds j true) w) : FG F G g (l.setIfInBounds j true) w :=
  ⟨h.1, fun hg => h.2 (by rw [← Array.setIfInBounds_comm _ _ hji, getD_set_ne true hig]; exact hg)⟩
theorem FG.past {l : Array Bool} {w : World} (hl : l.getD g true = true) (hF : F w) : FG F G g l w := ⟨hF, fun h => by rw [hl] at h; cases h⟩
theorem gate_takeF {i : Nat} {oi : Oper} {v : Value} {n : Nat} {listed : Array Bool} {a : Act} {w : World} (hi : ops[i]? = some oi)
    (hs : Region.noSelect ops = true) (hf : Region.free md ops listed i = true) (hr : (Region.ready md ops listed).contains i = true)
    (hQ : ∀ c a w, Q (.panic c) (a.put oi.dst v) w → Q (.panic c) a w) (hig : i ≠ g) (hS : FG F G g listed w) (hy : YieldsIf P ops F oi v a)
    (h : wpGate P md ops Q (FG F G g) n (listed.setIfInBounds i true) (a.put oi.dst v) w) : wpGate P md ops Q (FG F G g) (n + 1) listed a w :=
  gate_first (I := fun _ => True) hi (Region.noSelect_spec hs) hQ (FG.set hig) (fun l j w hji => FG.un hig l j w hji) (fun _ _ _ _ _ _ => trivial) (fun _ _ _ h => h.1) n listed a w trivial (Region.free_spec hi hf) (by simpa using hr) hy hS h
def waitsB (md : Region.Mode) (ops : Array Oper) (g i : Nat) : Bool := match ops[g]? with
  | some og => og.after.any fun e => Region.binds md e && e.on == i
  | none => false
theorem gate_takeG {i : Nat} {oi : Oper} {v : Value} {n : Nat} {listed : Array Bool} {a : Act} {w : World} (hi : ops[i]? = some oi)
    (hs : Region.noSelect ops = true) (hf : Region.free md ops listed i = true) (hr : (Region.ready md ops listed).contains i = true)
    (hQ : ∀ c a w, Q (.panic c) (a.put oi.dst v) w → Q (.panic c) a w) (hig : i ≠ g) (hw : waitsB md ops g i = true) (hgl : listed.getD g true = false) (hS : FG F G g listed w) (hy : YieldsIf P ops (fun w => F w ∧ G w) oi v a)
    (h : wpGate P md ops Q (FG F G g) n (listed.setIfInBounds i true) (a.put oi.dst v) w) : wpGate P md ops Q (FG F G g) (n + 1) listed a w := by
  refine gate_first (S1 := fun w => F w ∧ G w) (I := fun l => l.getD g true = false) hi (Region.noSelect_spec hs) hQ (FG.set hig) (fun l j w hji => FG.un hig l j w hji) (fun l j hl hir hjr hji => ?_) (fun l w hl h => ⟨h.1, h.2 hl⟩) n listed a w hgl (Region.free_spec hi hf) (by simpa using hr) hy hS h
  have hjg : j ≠ g := by
    rintro rfl
    obtain ⟨_, oj, hoj, hall⟩ := mem_ready.1 hjr
    unfold waitsB at hw
    rw [hoj] at hw
    obtain ⟨e, he, hb⟩ := Array.any_eq_true'.1 hw
    simp only [Bool.and_eq_true, beq_iff_eq] at hb
    have h3 := hall e he hb.1
    have h0 := (mem_ready.1 hir).1
    rw [hb.2] at h3
    rcases Nat.lt_or_ge i l.size with h' | h'
    · simp [h'] at h0 h3; rw [h0] at h3; cases h3
    · simp [Array.getElem?_eq_none h'] at h3
  rw [getD_set_ne true hjg]; exact hl
theorem gate_one {i n : Nat} {o : Oper} {listed : Array Bool} {a : Act} {w : World} (hr : Region.ready md ops listed = [i]) (hi : ops[i]? = some o)
    (h : ∀ K : Act → World → Prop, (∀ a' w', FG F G g (listed.setIfInBounds i true) w' → wpGate P md ops Q (FG F G g) n (listed.setIfInBounds i true) a' w' → K a' w') →
      if Region.wanted o (yielded ops a.tmps) = true then Oper.wp P o a w K Q else K (a.put o.dst undef) w) : wpGate P md ops Q (FG F G g) (n + 1) listed a w := by
  refine ⟨(fun h0 => by rw [hr] at h0; cases h0), (fun j hj => ?_)⟩
  rw [hr, List.mem_singleton] at hj
  subst hj
  have hh := h (fun a' w' => FG F G g (listed.setIfInBounds j true) w' ∧ wpGate P md ops Q (FG F G g) n (listed.setIfInBounds j true) a' w') fun a' w' h1 h2 => ⟨h1, h2⟩
  unfold wpOp
  simp only [hi]
  split
  · rename_i hw
    rw [if_pos hw] at hh
    exact .inl hh
  · rename_i hw
    rw [if_neg hw] at hh
    exact hh
theorem gate_done {listed : Array Bool} {a : Act} {w : World} (hr : Region.ready md ops listed = []) (h : Q .normal a w) : ∀ n, wpGate P md ops Q S n listed a w
  | 0 => ⟨hr, h⟩
  | _ + 1 => ⟨fun _ => h, by rw [hr]; simp⟩
theorem wp_region_gate {id : Nat} {a : Act} {w : World} (F G : World → Prop) (g : Nat) (hm : P.follows .mixedOrders = true)
    (h : wpGate P .any ops Q (FG F G g) ops.size (Array.replicate ops.size false) a w.drew) : (Code.region id ops true).wp P Q a w :=
  wp_region_any hm (any_of_gate _ _ _ _ h)
end
end Go.Proofs.YtcpookgbneoilaaGreatDoor

namespace Go.Proofs.YtcpookgbneoilaaGreatDoor
open Go.ChangeShapes Go.WideShapes Go.ChangeAt Go.RowKit

theorem appR_step {P : Program} (wr : World) (B : Nat) {ops : Array Oper} {o : Oper} {a : Act} {K : Act → World → Prop} {Q : Exit → Act → World → Prop} {E : Prop}
    (hg : o.guard = none) (s x : Operand) (t : TypeId) (ho : o.op = .call { callee := .builtin .append, args := #[s, x], argTypes := #[t, t] })
    (e : TypeId) (z : Value) (size bytes : Nat) (ht : P.underlying t = some (.slice e)) (hinfo : (P.info? e).map (fun i => (i.zero, i.size, i.bytes)) = some (some z, size, bytes)) (hz : z.cells.size = size) (hs0 : 0 < size) (hby : bytes ≤ 64)
    (v : Value) (xs : List (List Value)) (r : Array Value) (hs : a.eval s = v) (hown : OwnR wr B e size v xs) (hr : r.size = size) (hx : a.eval x = .slice (some ⟨wr.heap.size, 0, none⟩) 1 1) (hu : ∀ u ∈ r.toList, u.oneCell' = true)
    (hn : xs.length < 1000000000000) (hB : B ≤ wr.heap.size)
    (h : ∀ g cap w', OwnR w' B e size (.slice (some ⟨g, 0, none⟩) (xs.length + 1) cap) (xs ++ [r.toList]) → Below B wr w' → AppStep wr w' v (.slice (some ⟨g, 0, none⟩) (xs.length + 1) cap) → K (a.put o.dst (.slice (some ⟨g, 0, none⟩) (xs.length + 1) cap)) w') :
    if Region.wanted o (yielded ops a.tmps) = true then Oper.wp P o a (wr.alloc (.cells r e)) K Q else E := by
  obtain ⟨i0, hi, hz0, hz1, hz2⟩ := info_parts hinfo
  obtain ⟨hsz, hown⟩ := hown
  refine step_append_lies (wr.alloc (.cells r e)) hg s x t ho B e i0 z size bytes ht hi hz0 hz1 hz2 hz hs0 v xs.length xs.flatten hs (World.ownsRow.alloc hown _) ⟨wr.heap.size, 0, none⟩ 1 1 r.toList hx (by simp [hr]) ?_ hu (by omega) ?_ ?_ ?_ _ rfl ?_
  · intro j u' hj
    rw [Addr.add_lit, World.cell?_alloc_at _ _ _ _ rfl, Nat.zero_add, ← Array.getElem?_toList]; exact hj
  · unfold maxLen; omega
  · calc (xs.length + 1) * bytes ≤ (xs.length + 1) * 64 := Nat.mul_le_mul_left _ hby
      _ ≤ 140737488355328 := by omega
  · simp; omega
  · intro g cap w' hown' hgrow hloc _
    refine h g cap w' ⟨fun r' hr' => ?_, ?_⟩ ?_ ⟨fun k hk hne => ?_, ?_, ?_⟩
    · rcases List.mem_append.1 hr' with h | h
      · exact hsz r' h
      · rw [List.mem_singleton.1 h]; simpa using hr
    · rw [List.length_append, List.flatten_append, List.flatten_singleton]; exact hown'
    · refine Below.grown (Below.alloc (Below.refl B wr) hB _) hgrow (by simp; omega) ?_
      intro k hk
      exact (World.ownsRow.lt hown k hk).1
    · rw [hgrow.block k (by simp; omega) hne]; exact heap_alloc_old wr _ hk
    · have := hgrow.size; simp at this; omega
    · rcases hloc with hl | hl
      · exact .inl hl.symm
      · exact .inr ⟨g, rfl, by rw [hl]; simp⟩
end Go.Proofs.YtcpookgbneoilaaGreatDoor

namespace Go.Proofs.YtcpookgbneoilaaGreatDoor
open Go.ChangeShapes Go.WideShapes Go.ChangeAt Go.RowKit

structure BX (wx : World) (X : Nat) (u v : Value) (W : World) : Prop where
  lat : Lat wx W
  lo : wx.heap.size ≤ X
  lt : X < W.heap.size
  c0 : W.cell? ⟨X, 0, none⟩ = some u
  c1 : W.cell? ⟨X, 1, none⟩ = some v
  f0 : W.frozen? ⟨X, 0, none⟩ = false
  f1 : W.frozen? ⟨X, 1, none⟩ = false
theorem BX.new (wx : World) (u v : Value) (t : TypeId) : BX wx wx.heap.size u v (wx.alloc (.cells #[u, v] t)) := ⟨Lat.alloc _ _, Nat.le_refl _, by simp, by simp, by simp, by simp, by simp⟩
theorem BX.keep {wx W W' : World} {X : Nat} {u v : Value} (h : BX wx X u v W) (hb : Lat W W') : BX wx X u v W' :=
  ⟨h.lat.trans hb, h.lo, Nat.lt_of_lt_of_le h.lt hb.size, hb.cell_at h.c0, hb.cell_at h.c1, hb.free_at h.lt h.f0, hb.free_at h.lt h.f1⟩
theorem BX.put {wx W : World} {X : Nat} {u v : Value} (h : BX wx X u v W) (u' v' : Value) : BX wx X u' v' ((W.setCell ⟨X, 0, none⟩ u').setCell ⟨X, 1, none⟩ v') := by
  have q := two_put h.c0 h.c1 u' v'
  exact ⟨(h.lat.setCell (p := ⟨X, 0, none⟩) h.lo _).setCell (p := ⟨X, 1, none⟩) h.lo _, h.lo, by simp [World.setCell]; exact h.lt, q.1, q.2, by rw [World.frozen?_setCell, World.frozen?_setCell]; exact h.f0, by rw [World.frozen?_setCell, World.frozen?_setCell]; exact h.f1⟩
theorem info_wait : (Tryz.prog.info? 102).map (fun i => (i.zero, i.size, i.bytes)) = some (some (.agg #[.slice none 0 0, .string { data := #[] }]), 2, 40) := by kernel_rfl

theorem leftW_succ (K : Kn) (L : List Wt) (j : Nat) (x : Wt) (h : L[j]? = some x) : leftW K (L.take (j + 1)) = if some1 (wout K x) = true then leftW K (L.take j) ++ [wout K x] else leftW K (L.take j) := by
  unfold leftW
  rw [List.take_add_one, h, List.map_append, List.filter_append]
  cases hs : some1 (wout K x) <;> simp [hs]
theorem leftW_len (K : Kn) (L : List Wt) : (leftW K L).length ≤ L.length := by
  unfold leftW
  refine Nat.le_trans (List.length_filter_le _ _) ?_
  rw [List.length_map]; exact Nat.le_refl _

theorem WtsAt.app {wr W1 w6 : World} {u4 v6 : Value} {B : Nat} {rs : List (List Value)} {L : List Wt} {ya : Option Addr} {yn yc : Nat} {yi : List Int} {yd : Bts} (hws : WtsAt wr (fun i => u4.ownBlock = some i) (fun i => B ≤ i) rs L) (hlw : Lat wr W1) (hol : ∀ i, u4.ownBlock = some i → B ≤ i ∧ i < wr.heap.size)
    (hn : yn = yi.length) (hyi : IntsAt W1 ya yn yc yi) (hyb : ∀ b o, ya = some ⟨b, o, none⟩ → wr.heap.size ≤ b) (hB : B ≤ wr.heap.size) (hs6 : AppStep W1 w6 u4 v6) (hb6 : Below B W1 w6) :
    WtsAt w6 (fun i => v6.ownBlock = some i) (fun i => B ≤ i) (rs ++ [[.slice ya yn yc, .string (S yd)]]) (L ++ [(yi, yd)]) := by
  subst hn
  have hf : Fr (fun i => u4.ownBlock = some i) W1 w6 := ⟨hb6.os, hb6.tape, hb6.output, hs6.size, fun k hk hne => hs6.block k hk (fun e => hne e.symm)⟩
  have hv6 : ∀ i, i < W1.heap.size → v6.ownBlock = some i → u4.ownBlock = some i := fun i hi e => by
    rcases hs6.loc with h | ⟨g, h, hg⟩
    · rw [← h]; exact e
    · rw [h] at e; injection e with e; omega
  have h1 : WtsAt W1 (fun i => u4.ownBlock = some i ∨ v6.ownBlock = some i) (fun i => B ≤ i) rs L := (hws.keep hlw).off (fun i hi _ e => e.elim id (hv6 i hi)) (fun i _ hi _ => hi)
  have h2 := h1.push (r := [.slice ya yi.length yc, .string (S yd)]) (x := (yi, yd)) ⟨ya, yc, rfl, hyi, fun hn b o e h => by
    have hb := hyb b o e
    rcases h with h | h
    · have := (hol b h).2; omega
    · have := (hol b (hv6 b (hyi.blk hn e) h)).2; omega, fun hn b o e => Nat.le_trans hB (hyb b o e)⟩
  exact (h2.fr hf (fun i _ e _ => .inl e)).off (fun i _ _ e => .inr e) (fun i _ e _ => e)
def lrnK (k : Nat) (K : Kn) (L : List Wt) : Kn := (learnF (k + 1) K L []).1
def lrnL (k : Nat) (K : Kn) (L : List Wt) : List Wt := (learnF (k + 1) K L []).2.1
def lrnO (k : Nat) (K : Kn) (L : List Wt) : List Int := ((learnF (k + 1) K L []).2.2).mergeSort fun x y => decide (x ≤ y)

set_option maxHeartbeats 4000000 in
set_option maxRecDepth 100000 in
theorem learn_any (G : Nat → Prop) (p k m : Nat) (K : Kn) (T : List Int) (L : List Wt) (w : World) (h : PeelO G p k m K T L w) (hk : k ≤ 16) (hm : m ≤ 8) :
    Calls Tryz.prog 48 #[.pointer (some ⟨p, 0, none⟩)] w fun e w' => ∃ oa oc, e = .returned (.slice oa (lrnO k K L).length oc) ∧ IntsAt w' oa (lrnO k K L).length oc (lrnO k K L) ∧ PeelStep G p k m (lrnK k K L) T (lrnL k K L) w w' := by
  obtain ⟨kb, tb, a0, cap0, h⟩ := h
  have hstart : PeelIn (GG G w w (.slice none 0 0)) p kb tb k m K T L a0 cap0 w := h.grow (fun i hi => ⟨h.lt i hi, .inl hi, by simp [Value.ownBlock]⟩) (fun _ hi => hi.1)
  obtain ⟨R, hR⟩ : ∃ R, R = learnF (k + 1) K L [] := ⟨_, rfl⟩
  have hu := unkC_le K k
  have HG : Hid (G p) := h.gp
  have HMP : Hid (w.cell? ⟨p, 2, none⟩ = some (.map (some kb)) ∧ w.cell? ⟨p, 3, none⟩ = some (.map (some tb))) := ⟨h.c2, h.c3⟩
  have HGK : Hid (G kb) := h.gk
  have HS := Lib.hid hstart; have HR := Lib.hid hR; have HU : Hid (unkC K k < k + 1) := Nat.lt_succ_of_le hu
  clear h hstart hR hu
  go_enter Tryz.func48, Tryz.ntmps48
  go_wp2
  go_loopg [3] (k + 1) (fun f v wr => ∃ (K1 : Kn) (L1 : List Wt) (out : List Int) (a : Option Addr) (cap : Nat), Hid (unkC K1 k < f ∧ learnF f K1 L1 out = R ∧ OwnInts wr w.heap.size v out ∧ out.length + unkC K1 k ≤ k ∧ (∀ z ∈ out, 0 ≤ z ∧ z < (k : Int)) ∧ Fr G w wr ∧ PeelIn (GG G w wr v) p kb tb k m K1 T L1 a cap wr))
  case atStart => exact ⟨K, L, [], a0, cap0, HU.out, HR.out.symm, Own.nil _ _ _, by have := HU.out; simp; omega, by simp, Fr.refl _ _, HS.out⟩
  case round =>
    obtain ⟨K1, L1, out, a, cap, hrel⟩ := hrel
    obtain ⟨hu, hlf, hown, hol, hoz, hfr, hp⟩ := hrel.out
    obtain ⟨f, rfl⟩ : ∃ f, gk = f + 1 := ⟨gk - 1, by omega⟩
    obtain ⟨n, hn⟩ : ∃ n, n = L1.length := ⟨_, rfl⟩
    have hn60 : n ≤ 60 := by have := hp.most; have := hp.tk.most; omega
    obtain ⟨rows, hro, hrw⟩ := hp.row
    obtain ⟨a', cap', he, hat⟩ := OwnR.slice hro (show rows.length = n by rw [hrw.1, hn])
    injection he with e1 e2 e3
    subst e1
    subst e3
    have hcl := hat.cap
    have hcle := hat.le
    unfold maxLen at hcl
    have c4 := hp.c4
    have c2 := hp.c2
    have fp := hp.free
    rw [← hn] at c4
    have HUU := Lib.hid hu; have HLF := Lib.hid hlf; have HOW := Lib.hid hown; have HOL := Lib.hid hol; have HOZ := Lib.hid hoz; have HFR := Lib.hid hfr; have HP := Lib.hid hp; have HN := Lib.hid hn; have HRW := Lib.hid hrw; have HAT := Lib.hid hat; have HC2 := Lib.hid c2; have HC4 := Lib.hid c4; have HFP := Lib.hid fp
    clear hrel hu hlf hown hol hoz hfr hp hn hro hrw hat e2 c2 fp
    obtain ⟨wo, hwo⟩ : ∃ wo : World, wo = wr := ⟨_, rfl⟩
    subst hwo
    go_wp2
    go_loopw [4, 13] (fun v i wx => ∃ j : Nat, j ≤ n ∧ i = .int .i64 j ∧ Hid (Lat wo wx ∧ ∃ rs, OwnR wx wo.heap.size 102 2 v rs ∧ WtsAt wx (fun i => v.ownBlock = some i) (fun i => wo.heap.size ≤ i) rs (leftW K1 (L1.take j)))) (fun _ i _ => n - (intOf i).toNat)
    case atStart => exact ⟨0, Nat.zero_le _, rfl, Lat.refl _, [], OwnR.nil _ _ _ _, WtsAt.nil _ _ _⟩
    case round =>
      obtain ⟨j, hj, rfl, hrel⟩ := hrel
      obtain ⟨hlat, rs, hor, hws⟩ := hrel.out
      by_cases hlt : j < n
      · obtain ⟨b, o, rfl, hcell⟩ := (HAT.out.keep hlat).at_ (by omega)
        have hjl : j < L1.length := by rw [← HN.out]; exact hlt
        obtain ⟨x, hx⟩ : ∃ x, x = L1[j] := ⟨_, rfl⟩
        have hx2 : L1[j]? = some x := by rw [hx]; exact List.getElem?_eq_getElem hjl
        have hxm : x ∈ L1 := by rw [hx]; exact List.getElem_mem hjl
        have hls := leftW_succ K1 L1 j x hx2
        have hrn : rs.length ≤ j := by
          rw [hws.1]
          refine Nat.le_trans (leftW_len _ _) ?_
          rw [List.length_take]; omega
        obtain ⟨r, hr, hwt⟩ := (HRW.out.fr (Fr.lat hlat : Fr (fun _ => False) wo wr) (fun _ _ e => e.elim)).2 j x hx2
        obtain ⟨xa, xc, rfl, hxi, _, _⟩ := hwt.ex
        have c0 := (hcell j _ hr).2 0 _ rfl
        have c1 := (hcell j _ hr).2 1 _ rfl
        rw [Nat.add_zero] at c0
        rw [← Nat.add_assoc] at c1
        have hkw := HP.out.kn.keep hlat
        have hc2w := hlat.cell_at HC2.out
        have hw0 := HP.out.ok.wo hxm
        have hx16 := HP.out.ok.len x hxm
        have hxo := HP.out.ok.of x hxm
        have hxd := HP.out.ok.data x hxm
        have hkk := HP.out.ok.kn
        obtain ⟨xi, xd⟩ := x
        simp only at c0 c1 hxi hx16 hxo hxd
        obtain ⟨yi, yd, hy⟩ : ∃ yi yd, wout K1 (xi, xd) = (yi, yd) := ⟨_, _, rfl⟩
        have hwc : ∀ W, Lat wr W → Calls Tryz.prog 69 #[.pointer (some ⟨p, 0, none⟩), .agg #[.slice xa xi.length xc, .string (S xd)]] W fun e w' => ∃ a' c', e = .returned (.agg #[.slice a' yi.length c', .string (S yd)]) ∧ IntsAt w' a' yi.length c' yi ∧ (∀ b o, a' = some ⟨b, o, none⟩ → W.heap.size ≤ b) ∧ Lat W w' := fun W hW => by
          have := without_any p kb k m K1 xa xi.length xc xi xd W (hW.cell_at hc2w) (hkw.keep hW) hk (hxi.keep hW) (by omega) hxo hkk hxd hm
          rw [hy] at this; exact this
        rw [hy] at hls hw0
        obtain ⟨xn, hxn⟩ : ∃ xn, xn = xi.length := ⟨_, rfl⟩
        obtain ⟨yn, hyn⟩ : ∃ yn, yn = yi.length := ⟨_, rfl⟩
        rw [← hxn, ← hyn] at hwc
        rw [← hxn] at c0
        have hs1 : some1 (yi, yd) = decide (0 < yn) := by rw [hyn]; rfl
        rw [hs1] at hls
        have hbx := BX.new wr (.slice xa xn xc) (.string (S xd)) 102
        have HLAT := Lib.hid hlat; have HOR := Lib.hid hor; have HWS := Lib.hid hws; have HLS := Lib.hid hls; have HRN := Lib.hid hrn; have HWC := Lib.hid hwc; have HBX := Lib.hid hbx; have HYN := Lib.hid hyn
        have i1 : (0 : Int) ≤ (j : Int) := by omega
        have i2 : (j : Int) < (n : Int) := by omega
        clear hrel hlat hor hws hcell hjl hx hx2 hxm hls hrn hr hwt hxi hkw hc2w hw0 hx16 hxo hxd hkk hy hwc hxn hyn hs1 hbx
        go_upto_region 6 with fail
        obtain ⟨W0, hW0⟩ : ∃ W0, W0 = wr.alloc (.cells #[.slice xa xn xc, .string (S xd)] 102) := ⟨_, rfl⟩
        have hb0 := HBX.out
        rw [← hW0] at hb0
        rw [← hW0]
        obtain ⟨X, hX⟩ : ∃ X, X = wr.heap.size := ⟨_, rfl⟩
        rw [← hX] at hb0
        rw [← hX]
        have q0 := hb0.c0
        have q1 := hb0.c1
        have HB0 := Lib.hid hb0
        have HX := Lib.hid hX
        clear hW0 HBX hb0 c0 c1 hX
        go_upto_region 7 with (go_at_call 69; refine (HWC.out W0 HB0.out.lat).mono ?_; rintro e w5 ⟨ya, yc, rfl, hyi, hyb, hb5⟩; have h5 := HB0.out.keep hb5; have t0 := h5.c0; have t1 := h5.c1; have t2 := h5.f0; have t3 := h5.f1)
        obtain ⟨W1, hW1⟩ : ∃ W1, W1 = (w5.setCell ⟨X, 0, none⟩ (.slice ya yn yc)).setCell ⟨X, 1, none⟩ (.string (S yd)) := ⟨_, rfl⟩
        have hb1 := h5.put (.slice ya yn yc) (.string (S yd))
        have hX0 : X < W0.heap.size := HB0.out.lt
        have hfx : Fr (fun i => i = X) w5 W1 := by rw [hW1]; exact (Fr.set (S := fun i => i = X) w5 ⟨X, 0, none⟩ _ rfl).then_set ⟨X, 1, none⟩ _ (.inl rfl)
        have hyi1 : IntsAt W1 ya yn yc yi := hyi.fr hfx (fun hn b o e h => by have := hyb b o e; omega)
        rw [← hW1] at hb1
        rw [← hW1]
        have hlw := hb1.lat
        have hwl : wo.heap.size ≤ wr.heap.size := HLAT.out.size
        have hol := HOR.out.lt
        have q0 := hb1.c0
        have q1 := hb1.c1
        have HB1 := Lib.hid hb1; have HYI := Lib.hid hyi1; have HYB := Lib.hid hyb; have HLW := Lib.hid hlw; have HOL := Lib.hid hol; have HX0 := Lib.hid hX0
        clear hW1 hb1 hfx hyi1 hyi hyb hb5 h5 t0 t1 t2 t3 hlw hol hX0
        by_cases hy0 : 0 < yn
        · have d0 : decide ((0 : Int) < (yn : Int)) = true := decide_eq_true (by omega)
          have hls : leftW K1 (L1.take (j + 1)) = leftW K1 (L1.take j) ++ [(yi, yd)] := by rw [HLS.out, decide_eq_true hy0, if_pos rfl]
          have HLS2 := Lib.hid hls
          have hrl : rs.length < 1000000000000 := by have := HRN.out; omega
          have HRL := Lib.hid hrl
          have hsz : wo.heap.size ≤ W1.heap.size := Nat.le_trans hwl HLW.out.size
          have HSZ := Lib.hid hsz
          clear hls hrl hsz HLS
          go_wp2_with (at_builtin; refine appR W1 wo.heap.size rfl (.tmp 24) (.tmp 26) 93 rfl 102 _ 2 40 Tryz.underlying93 info_wait rfl (by decide) (by decide) _ _ _ rfl (HOR.out.keep HLW.out) rfl rfl (fun u hu => by simp at hu; rcases hu with rfl | rfl <;> rfl) HRL.out HSZ.out ?_; intro v6 w6 hown6 hb6 hs6)
          have hs7 : AppStep W1 w6 u4 v6 := hs6
          have HS7 := Lib.hid hs7; have HB6 := Lib.hid hb6; have HO6 := Lib.hid hown6
          clear hs6 hs7 hb6 hown6
          go_roundw
          case rel => exact ⟨j + 1, by omega, by go_num, Below.trans (HLAT.out.trans HLW.out) HB6.out, _, HO6.out, by rw [HLS2.out]; exact HWS.out.app HLW.out HOL.out HYN.out HYI.out (fun b o e => by have := HYB.out b o e; have := HB0.out.lat.size; omega) hwl HS7.out HB6.out⟩
          case measure => simp [intOf]; omega
        · have d0 : decide ((0 : Int) < (yn : Int)) = false := decide_eq_false (by omega)
          have hls : leftW K1 (L1.take (j + 1)) = leftW K1 (L1.take j) := by rw [HLS.out, decide_eq_false hy0, if_neg (by decide)]
          have HLS2 := Lib.hid hls
          clear hls HLS
          go_wp2
          go_roundw
          case rel => exact ⟨j + 1, by omega, by go_num, HLAT.out.trans HLW.out, rs, HOR.out.keep HLW.out, by rw [HLS2.out]; exact HWS.out.keep HLW.out⟩
          case measure => simp [intOf]; omega
      · obtain rfl : j = n := by omega
        have ht : L1.take j = L1 := List.take_of_length_le (by rw [HN.out]; exact Nat.le_refl _)
        rw [ht] at hws
        have hll := hws.1
        obtain ⟨ll, hlld⟩ : ∃ ll, ll = rs.length := ⟨_, rfl⟩
        obtain ⟨la, lc, rfl, hrat⟩ := OwnR.slice hor hlld.symm
        have hlm := leftW_len K1 L1
        have hp2 := HP.out.left (fun i hi => (Own.lt HOW.out i hi).2) HFR.out.size hlat hor hws (by omega)
        have c4w := hlat.cell_at HC4.out
        have fpw := hlat.free_at (HP.out.lt _ HP.out.gp) HFP.out
        obtain ⟨W2, hW2⟩ : ∃ W2, W2 = wr.setCell ⟨p, 4, none⟩ (.slice la ll lc) := ⟨_, rfl⟩
        rw [← hW2] at hp2
        have hfr2 : Fr G w W2 := by
          rw [hW2]; exact (HFR.out.next hlat).then_set ⟨p, 4, none⟩ _ (.inl HG.out)
        have hown2 : OwnInts W2 w.heap.size u3 out := by
          rw [hW2]
          exact Own.grown (Own.keep HOW.out hlat) (row := some p) ⟨rfl, rfl, rfl, by simp [World.setCell], fun i hi hne => Below.heap_setCell _ _ _ _ (fun e => hne (by rw [e]))⟩ (fun g hg e => by
            injection e with e
            have := HP.out.gp
            exact this.2.2 (by rw [e]; exact hg))
        have HP2 := Lib.hid hp2; have HF2 := Lib.hid hfr2; have HO2 := Lib.hid hown2; have HLLD : Hid ((leftW K1 L1).length = ll) := by show _ = _; omega
        have hl60 : ll ≤ 60 := by have := HN.out; omega
        clear hrel hor hws hll hlld hrat hlm hp2 hfr2 hown2 hlat ht
        go_upto_region 11 with fail
        rw [← hW2]
        clear hW2 c4w fpw
        obtain ⟨rows2, hro2, hrw2⟩ := HP2.out.row
        rw [HLLD.out] at hro2
        obtain ⟨la', lc', he, hrat2⟩ := OwnR.slice hro2 (show rows2.length = ll by rw [hrw2.1]; exact HLLD.out)
        injection he with e1 _ e3
        subst e1
        subst e3
        have hix := indexW _ _ la ll lc rows2 (leftW K1 L1) W2 hrat2 hrw2 (by omega)
        have HIX := Lib.hid hix; have HRAT2 := Lib.hid hrat2; have HRW2 := Lib.hid hrw2
        clear hro2 hrw2 hrat2 hix
        go_upto_region 12 with (go_at_call 70; refine HIX.out.mono ?_; rintro e w3 ⟨r, rfl, hr, hb3⟩)
        have HB3 := Lib.hid hb3
        have hp3 := HP2.out.gg hb3
        have ho3 := Own.keep HO2.out hb3
        have hf3 := HF2.out.next hb3
        rcases hr with ⟨rfl, hno⟩ | ⟨i, x, rfl, hx, h1, hbf⟩
        · have hfin : (K1, leftW K1 L1, out) = R := by
            rw [← HLF.out]
            show _ = learnF (f + 1) K1 L1 out
            unfold learnF
            rw [find_no hno]
          have hol : out.length ≤ 1000000 := by have := HOL.out; omega
          have HP3 := Lib.hid hp3; have HO3 := Lib.hid ho3; have HF3 := Lib.hid hf3; have HFIN := Lib.hid hfin; have HOL2 := Lib.hid hol
          clear hno hp3 ho3 hf3 hb3 hfin hol
          go_wp2_with (go_at_call 68; refine (sort_fr w.heap.size u3 out w3 HO3.out HOL2.out).mono ?_; rintro e w4 ⟨rfl, hown4, hf4⟩)
          have hlo : lrnO k K L = out.mergeSort fun x y => decide (x ≤ y) := by unfold lrnO; rw [← HR.out, ← HFIN.out]
          have hlk : lrnK k K L = K1 := by unfold lrnK; rw [← HR.out, ← HFIN.out]
          have hlL : lrnL k K L = leftW K1 L1 := by unfold lrnL; rw [← HR.out, ← HFIN.out]
          obtain ⟨oa, oc, hv, hoat⟩ := OwnInts.slice hown4 (fun z hz => by
            have := HOZ.out z ((List.mergeSort_perm _ _).mem_iff.1 hz)
            omega)
          have hown3 := Own.lt HO3.out
          go_ret
          have h9 := (HP3.out.fr hf4 (fun i hi e => hi.2.2 e)).grow (G' := GG G w w4 u3) (fun i hi => ⟨Nat.lt_of_lt_of_le hi.1 hf4.size, hi.2⟩) (fun i hi => hi.1)
          refine ⟨oa, oc, ?_, ?_, ?_, ⟨GG G w w4 u3, ⟨kb, tb, la, lc, ?_⟩, fun i hi => hi.2.1⟩, ⟨h9.c2.trans HMP.out.1.symm, h9.c3.trans HMP.out.2.symm⟩⟩
          · rw [hlo]; exact congrArg Ending.returned hv
          · rw [hlo]; exact hoat
          · exact HF3.out.trans hf4 (fun i hi e => by have := (hown3 i e).1; omega)
          · rw [hlk, hlL]
            exact h9
        · have hfd := find_at hx h1 hbf
          obtain ⟨hxm, z, hz, hKz⟩ := leftW_one hfd
          have hnext : learnF f (updK K1 z x.2) (leftW K1 L1) (out ++ [z]) = R := by
            rw [← HLF.out]
            show _ = learnF (f + 1) K1 L1 out
            rw [learnF, hfd]
            simp only [hz]
            rfl
          have hok := hp3.ok
          have hzr := hok.of x hxm z (by rw [hz]; exact List.mem_singleton.2 rfl)
          have hxl := hok.data x hxm
          have hun := unkC_upd (k := k) (K := K1) x.2 hzr hKz
          have hil : i < ll := by rw [← HLLD.out]; exact (List.getElem?_eq_some_iff.1 hx).1
          obtain ⟨r2, hr2, hwt2⟩ := (HRW2.out.keep hb3).2 i x hx
          obtain ⟨za, zc, rfl, hzi, _, _⟩ := hwt2.ex
          obtain ⟨lb, lo, hla, hcell2⟩ := (HRAT2.out.keep hb3).at_ (show ll ≠ 0 by omega)
          have d0 := (hcell2 i _ hr2).2 0 _ rfl
          have d1 := (hcell2 i _ hr2).2 1 _ rfl
          rw [Nat.add_zero] at d0
          rw [← Nat.add_assoc] at d1
          have hzle := hzi.row.le
          have hzcm := hzi.row.cap
          unfold maxLen at hzcm
          obtain ⟨zb, zo, hza, hzc⟩ := hzi.row.at_ (by rw [hz]; simp)
          have d2 := hzc 0 (by rw [hz]; simp)
          rw [hz] at d0 d2 hzle
          rw [hza] at d0
          have d2 : w3.cell? ⟨zb, zo, none⟩ = some (.int .i64 z) := d2
          have d3 := hp3.c2
          obtain ⟨xd, hxd⟩ : ∃ xd, xd = x.2 := ⟨_, rfl⟩
          rw [← hxd] at hnext hxl hun d1
          obtain ⟨w5, hrun, hkn5, hfr5⟩ := (hp3.kn.keep (Lat.drew w3)).store hk z hzr.1 hzr.2 hKz xd
          have hp5 : PeelIn (GG G w w5 u3) p kb tb k m (updK K1 z xd) T (leftW K1 L1) la lc w5 := ((hp3.gg (Lat.drew w3)).know hkn5 hfr5 (hok.upd hzr hxl)).grow (fun i hi => ⟨Nat.lt_of_lt_of_le hi.1 hfr5.size, hi.2⟩) (fun _ hi => hi.1)
          have hkbn : ∀ g, u3.ownBlock = some g → g ≠ kb := fun g hg e => hp3.gk.2.2 (by rw [← e]; exact hg)
          have ho5 : OwnInts w5 w.heap.size u3 out := Own.grown (Own.keep ho3 (Lat.drew w3)) (row := some kb) ⟨hfr5.os, hfr5.tape, hfr5.output, hfr5.size, fun i hi hne => hfr5.block i hi (fun e => hne (by rw [e]))⟩ (fun g hg e => hkbn g hg (Option.some.inj e).symm)
          have hf5 : Fr G w w5 := (hf3.next (Lat.drew w3)).trans hfr5 (fun i _ e => by rw [e]; exact HGK.out)
          have hzbk : zb ≠ kb := fun e => by
            have := hwt2.ex
            obtain ⟨a2, c2, h1, h2, h3, h4⟩ := this
            injection h1 with h1 _
            injection h1 with h1 _ _
            exact h3 (by rw [hz]; simp) zb zo (by rw [← h1, hza]) (.inr (.inl e))
          have hlbk : lb ≠ kb := fun e => (hp3.own lb (by rw [hla]; rfl)).2.2.1 e
          have hn5 : 0 ≤ w5.heap.size := Nat.zero_le _
          have e0 : w5.cell? ⟨lb, lo + i * 2, none⟩ = some (.slice (some ⟨zb, zo, none⟩) [z].length zc) := hfr5.cell_at (show w3.drew.cell? _ = _ from d0) hlbk
          have e2 : w5.cell? ⟨zb, zo, none⟩ = some (.int .i64 z) := hfr5.cell_at (show w3.drew.cell? _ = _ from d2) hzbk
          subst hla
          have e0 : w5.cell? ⟨lb, lo + i * 2, none⟩ = some (.slice (some ⟨zb, zo, none⟩) 1 zc) := e0
          have hF : w3.drew.cell? ⟨p, 2, none⟩ = some (.map (some kb)) ∧ w3.drew.cell? ⟨lb, lo + i * 2, none⟩ = some (.slice (some ⟨zb, zo, none⟩) 1 zc) ∧ w3.drew.cell? ⟨lb, lo + i * 2 + 1, none⟩ = some (.string (S xd)) ∧ w3.drew.cell? ⟨zb, zo, none⟩ = some (.int .i64 z) := ⟨d3, d0, d1, d2⟩
          have hF5 : w5.cell? ⟨p, 2, none⟩ = some (.map (some kb)) ∧ w5.cell? ⟨lb, lo + i * 2, none⟩ = some (.slice (some ⟨zb, zo, none⟩) 1 zc) ∧ w5.cell? ⟨lb, lo + i * 2 + 1, none⟩ = some (.string (S xd)) ∧ w5.cell? ⟨zb, zo, none⟩ = some (.int .i64 z) := ⟨hp5.c2, e0, hfr5.cell_at hF.2.2.1 hlbk, e2⟩
          have i1 : (0 : Int) ≤ (i : Int) := by omega
          have i2 : (i : Int) < (ll : Int) := by omega
          have dn : decide ((i : Int) < 0) = false := decide_eq_false (by omega)
          have HF := Lib.hid hF; have HF5 := Lib.hid hF5; have HP5 := Lib.hid hp5; have HO5 := Lib.hid ho5; have HFR5 := Lib.hid hf5; have HNX := Lib.hid hnext; have HUN := Lib.hid hun; have HZR := Lib.hid hzr; have HRUN := Lib.hid hrun
          have hol : out.length < 1000000 := by have := HOL.out; omega
          have hws : w.heap.size ≤ w5.heap.size := hf5.size
          have HOL2 := Lib.hid hol; have HWS := Lib.hid hws
          clear hx h1 hbf hfd hxm hz hKz hnext hok hxl hun hr2 hwt2 hzi hcell2 hzc hxd hp3 ho3 hf3 hb3 hkn5 hfr5 hp5 ho5 hf5 hkbn hzbk hlbk hn5 d0 d1 d2 d3 e0 e2 hrun hol hws hF hF5 hza hzr
          go_upto_region 15 with fail
          have hF := HF.out
          refine wp_region_gate (fun w' => w'.cell? ⟨p, 2, none⟩ = some (.map (some kb)) ∧ w'.cell? ⟨lb, lo + i * 2, none⟩ = some (.slice (some ⟨zb, zo, none⟩) 1 zc) ∧ w'.cell? ⟨lb, lo + i * 2 + 1, none⟩ = some (.string (S xd)) ∧ w'.cell? ⟨zb, zo, none⟩ = some (.int .i64 z)) (fun _ => True) 1000 (by kernel_rfl) ?_
          refine gate_takeF (i := 0) (v := ?_) rfl (by kernel_rfl) (by kernel_rfl) (by kernel_rfl) (fun _ _ _ h => h) (by decide) ⟨hF, fun _ => trivial⟩ (Or.inl ⟨by rfl, ?_⟩) ?_
          rotate_left
          · intro wq hSw; obtain ⟨s0, s1, s2, s3⟩ := hSw; go_simp; rfl
          simp only [Act.put]
          refine gate_takeF (i := 1) (v := ?_) rfl (by kernel_rfl) (by kernel_rfl) (by kernel_rfl) (fun _ _ _ h => h) (by decide) ⟨hF, fun _ => trivial⟩ (Or.inl ⟨by rfl, ?_⟩) ?_
          rotate_left
          · intro wq hSw; obtain ⟨s0, s1, s2, s3⟩ := hSw; go_simp; rfl
          simp only [Act.put]
          refine gate_takeF (i := 2) (v := ?_) rfl (by kernel_rfl) (by kernel_rfl) (by kernel_rfl) (fun _ _ _ h => h) (by decide) ⟨hF, fun _ => trivial⟩ (Or.inl ⟨by rfl, ?_⟩) ?_
          rotate_left
          · intro wq hSw; obtain ⟨s0, s1, s2, s3⟩ := hSw; go_simp; rfl
          simp only [Act.put]
          refine gate_takeF (i := 3) (v := ?_) rfl (by kernel_rfl) (by kernel_rfl) (by kernel_rfl) (fun _ _ _ h => h) (by decide) ⟨hF, fun _ => trivial⟩ (Or.inl ⟨by rfl, ?_⟩) ?_
          rotate_left
          · intro wq hSw; obtain ⟨s0, s1, s2, s3⟩ := hSw; go_simp; rfl
          simp only [Act.put]
          refine gate_takeF (i := 4) (v := ?_) rfl (by kernel_rfl) (by kernel_rfl) (by kernel_rfl) (fun _ _ _ h => h) (by decide) ⟨hF, fun _ => trivial⟩ (Or.inl ⟨by rfl, ?_⟩) ?_
          rotate_left
          · intro wq hSw; obtain ⟨s0, s1, s2, s3⟩ := hSw; go_simp; rfl
          simp only [Act.put]
          refine gate_takeF (i := 5) (v := ?_) rfl (by kernel_rfl) (by kernel_rfl) (by kernel_rfl) (fun _ _ _ h => h) (by decide) ⟨hF, fun _ => trivial⟩ (Or.inl ⟨by rfl, ?_⟩) ?_
          rotate_left
          · intro wq hSw; obtain ⟨s0, s1, s2, s3⟩ := hSw; go_simp; rfl
          simp only [Act.put]
          refine gate_takeF (i := 6) (v := ?_) rfl (by kernel_rfl) (by kernel_rfl) (by kernel_rfl) (fun _ _ _ h => h) (by decide) ⟨hF, fun _ => trivial⟩ (Or.inl ⟨by rfl, ?_⟩) ?_
          rotate_left
          · intro wq hSw; obtain ⟨s0, s1, s2, s3⟩ := hSw; go_simp; rfl
          simp only [Act.put]
          refine gate_takeF (i := 7) (v := ?_) rfl (by kernel_rfl) (by kernel_rfl) (by kernel_rfl) (fun _ _ _ h => h) (by decide) ⟨hF, fun _ => trivial⟩ (Or.inl ⟨by rfl, ?_⟩) ?_
          rotate_left
          · intro wq hSw; obtain ⟨s0, s1, s2, s3⟩ := hSw; go_simp; rfl
          simp only [Act.put]
          refine gate_takeF (i := 8) (v := ?_) rfl (by kernel_rfl) (by kernel_rfl) (by kernel_rfl) (fun _ _ _ h => h) (by decide) ⟨hF, fun _ => trivial⟩ (Or.inl ⟨by rfl, ?_⟩) ?_
          rotate_left
          · intro wq hSw; obtain ⟨s0, s1, s2, s3⟩ := hSw; go_simp; rfl
          simp only [Act.put]
          refine gate_takeF (i := 9) (v := ?_) rfl (by kernel_rfl) (by kernel_rfl) (by kernel_rfl) (fun _ _ _ h => h) (by decide) ⟨hF, fun _ => trivial⟩ (Or.inl ⟨by rfl, ?_⟩) ?_
          rotate_left
          · intro wq hSw; obtain ⟨s0, s1, s2, s3⟩ := hSw; go_simp; rfl
          simp only [Act.put]
          refine gate_takeF (i := 10) (v := ?_) rfl (by kernel_rfl) (by kernel_rfl) (by kernel_rfl) (fun _ _ _ h => h) (by decide) ⟨hF, fun _ => trivial⟩ (Or.inl ⟨by rfl, ?_⟩) ?_
          rotate_left
          · intro wq hSw; obtain ⟨s0, s1, s2, s3⟩ := hSw; go_simp; rfl
          simp only [Act.put]
          refine gate_takeF (i := 11) (v := ?_) rfl (by kernel_rfl) (by kernel_rfl) (by kernel_rfl) (fun _ _ _ h => h) (by decide) ⟨hF, fun _ => trivial⟩ (Or.inl ⟨by rfl, ?_⟩) ?_
          rotate_left
          · intro wq hSw; obtain ⟨s0, s1, s2, s3⟩ := hSw; go_simp; rfl
          simp only [Act.put]
          refine gate_takeF (i := 12) (v := ?_) rfl (by kernel_rfl) (by kernel_rfl) (by kernel_rfl) (fun _ _ _ h => h) (by decide) ⟨hF, fun _ => trivial⟩ (Or.inl ⟨by rfl, ?_⟩) ?_
          rotate_left
          · intro wq hSw; obtain ⟨s0, s1, s2, s3⟩ := hSw; go_simp; rfl
          simp only [Act.put]
          refine gate_takeF (i := 13) (v := ?_) rfl (by kernel_rfl) (by kernel_rfl) (by kernel_rfl) (fun _ _ _ h => h) (by decide) ⟨hF, fun _ => trivial⟩ (Or.inl ⟨by rfl, ?_⟩) ?_
          rotate_left
          · intro wq hSw; obtain ⟨s0, s1, s2, s3⟩ := hSw; go_simp; rfl
          simp only [Act.put]
          refine gate_takeF (i := 14) (v := ?_) rfl (by kernel_rfl) (by kernel_rfl) (by kernel_rfl) (fun _ _ _ h => h) (by decide) ⟨hF, fun _ => trivial⟩ (Or.inl ⟨by rfl, ?_⟩) ?_
          rotate_left
          · intro wq hSw; obtain ⟨s0, s1, s2, s3⟩ := hSw; go_simp; rfl
          simp only [Act.put]
          refine gate_takeF (i := 15) (v := ?_) rfl (by kernel_rfl) (by kernel_rfl) (by kernel_rfl) (fun _ _ _ h => h) (by decide) ⟨hF, fun _ => trivial⟩ (Or.inl ⟨by rfl, ?_⟩) ?_
          rotate_left
          · intro wq hSw; obtain ⟨s0, s1, s2, s3⟩ := hSw; go_simp; rfl
          simp only [Act.put]
          refine gate_one (i := 16) (by kernel_rfl) rfl (fun K hK => ?_)
          have hrun := HRUN.out
          go_simp
          have hF' := HF5.out
          refine hK _ _ ⟨hF', fun _ => trivial⟩ ?_
          clear hK K hF hF' hrun
          refine gate_done (by kernel_rfl) ?_ _
          have k0 := HF5.out.2.1
          have k1 := HF5.out.2.2.2
          go_wp2_with (at_builtin; refine app_intL w5 w.heap.size rfl (.tmp 56) (.tmp 64) rfl _ _ z rfl HO5.out rfl HOL2.out HWS.out ?_; intro v' w6 hown' hf6 hloc)
          have hf6 : Fr (fun j => u3.ownBlock = some j) w5 w6 := hf6
          have hloc : ∀ i, v'.ownBlock = some i → u3.ownBlock = some i ∨ w5.heap.size ≤ i := hloc
          have hp6 := HP5.out.other hf6 hloc
          have hfr6 : Fr G w w6 := HFR5.out.trans hf6 (fun i hi e => by have := (Own.lt HO5.out i e).1; omega)
          have HP6 := Lib.hid hp6; have HF6 := Lib.hid hfr6; have HO6 := Lib.hid hown'
          clear hp6 hfr6 hown' hf6 hloc
          go_roundg f
          case measure => omega
          case rel => exact ⟨updK K1 z xd, leftW K1 L1, out ++ [z], _, lc, by have := HUN.out; have := HUU.out; omega, HNX.out, HO6.out, by rw [List.length_append, List.length_singleton]; have := HUN.out; have := HOL.out; omega, fun y hy => by
            rcases List.mem_append.1 hy with h | h
            · exact HOZ.out y h
            · rw [List.mem_singleton.1 h]; exact HZR.out, HF6.out, HP6.out⟩
end Go.Proofs.YtcpookgbneoilaaGreatDoor

namespace Go.Proofs.YtcpookgbneoilaaGreatDoor
open Go.ChangeShapes Go.WideShapes Go.ChangeAt Go.RowKit

section
variable {G : Nat → Prop} {p kb tb k m : Nat} {K : Kn} {T T' : List Int} {L : List Wt} {a : Option Addr} {cap : Nat} {w w1 w2 w3 w5 : World}
theorem PeelIn.take (h : PeelIn G p kb tb k m K T L a cap w1) (htk : TkAt w2 tb T') (hf : Fr (fun i => i = tb) w1 w2) (hm : L.length ≤ T'.length) : PeelIn G p kb tb k m K T' L a cap w2 := by
  obtain ⟨rows, ho, hw⟩ := h.row
  have np : ¬ p = tb := h.nt
  exact ⟨fun i hi => Nat.lt_of_lt_of_le (h.lt i hi) hf.size, h.gp, h.gk, h.gt, h.nk, h.nt, h.nkt, hf.cell_at h.c0 np, hf.cell_at h.c1 np, hf.cell_at h.c2 np, hf.cell_at h.c3 np, hf.cell_at h.c4 np, hf.free_at (h.lt _ h.gp) h.free np,
    h.kn.fr hf h.nkt, htk, ⟨rows, ho.fr hf (fun i hi e => (h.own i hi).2.2.2 e), hw.fr hf (fun i _ e _ => .inr (.inr (.inl e)))⟩, h.own, h.ok, hm⟩
theorem PeelIn.push {B g cap' : Nat} {zs : List Int} {t : Bts} {oa : Option Addr} {oc : Nat} {rows : List (List Value)} (h : PeelIn G p kb tb k m K T L a cap w3) (hGB : ∀ i, G i → i < B) (hB : B ≤ w3.heap.size) (hT : L.length + 1 ≤ T.length) (hrw : WtsAt w3 (Nb p kb tb (.slice a L.length cap)) G rows L)
    (ho : OwnR w5 0 102 2 (.slice (some ⟨g, 0, none⟩) (L.length + 1) cap') (rows ++ [[.slice oa zs.length oc, .string (S t)]])) (hs : AppStep w3 w5 (.slice a L.length cap) (.slice (some ⟨g, 0, none⟩) (L.length + 1) cap')) (hb : Below 0 w3 w5)
    (hz : IntsAt w3 oa zs.length oc zs) (hfr : ∀ b o, oa = some ⟨b, o, none⟩ → B ≤ b) (hok : WOk k m K (L ++ [(zs, t)])) :
    PeelIn (fun i => i < (w5.setCell ⟨p, 4, none⟩ (.slice (some ⟨g, 0, none⟩) (L.length + 1) cap')).heap.size ∧ (G i ∨ B ≤ i)) p kb tb k m K T (L ++ [(zs, t)]) (some ⟨g, 0, none⟩) cap' (w5.setCell ⟨p, 4, none⟩ (.slice (some ⟨g, 0, none⟩) (L.length + 1) cap')) := by
  have hf : Fr (fun i => (Value.slice a L.length cap).ownBlock = some i) w3 w5 := ⟨hb.os, hb.tape, hb.output, hs.size, fun i hi hne => hs.block i hi (fun e => hne e.symm)⟩
  obtain ⟨w6, hw6⟩ : ∃ w6, w6 = w5.setCell ⟨p, 4, none⟩ (.slice (some ⟨g, 0, none⟩) (L.length + 1) cap') := ⟨_, rfl⟩
  have hf6 : Fr (fun i => i = p) w5 w6 := by rw [hw6]; exact Fr.set _ _ _ rfl
  have hsz : w6.heap.size = w5.heap.size := by rw [hw6]; simp [World.setCell]
  have hp5 := hs.size
  have hpl := h.lt _ h.gp
  have hkl := h.lt _ h.gk
  have htl := h.lt _ h.gt
  have np : ¬ (Value.slice a L.length cap).ownBlock = some p := fun e => (h.own p e).2.1 rfl
  have nk : ¬ (Value.slice a L.length cap).ownBlock = some kb := fun e => (h.own kb e).2.2.1 rfl
  have nt : ¬ (Value.slice a L.length cap).ownBlock = some tb := fun e => (h.own tb e).2.2.2 rfl
  have hg : ((Value.slice a L.length cap).ownBlock = some g) ∨ w3.heap.size ≤ g := by
    rcases hs.loc with e | ⟨g2, e, hg⟩
    · exact .inl e.symm
    · have : g = g2 := Option.some.inj e
      exact .inr (by omega)
  have c : ∀ j x, j ≠ 4 → w3.cell? ⟨p, j, none⟩ = some x → w6.cell? ⟨p, j, none⟩ = some x := fun j x hj hx => by
    rw [hw6, World.cell?_setCell_other _ _ _ _ (by intro e; injection e with _ e _; exact hj e.symm)]; exact hf.cell_at hx np
  have c4 : w6.cell? ⟨p, 4, none⟩ = some (.slice (some ⟨g, 0, none⟩) (L.length + 1) cap') := by rw [hw6]; exact World.cell?_setCell_same _ _ _ (hf.cell_at h.c4 np)
  have fp : w6.frozen? ⟨p, 4, none⟩ = false := by rw [hw6, World.frozen?_setCell]; exact hf.free_at hpl h.free np
  have hup : ∀ i, G i → i < w6.heap.size ∧ (G i ∨ B ≤ i) := fun i hi => ⟨by have := h.lt i hi; omega, .inl hi⟩
  have hgl := (OwnR.lt ho g rfl).2
  have hgne : g ≠ p ∧ g ≠ kb ∧ g ≠ tb := by
    rcases hg with e | e
    · exact (h.own g e).2
    · exact ⟨by omega, by omega, by omega⟩
  have h1 : WtsAt w3 (fun i => Nb p kb tb (.slice a L.length cap) i ∨ i = g) (fun i => G i ∨ B ≤ i) rows L := hrw.off (fun i hi hgi e => by
    rcases e with e | e
    · exact e
    · subst e
      rcases hg with e | e
      · exact .inr (.inr (.inr e))
      · omega) (fun i _ e _ => .inl e)
  have h2 := h1.push (r := [.slice oa zs.length oc, .string (S t)]) (x := (zs, t)) ⟨oa, oc, rfl, hz, fun hn b o e hN => by
    have hbB := hfr b o e
    have hbl := hz.blk hn e
    have d1 := hGB _ h.gp
    have d2 := hGB _ h.gk
    have d3 := hGB _ h.gt
    rcases hN with (e1 | e1 | e1 | e1) | e1
    · omega
    · omega
    · omega
    · have := hGB b (h.own b e1).1; omega
    · subst e1
      rcases hg with e2 | e2
      · have := hGB b (h.own b e2).1; omega
      · omega, fun hn b o e => .inr (hfr b o e)⟩
  have h3 := (h2.fr hf (fun i _ e _ => .inl (.inr (.inr (.inr e))))).fr hf6 (fun i _ e _ => .inl (.inl e))
  rw [← hw6]
  have hll : (L ++ [(zs, t)]).length = L.length + 1 := by rw [List.length_append]; rfl
  refine ⟨fun i hi => hi.1, hup _ h.gp, hup _ h.gk, hup _ h.gt, h.nk, h.nt, h.nkt, c _ _ (by decide) h.c0, c _ _ (by decide) h.c1, c _ _ (by decide) h.c2, c _ _ (by decide) h.c3, by rw [hll]; exact c4, fp,
    (h.kn.fr hf nk).fr hf6 (fun e => h.nk e.symm), (h.tk.fr hf nt).fr hf6 (fun e => h.nt e.symm), ⟨_, by rw [hll]; exact ho.fr hf6 (fun i hi e => hgne.1 (by rw [← e]; exact Option.some.inj hi)), ?_⟩, fun i hi => ?_, hok, by rw [hll]; exact hT⟩
  · rw [hll]
    refine h3.off (fun i _ _ e => ?_) (fun i hi e _ => ⟨hi, e⟩)
    rcases e with e | e | e | e
    · exact .inl (.inl e)
    · exact .inl (.inr (.inl e))
    · exact .inl (.inr (.inr (.inl e)))
    · exact .inr (Option.some.inj e).symm
  · rw [hll] at hi
    obtain rfl : g = i := Option.some.inj hi
    refine ⟨⟨by omega, ?_⟩, hgne⟩
    rcases hg with e | e
    · exact .inl (h.own g e).1
    · exact .inr (by omega)
end

theorem peel_made (k m : Nat) (w W1 : World) (hsz : W1.heap.size = w.heap.size + 2) (h1 : KnAt W1 w.heap.size k (fun _ => none)) (h2 : TkAt W1 (w.heap.size + 1) []) :
    PeelO (fun i => w.heap.size ≤ i ∧ i < w.heap.size + 3) (w.heap.size + 2) k m (fun _ => none) [] [] (W1.alloc (.cells #[.int .i64 k, .int .i64 m, .map (some w.heap.size), .map (some (w.heap.size + 1)), .slice none 0 0] 95)) := by
  have hb := Lat.alloc W1 (.cells #[.int .i64 k, .int .i64 m, .map (some w.heap.size), .map (some (w.heap.size + 1)), .slice none 0 0] 95)
  refine ⟨w.heap.size, w.heap.size + 1, none, 0, ⟨fun i hi => by simp [hsz]; omega, by omega, by omega, by omega, by omega, by omega, by omega, ?_, ?_, ?_, ?_, ?_, ?_, h1.keep hb, h2.keep hb, ⟨[], OwnR.nil _ _ _ _, WtsAt.nil _ _ _⟩, fun i hi => (by cases hi), ⟨fun _ _ h => (by cases h), by simp, by simp, by simp⟩, Nat.le_refl _⟩⟩
  all_goals (rw [← hsz]; simp)
theorem peel_new_ok (k m : Nat) (w : World) (h1 : 1 ≤ k) (h2 : k ≤ 16) (h3 : 1 ≤ m) (h4 : m ≤ 8) :
    Calls Tryz.prog 18 #[.int .i64 k, .int .i64 m] w fun e w' => ∃ p G, e = .returned (.tuple #[.pointer (some ⟨p, 0, none⟩), .nilIface]) ∧ PeelO G p k m (fun _ => none) [] [] w' ∧ (∀ i, G i → w.heap.size ≤ i) ∧ Lat w w' := by
  have hmm := @run_makeMap Tryz.prog
  have hl : Lat w ((w.alloc (.map #[] 0)).alloc (.map #[] 0)) := (Lat.alloc _ _).trans (Lat.alloc _ _)
  have hp := peel_made k m w ((w.alloc (.map #[] 0)).alloc (.map #[] 0)) (by simp) ((KnAt.made w k).keep (Lat.alloc _ _)) (by
    have := TkAt.made (w.alloc (.map #[] 0))
    rwa [show (w.alloc (.map #[] 0)).heap.size = w.heap.size + 1 from by simp] at this)
  have HP := Lib.hid hp; have HL := Lib.hid hl
  clear hp hl
  go_enter Tryz.func18, Tryz.ntmps18
  go_wp2_with (first
    | (go_at_call 39; refine (dblocks_yes k _ (by omega) (by omega)).mono ?_; rintro e w' ⟨rfl, rfl⟩)
    | (go_at_call 40; refine (size_yes m _ (by omega) (by omega)).mono ?_; rintro e w' ⟨rfl, rfl⟩))
  go_ret2
  exact ⟨_, _, rfl, HP.out, fun i hi => hi.1, HL.out.trans (Lat.alloc _ _)⟩
theorem peel_new_bad (k m : Int) (w : World) (h : k < 1 ∨ 16 < k ∨ m < 1 ∨ 8 < m) :
    Calls Tryz.prog 18 #[.int .i64 k, .int .i64 m] w fun e w' => e = .returned (.tuple #[.pointer none, eno 1]) ∧ Lat w w' := by
  by_cases hk : k < 1 ∨ 16 < k
  · have HK := Lib.hid hk
    clear h hk
    go_enter Tryz.func18, Tryz.ntmps18
    go_wp2_with (go_at_call 39; refine (dblocks_no k _ HK.out).mono ?_; rintro e w' ⟨rfl, rfl⟩)
    go_ret2
    exact ⟨rfl, Lat.refl _⟩
  · have k1 : 1 ≤ k := by omega
    have k2 : k ≤ 16 := by omega
    have hm : m < 1 ∨ 8 < m := by omega
    have HM := Lib.hid hm
    clear h hk hm
    go_enter Tryz.func18, Tryz.ntmps18
    go_wp2_with (first
      | (go_at_call 39; refine (dblocks_yes k _ k1 k2).mono ?_; rintro e w' ⟨rfl, rfl⟩)
      | (go_at_call 40; refine (size_no m _ HM.out).mono ?_; rintro e w' ⟨rfl, rfl⟩))
    go_ret2
    exact ⟨rfl, Lat.refl _⟩

def knwL (K : Kn) (j : Nat) : List Int := ((List.range j).map Int.ofNat).filter (fun z => (K z).isSome)
theorem knwL_succ (K : Kn) (j : Nat) : knwL K (j + 1) = if (K (j : Int)).isSome = true then knwL K j ++ [(j : Int)] else knwL K j := by
  unfold knwL
  rw [List.range_succ, List.map_append, List.filter_append]
  show _ ++ [(j : Int)].filter _ = _
  cases h : (K (j : Int)).isSome <;> simp [h]
theorem knwL_mem (K : Kn) (j : Nat) : ∀ z ∈ knwL K j, 0 ≤ z ∧ z < (j : Int) ∧ (K z).isSome = true := fun z hz => by
  obtain ⟨h1, h2⟩ := List.mem_filter.1 hz
  obtain ⟨i, hi, rfl⟩ := List.mem_map.1 h1
  have := List.mem_range.1 hi
  have e : Int.ofNat i = (i : Int) := rfl
  exact ⟨by omega, by omega, h2⟩
theorem knwL_len (K : Kn) (j : Nat) : (knwL K j).length ≤ j := by
  unfold knwL
  refine Nat.le_trans (List.length_filter_le _ _) ?_
  rw [List.length_map, List.length_range]; exact Nat.le_refl _
set_option maxHeartbeats 1000000 in
theorem peel_knows (G : Nat → Prop) (p k m : Nat) (K : Kn) (T : List Int) (L : List Wt) (w : World) (h : PeelO G p k m K T L w) (hk : k ≤ 16) :
    Calls Tryz.prog 29 #[.pointer (some ⟨p, 0, none⟩)] w fun e w' => ∃ oa oc, e = .returned (.slice oa (knwL K k).length oc) ∧ IntsAt w' oa (knwL K k).length oc (knwL K k) ∧ Lat w w' := by
  obtain ⟨kb, tb, a, cap, h⟩ := h
  have c0 := h.c0
  have H2 := Lib.hid h.c2; have HK := Lib.hid h.kn
  clear h
  go_enter Tryz.func29, Tryz.ntmps29
  go_wp2
  go_loopw [3, 11] (fun v i wr => ∃ j : Nat, j ≤ k ∧ i = .int .i64 j ∧ Hid (OwnInts wr w.heap.size v (knwL K j) ∧ Lat w wr)) (fun _ i _ => k - (intOf i).toNat)
  case atStart => exact ⟨0, Nat.zero_le _, rfl, Own.nil _ _ _, Lat.refl _⟩
  case round =>
    obtain ⟨j, hj, rfl, hrel⟩ := hrel
    by_cases hlt : j < k
    · obtain ⟨hown, hlat⟩ := hrel.out
      have c2 := hlat.cell_at H2.out
      have hks := knwL_succ K j
      have hlook := (HK.out.keep hlat).look_ok hk j (by omega) (by omega)
      have hln := knwL_len K j
      have hl2 : (knwL K j).length < 1000000 := by omega
      obtain ⟨x, hx⟩ : ∃ x, x = S ((K (j : Int)).getD []) := ⟨_, rfl⟩
      rw [← hx] at hlook
      have HOW := Lib.hid hown; have HLT := Lib.hid hlat; have HKS := Lib.hid hks; have HL2 := Lib.hid hl2
      have i2 : decide ((j : Int) < (k : Int)) = true := decide_eq_true (by omega)
      cases hq : (K (j : Int)).isSome with
      | true =>
        rw [hq] at hlook
        have HQ := Lib.hid hq
        have HSZ := Lib.hid hlat.size
        clear hrel hown hlat hks hq hln hl2 hx
        go_wp2_with (at_builtin; refine app_intL wr w.heap.size rfl (.tmp 24) (.tmp 26) rfl _ _ (j : Int) rfl HOW.out rfl HL2.out HSZ.out ?_; intro v' w2 hown' hf2 _)
        go_roundw
        case rel => exact ⟨j + 1, by omega, by go_num, by rw [HKS.out, HQ.out, if_pos rfl]; exact hown', hf2.lat_of HLT.out (fun i e => (Own.lt HOW.out i e).1)⟩
        case measure => simp [intOf]; omega
      | false =>
        rw [hq] at hlook
        have HQ := Lib.hid hq
        clear hrel hown hlat hks hq hln hl2 hx
        go_wp2
        go_roundw
        case rel => exact ⟨j + 1, by omega, by go_num, by rw [HKS.out, HQ.out, if_neg (by decide)]; exact HOW.out, HLT.out⟩
        case measure => simp [intOf]; omega
    · obtain rfl : j = k := by omega
      obtain ⟨hown, hlat⟩ := hrel.out
      obtain ⟨oa, oc, rfl, hat⟩ := OwnInts.slice hown (fun z hz => by have := knwL_mem K j z hz; omega)
      obtain ⟨kl, hkl⟩ : ∃ kl, kl = (knwL K j).length := ⟨_, rfl⟩
      rw [← hkl] at hat ⊢
      have HAT := Lib.hid hat; have HL := Lib.hid hlat; have HKL := Lib.hid hkl
      clear hrel hown hlat hat hkl
      go_wp2
      go_ret
      exact ⟨oa, oc, congrArg (fun q => Ending.returned (.slice oa q oc)) HKL.out, by rw [← HKL.out]; exact HAT.out, HL.out⟩
end Go.Proofs.YtcpookgbneoilaaGreatDoor

namespace Go.Proofs.YtcpookgbneoilaaGreatDoor
open Go.ChangeShapes Go.WideShapes Go.ChangeAt Go.RowKit

def tkE (k m : Nat) (T : List Int) (s : Int) (t : Bts) : Nat := if drpE k m s (S t) ≠ 0 then drpE k m s (S t) else if s ∈ T then 7 else if 60 ≤ T.length then 4 else 0

set_option maxHeartbeats 4000000 in
set_option maxRecDepth 100000 in
theorem take_bad (G : Nat → Prop) (p k m : Nat) (K : Kn) (T : List Int) (L : List Wt) (s : Int) (t : Bts) (w : World) (h : PeelO G p k m K T L w) (hE : tkE k m T s t ≠ 0) :
    Calls Tryz.prog 28 #[.pointer (some ⟨p, 0, none⟩), .agg #[.int .i64 s, .string (S t)]] w fun e w' => e = .returned (.tuple #[.slice none 0 0, eno (tkE k m T s t)]) ∧ Lat w w' := by
  obtain ⟨kb, tb, a, cap, h⟩ := h
  have hck := fun W => dchk_tells k m s (S t) W
  by_cases h1 : drpE k m s (S t) = 0
  · have h2 := drpE_zero h1
    rw [h1, errv_zero rfl] at hck
    have HCK : Hid (∀ W, Calls Tryz.prog 25 #[.int .i64 k, .int .i64 m, .agg #[.int .i64 s, .string (S t)]] W fun e w' => e = .returned .nilIface ∧ Lat W w') := hck
    have HH := Lib.hid h
    have htl := h.tk.most
    obtain ⟨n, hn⟩ : ∃ n, n = T.length := ⟨_, rfl⟩
    by_cases hs : s ∈ T
    · have e1 : tkE k m T s t = 7 := by unfold tkE; rw [if_neg (fun e => e h1), if_pos hs]
      rw [e1]
      have HS := Lib.hid hs; have H2 := Lib.hid h2
      clear h hck h1 h2 hE hs htl hn e1
      go_enter Tryz.func28, Tryz.ntmps28
      go_upto_region 1 with fail
      obtain ⟨X, hX⟩ : ∃ X, X = w.heap.size := ⟨_, rfl⟩
      obtain ⟨W0, hW0⟩ : ∃ W0, W0 = w.alloc (.cells #[.int .i64 s, .string (S t)] 37) := ⟨_, rfl⟩
      have hb0 := BX.new w (.int .i64 s) (.string (S t)) 37
      rw [← hW0] at hb0
      rw [← hW0]
      rw [← hX] at hb0
      rw [← hX]
      have HX : Hid (X = w.heap.size) := hX
      clear hW0 hX
      have hF : W0.drew.cell? ⟨p, 0, none⟩ = some (.int .i64 k) ∧ W0.drew.cell? ⟨p, 1, none⟩ = some (.int .i64 m) ∧ W0.drew.cell? ⟨X, 0, none⟩ = some (.int .i64 s) ∧ W0.drew.cell? ⟨X, 1, none⟩ = some (.string (S t)) := ⟨hb0.lat.cell_at HH.out.c0, hb0.lat.cell_at HH.out.c1, hb0.c0, hb0.c1⟩
      have HB0 := Lib.hid (hb0.keep (Lat.drew W0))
      clear hb0
      refine wp_region_gate (fun w' => w'.cell? ⟨p, 0, none⟩ = some (.int .i64 k) ∧ w'.cell? ⟨p, 1, none⟩ = some (.int .i64 m) ∧ w'.cell? ⟨X, 0, none⟩ = some (.int .i64 s) ∧ w'.cell? ⟨X, 1, none⟩ = some (.string (S t))) (fun _ => True) 1000 (by kernel_rfl) ?_
      refine gate_takeF (i := 0) (v := ?_) rfl (by kernel_rfl) (by kernel_rfl) (by kernel_rfl) (fun _ _ _ h => h) (by decide) ⟨hF, fun _ => trivial⟩ (Or.inl ⟨by rfl, ?_⟩) ?_
      rotate_left
      · intro wq hSw; obtain ⟨s0, s1, s2, s3⟩ := hSw; go_simp; rfl
      simp only [Act.put]
      refine gate_takeF (i := 1) (v := ?_) rfl (by kernel_rfl) (by kernel_rfl) (by kernel_rfl) (fun _ _ _ h => h) (by decide) ⟨hF, fun _ => trivial⟩ (Or.inl ⟨by rfl, ?_⟩) ?_
      rotate_left
      · intro wq hSw; obtain ⟨s0, s1, s2, s3⟩ := hSw; go_simp; rfl
      simp only [Act.put]
      refine gate_takeF (i := 2) (v := ?_) rfl (by kernel_rfl) (by kernel_rfl) (by kernel_rfl) (fun _ _ _ h => h) (by decide) ⟨hF, fun _ => trivial⟩ (Or.inl ⟨by rfl, ?_⟩) ?_
      rotate_left
      · intro wq hSw; obtain ⟨s0, s1, s2, s3⟩ := hSw; go_simp; rfl
      simp only [Act.put]
      refine gate_takeF (i := 3) (v := ?_) rfl (by kernel_rfl) (by kernel_rfl) (by kernel_rfl) (fun _ _ _ h => h) (by decide) ⟨hF, fun _ => trivial⟩ (Or.inl ⟨by rfl, ?_⟩) ?_
      rotate_left
      · intro wq hSw; obtain ⟨s0, s1, s2, s3⟩ := hSw; go_simp; rfl
      simp only [Act.put]
      refine gate_takeF (i := 4) (v := ?_) rfl (by kernel_rfl) (by kernel_rfl) (by kernel_rfl) (fun _ _ _ h => h) (by decide) ⟨hF, fun _ => trivial⟩ (Or.inl ⟨by rfl, ?_⟩) ?_
      rotate_left
      · intro wq hSw; obtain ⟨s0, s1, s2, s3⟩ := hSw; go_simp; rfl
      simp only [Act.put]
      refine gate_takeF (i := 5) (v := ?_) rfl (by kernel_rfl) (by kernel_rfl) (by kernel_rfl) (fun _ _ _ h => h) (by decide) ⟨hF, fun _ => trivial⟩ (Or.inl ⟨by rfl, ?_⟩) ?_
      rotate_left
      · intro wq hSw; obtain ⟨s0, s1, s2, s3⟩ := hSw; go_simp; rfl
      simp only [Act.put]
      refine gate_takeF (i := 6) (v := ?_) rfl (by kernel_rfl) (by kernel_rfl) (by kernel_rfl) (fun _ _ _ h => h) (by decide) ⟨hF, fun _ => trivial⟩ (Or.inl ⟨by rfl, ?_⟩) ?_
      rotate_left
      · intro wq hSw; obtain ⟨s0, s1, s2, s3⟩ := hSw; go_simp; rfl
      simp only [Act.put]
      refine gate_takeF (i := 7) (v := ?_) rfl (by kernel_rfl) (by kernel_rfl) (by kernel_rfl) (fun _ _ _ h => h) (by decide) ⟨hF, fun _ => trivial⟩ (Or.inl ⟨by rfl, ?_⟩) ?_
      rotate_left
      · intro wq hSw; obtain ⟨s0, s1, s2, s3⟩ := hSw; go_simp; rfl
      simp only [Act.put]
      refine gate_takeF (i := 8) (v := ?_) rfl (by kernel_rfl) (by kernel_rfl) (by kernel_rfl) (fun _ _ _ h => h) (by decide) ⟨hF, fun _ => trivial⟩ (Or.inl ⟨by rfl, ?_⟩) ?_
      rotate_left
      · intro wq hSw; obtain ⟨s0, s1, s2, s3⟩ := hSw; go_simp; rfl
      simp only [Act.put]
      refine gate_one (i := 9) (by kernel_rfl) rfl (fun K hK => ?_)
      go_simp
      refine (HCK.out _).mono ?_
      rintro e w5 ⟨rfl, hb5⟩
      have hF' : w5.cell? ⟨p, 0, none⟩ = some (.int .i64 k) ∧ w5.cell? ⟨p, 1, none⟩ = some (.int .i64 m) ∧ w5.cell? ⟨X, 0, none⟩ = some (.int .i64 s) ∧ w5.cell? ⟨X, 1, none⟩ = some (.string (S t)) := ⟨hb5.cell_at hF.1, hb5.cell_at hF.2.1, hb5.cell_at hF.2.2.1, hb5.cell_at hF.2.2.2⟩
      refine hK _ _ ⟨hF', fun _ => trivial⟩ ?_
      clear hK K hF
      have hF := hF'
      clear hF'
      refine gate_takeF (i := 10) (v := ?_) rfl (by kernel_rfl) (by kernel_rfl) (by kernel_rfl) (fun _ _ _ h => h) (by decide) ⟨hF, fun _ => trivial⟩ (Or.inl ⟨by rfl, ?_⟩) ?_
      rotate_left
      · intro wq hSw; obtain ⟨s0, s1, s2, s3⟩ := hSw; go_simp; rfl
      simp only [Act.put]
      refine gate_done (by kernel_rfl) ?_ _
      have HB5 := Lib.hid (HB0.out.keep hb5)
      clear hb5 HB0 hF
      have hlook : ∀ j, (Instr.lookup 92 (.map (some tb)) (.int .i64 s) false).run Tryz.prog (w5.drewN j) = .ok (.bool true) (w5.drewN j) := fun j => by
        have := (HH.out.tk.keep (HB5.out.lat.trans (Lat.drewN w5 j))).look s H2.out.2.2.2.2.1 H2.out.2.2.2.2.2.1
        rw [decide_eq_true HS.out] at this; exact this
      have c3 := HB5.out.lat.cell_at HH.out.c3
      have x0 := HB5.out.c0
      go_upto_region 4 with fail
      go_quiet (fail)
      go_wp2
      go_ret2
      exact ⟨rfl, HB5.out.lat.trans (Lat.drewN _ _)⟩
    · have hfull : 60 ≤ T.length := by
        rcases Nat.lt_or_ge T.length 60 with h3 | h3
        · exact absurd (by unfold tkE; rw [if_neg (fun e => e h1), if_neg hs, if_neg (by omega)]) hE
        · exact h3
      have e1 : tkE k m T s t = 4 := by unfold tkE; rw [if_neg (fun e => e h1), if_neg hs, if_pos hfull]
      rw [e1]
      have d60 : decide ((60 : Int) ≤ (n : Int)) = true := decide_eq_true (by omega)
      have HS := Lib.hid hs; have H2 := Lib.hid h2; have HN := Lib.hid hn
      clear h hck h1 h2 hE hs htl hn e1 hfull
      go_enter Tryz.func28, Tryz.ntmps28
      go_upto_region 1 with fail
      obtain ⟨X, hX⟩ : ∃ X, X = w.heap.size := ⟨_, rfl⟩
      obtain ⟨W0, hW0⟩ : ∃ W0, W0 = w.alloc (.cells #[.int .i64 s, .string (S t)] 37) := ⟨_, rfl⟩
      have hb0 := BX.new w (.int .i64 s) (.string (S t)) 37
      rw [← hW0] at hb0
      rw [← hW0]
      rw [← hX] at hb0
      rw [← hX]
      have HX : Hid (X = w.heap.size) := hX
      clear hW0 hX
      have hF : W0.drew.cell? ⟨p, 0, none⟩ = some (.int .i64 k) ∧ W0.drew.cell? ⟨p, 1, none⟩ = some (.int .i64 m) ∧ W0.drew.cell? ⟨X, 0, none⟩ = some (.int .i64 s) ∧ W0.drew.cell? ⟨X, 1, none⟩ = some (.string (S t)) := ⟨hb0.lat.cell_at HH.out.c0, hb0.lat.cell_at HH.out.c1, hb0.c0, hb0.c1⟩
      have HB0 := Lib.hid (hb0.keep (Lat.drew W0))
      clear hb0
      refine wp_region_gate (fun w' => w'.cell? ⟨p, 0, none⟩ = some (.int .i64 k) ∧ w'.cell? ⟨p, 1, none⟩ = some (.int .i64 m) ∧ w'.cell? ⟨X, 0, none⟩ = some (.int .i64 s) ∧ w'.cell? ⟨X, 1, none⟩ = some (.string (S t))) (fun _ => True) 1000 (by kernel_rfl) ?_
      refine gate_takeF (i := 0) (v := ?_) rfl (by kernel_rfl) (by kernel_rfl) (by kernel_rfl) (fun _ _ _ h => h) (by decide) ⟨hF, fun _ => trivial⟩ (Or.inl ⟨by rfl, ?_⟩) ?_
      rotate_left
      · intro wq hSw; obtain ⟨s0, s1, s2, s3⟩ := hSw; go_simp; rfl
      simp only [Act.put]
      refine gate_takeF (i := 1) (v := ?_) rfl (by kernel_rfl) (by kernel_rfl) (by kernel_rfl) (fun _ _ _ h => h) (by decide) ⟨hF, fun _ => trivial⟩ (Or.inl ⟨by rfl, ?_⟩) ?_
      rotate_left
      · intro wq hSw; obtain ⟨s0, s1, s2, s3⟩ := hSw; go_simp; rfl
      simp only [Act.put]
      refine gate_takeF (i := 2) (v := ?_) rfl (by kernel_rfl) (by kernel_rfl) (by kernel_rfl) (fun _ _ _ h => h) (by decide) ⟨hF, fun _ => trivial⟩ (Or.inl ⟨by rfl, ?_⟩) ?_
      rotate_left
      · intro wq hSw; obtain ⟨s0, s1, s2, s3⟩ := hSw; go_simp; rfl
      simp only [Act.put]
      refine gate_takeF (i := 3) (v := ?_) rfl (by kernel_rfl) (by kernel_rfl) (by kernel_rfl) (fun _ _ _ h => h) (by decide) ⟨hF, fun _ => trivial⟩ (Or.inl ⟨by rfl, ?_⟩) ?_
      rotate_left
      · intro wq hSw; obtain ⟨s0, s1, s2, s3⟩ := hSw; go_simp; rfl
      simp only [Act.put]
      refine gate_takeF (i := 4) (v := ?_) rfl (by kernel_rfl) (by kernel_rfl) (by kernel_rfl) (fun _ _ _ h => h) (by decide) ⟨hF, fun _ => trivial⟩ (Or.inl ⟨by rfl, ?_⟩) ?_
      rotate_left
      · intro wq hSw; obtain ⟨s0, s1, s2, s3⟩ := hSw; go_simp; rfl
      simp only [Act.put]
      refine gate_takeF (i := 5) (v := ?_) rfl (by kernel_rfl) (by kernel_rfl) (by kernel_rfl) (fun _ _ _ h => h) (by decide) ⟨hF, fun _ => trivial⟩ (Or.inl ⟨by rfl, ?_⟩) ?_
      rotate_left
      · intro wq hSw; obtain ⟨s0, s1, s2, s3⟩ := hSw; go_simp; rfl
      simp only [Act.put]
      refine gate_takeF (i := 6) (v := ?_) rfl (by kernel_rfl) (by kernel_rfl) (by kernel_rfl) (fun _ _ _ h => h) (by decide) ⟨hF, fun _ => trivial⟩ (Or.inl ⟨by rfl, ?_⟩) ?_
      rotate_left
      · intro wq hSw; obtain ⟨s0, s1, s2, s3⟩ := hSw; go_simp; rfl
      simp only [Act.put]
      refine gate_takeF (i := 7) (v := ?_) rfl (by kernel_rfl) (by kernel_rfl) (by kernel_rfl) (fun _ _ _ h => h) (by decide) ⟨hF, fun _ => trivial⟩ (Or.inl ⟨by rfl, ?_⟩) ?_
      rotate_left
      · intro wq hSw; obtain ⟨s0, s1, s2, s3⟩ := hSw; go_simp; rfl
      simp only [Act.put]
      refine gate_takeF (i := 8) (v := ?_) rfl (by kernel_rfl) (by kernel_rfl) (by kernel_rfl) (fun _ _ _ h => h) (by decide) ⟨hF, fun _ => trivial⟩ (Or.inl ⟨by rfl, ?_⟩) ?_
      rotate_left
      · intro wq hSw; obtain ⟨s0, s1, s2, s3⟩ := hSw; go_simp; rfl
      simp only [Act.put]
      refine gate_one (i := 9) (by kernel_rfl) rfl (fun K hK => ?_)
      go_simp
      refine (HCK.out _).mono ?_
      rintro e w5 ⟨rfl, hb5⟩
      have hF' : w5.cell? ⟨p, 0, none⟩ = some (.int .i64 k) ∧ w5.cell? ⟨p, 1, none⟩ = some (.int .i64 m) ∧ w5.cell? ⟨X, 0, none⟩ = some (.int .i64 s) ∧ w5.cell? ⟨X, 1, none⟩ = some (.string (S t)) := ⟨hb5.cell_at hF.1, hb5.cell_at hF.2.1, hb5.cell_at hF.2.2.1, hb5.cell_at hF.2.2.2⟩
      refine hK _ _ ⟨hF', fun _ => trivial⟩ ?_
      clear hK K hF
      have hF := hF'
      clear hF'
      refine gate_takeF (i := 10) (v := ?_) rfl (by kernel_rfl) (by kernel_rfl) (by kernel_rfl) (fun _ _ _ h => h) (by decide) ⟨hF, fun _ => trivial⟩ (Or.inl ⟨by rfl, ?_⟩) ?_
      rotate_left
      · intro wq hSw; obtain ⟨s0, s1, s2, s3⟩ := hSw; go_simp; rfl
      simp only [Act.put]
      refine gate_done (by kernel_rfl) ?_ _
      have HB5 := Lib.hid (HB0.out.keep hb5)
      clear hb5 HB0 hF
      have hlook : ∀ j, (Instr.lookup 92 (.map (some tb)) (.int .i64 s) false).run Tryz.prog (w5.drewN j) = .ok (.bool false) (w5.drewN j) := fun j => by
        have := (HH.out.tk.keep (HB5.out.lat.trans (Lat.drewN w5 j))).look s H2.out.2.2.2.2.1 H2.out.2.2.2.2.2.1
        rw [decide_eq_false HS.out] at this; exact this
      have hlen : ∀ j ty, (Builtin.len_ #[92] ty #[.map (some tb)]).run Tryz.prog (w5.drewN j) = .ok (.int .i64 n) (w5.drewN j) := fun j ty => by
        have := (HH.out.tk.keep (HB5.out.lat.trans (Lat.drewN w5 j))).len ty
        rw [← HN.out] at this; exact this
      have c3 := HB5.out.lat.cell_at HH.out.c3
      have x0 := HB5.out.c0
      go_upto_region 4 with fail
      go_quiet (fail)
      go_wp2
      go_ret2
      exact ⟨rfl, HB5.out.lat.trans (Lat.drewN _ _)⟩
  · have e1 : tkE k m T s t = drpE k m s (S t) := by unfold tkE; rw [if_pos h1]
    rw [e1]
    rw [errv_pos h1] at hck
    obtain ⟨E, hEE⟩ : ∃ E, E = drpE k m s (S t) := ⟨_, rfl⟩
    rw [← hEE] at hck ⊢
    have HCK : Hid (∀ W, Calls Tryz.prog 25 #[.int .i64 k, .int .i64 m, .agg #[.int .i64 s, .string (S t)]] W fun e w' => e = .returned (eno E) ∧ Lat W w') := hck
    have HH := Lib.hid h
    clear h hck h1 hE hEE e1
    go_enter Tryz.func28, Tryz.ntmps28
    go_upto_region 1 with fail
    obtain ⟨X, hX⟩ : ∃ X, X = w.heap.size := ⟨_, rfl⟩
    obtain ⟨W0, hW0⟩ : ∃ W0, W0 = w.alloc (.cells #[.int .i64 s, .string (S t)] 37) := ⟨_, rfl⟩
    have hb0 := BX.new w (.int .i64 s) (.string (S t)) 37
    rw [← hW0] at hb0
    rw [← hW0]
    rw [← hX] at hb0
    rw [← hX]
    have HX : Hid (X = w.heap.size) := hX
    clear hW0 hX
    have hF : W0.drew.cell? ⟨p, 0, none⟩ = some (.int .i64 k) ∧ W0.drew.cell? ⟨p, 1, none⟩ = some (.int .i64 m) ∧ W0.drew.cell? ⟨X, 0, none⟩ = some (.int .i64 s) ∧ W0.drew.cell? ⟨X, 1, none⟩ = some (.string (S t)) := ⟨hb0.lat.cell_at HH.out.c0, hb0.lat.cell_at HH.out.c1, hb0.c0, hb0.c1⟩
    have HB0 := Lib.hid (hb0.keep (Lat.drew W0))
    clear hb0
    refine wp_region_gate (fun w' => w'.cell? ⟨p, 0, none⟩ = some (.int .i64 k) ∧ w'.cell? ⟨p, 1, none⟩ = some (.int .i64 m) ∧ w'.cell? ⟨X, 0, none⟩ = some (.int .i64 s) ∧ w'.cell? ⟨X, 1, none⟩ = some (.string (S t))) (fun _ => True) 1000 (by kernel_rfl) ?_
    refine gate_takeF (i := 0) (v := ?_) rfl (by kernel_rfl) (by kernel_rfl) (by kernel_rfl) (fun _ _ _ h => h) (by decide) ⟨hF, fun _ => trivial⟩ (Or.inl ⟨by rfl, ?_⟩) ?_
    rotate_left
    · intro wq hSw; obtain ⟨s0, s1, s2, s3⟩ := hSw; go_simp; rfl
    simp only [Act.put]
    refine gate_takeF (i := 1) (v := ?_) rfl (by kernel_rfl) (by kernel_rfl) (by kernel_rfl) (fun _ _ _ h => h) (by decide) ⟨hF, fun _ => trivial⟩ (Or.inl ⟨by rfl, ?_⟩) ?_
    rotate_left
    · intro wq hSw; obtain ⟨s0, s1, s2, s3⟩ := hSw; go_simp; rfl
    simp only [Act.put]
    refine gate_takeF (i := 2) (v := ?_) rfl (by kernel_rfl) (by kernel_rfl) (by kernel_rfl) (fun _ _ _ h => h) (by decide) ⟨hF, fun _ => trivial⟩ (Or.inl ⟨by rfl, ?_⟩) ?_
    rotate_left
    · intro wq hSw; obtain ⟨s0, s1, s2, s3⟩ := hSw; go_simp; rfl
    simp only [Act.put]
    refine gate_takeF (i := 3) (v := ?_) rfl (by kernel_rfl) (by kernel_rfl) (by kernel_rfl) (fun _ _ _ h => h) (by decide) ⟨hF, fun _ => trivial⟩ (Or.inl ⟨by rfl, ?_⟩) ?_
    rotate_left
    · intro wq hSw; obtain ⟨s0, s1, s2, s3⟩ := hSw; go_simp; rfl
    simp only [Act.put]
    refine gate_takeF (i := 4) (v := ?_) rfl (by kernel_rfl) (by kernel_rfl) (by kernel_rfl) (fun _ _ _ h => h) (by decide) ⟨hF, fun _ => trivial⟩ (Or.inl ⟨by rfl, ?_⟩) ?_
    rotate_left
    · intro wq hSw; obtain ⟨s0, s1, s2, s3⟩ := hSw; go_simp; rfl
    simp only [Act.put]
    refine gate_takeF (i := 5) (v := ?_) rfl (by kernel_rfl) (by kernel_rfl) (by kernel_rfl) (fun _ _ _ h => h) (by decide) ⟨hF, fun _ => trivial⟩ (Or.inl ⟨by rfl, ?_⟩) ?_
    rotate_left
    · intro wq hSw; obtain ⟨s0, s1, s2, s3⟩ := hSw; go_simp; rfl
    simp only [Act.put]
    refine gate_takeF (i := 6) (v := ?_) rfl (by kernel_rfl) (by kernel_rfl) (by kernel_rfl) (fun _ _ _ h => h) (by decide) ⟨hF, fun _ => trivial⟩ (Or.inl ⟨by rfl, ?_⟩) ?_
    rotate_left
    · intro wq hSw; obtain ⟨s0, s1, s2, s3⟩ := hSw; go_simp; rfl
    simp only [Act.put]
    refine gate_takeF (i := 7) (v := ?_) rfl (by kernel_rfl) (by kernel_rfl) (by kernel_rfl) (fun _ _ _ h => h) (by decide) ⟨hF, fun _ => trivial⟩ (Or.inl ⟨by rfl, ?_⟩) ?_
    rotate_left
    · intro wq hSw; obtain ⟨s0, s1, s2, s3⟩ := hSw; go_simp; rfl
    simp only [Act.put]
    refine gate_takeF (i := 8) (v := ?_) rfl (by kernel_rfl) (by kernel_rfl) (by kernel_rfl) (fun _ _ _ h => h) (by decide) ⟨hF, fun _ => trivial⟩ (Or.inl ⟨by rfl, ?_⟩) ?_
    rotate_left
    · intro wq hSw; obtain ⟨s0, s1, s2, s3⟩ := hSw; go_simp; rfl
    simp only [Act.put]
    refine gate_one (i := 9) (by kernel_rfl) rfl (fun K hK => ?_)
    go_simp
    refine (HCK.out _).mono ?_
    rintro e w5 ⟨rfl, hb5⟩
    have hF' : w5.cell? ⟨p, 0, none⟩ = some (.int .i64 k) ∧ w5.cell? ⟨p, 1, none⟩ = some (.int .i64 m) ∧ w5.cell? ⟨X, 0, none⟩ = some (.int .i64 s) ∧ w5.cell? ⟨X, 1, none⟩ = some (.string (S t)) := ⟨hb5.cell_at hF.1, hb5.cell_at hF.2.1, hb5.cell_at hF.2.2.1, hb5.cell_at hF.2.2.2⟩
    refine hK _ _ ⟨hF', fun _ => trivial⟩ ?_
    clear hK K hF
    have hF := hF'
    clear hF'
    refine gate_takeF (i := 10) (v := ?_) rfl (by kernel_rfl) (by kernel_rfl) (by kernel_rfl) (fun _ _ _ h => h) (by decide) ⟨hF, fun _ => trivial⟩ (Or.inl ⟨by rfl, ?_⟩) ?_
    rotate_left
    · intro wq hSw; obtain ⟨s0, s1, s2, s3⟩ := hSw; go_simp; rfl
    simp only [Act.put]
    refine gate_done (by kernel_rfl) ?_ _
    have HB5 := Lib.hid (HB0.out.keep hb5)
    clear hb5 HB0 hF
    go_wp2
    go_ret2
    exact ⟨rfl, HB5.out.lat⟩

set_option maxHeartbeats 4000000 in
set_option maxRecDepth 100000 in
theorem take_ok (G : Nat → Prop) (p k m : Nat) (K : Kn) (T : List Int) (L : List Wt) (s : Int) (t : Bts) (w : World) (h : PeelO G p k m K T L w) (hE : tkE k m T s t = 0) :
    Calls Tryz.prog 28 #[.pointer (some ⟨p, 0, none⟩), .agg #[.int .i64 s, .string (S t)]] w fun e w' => ∃ oa oc, e = .returned (.tuple #[.slice oa (lrnO k K (L ++ [(setZ k s.toNat, t)])).length oc, .nilIface]) ∧ IntsAt w' oa (lrnO k K (L ++ [(setZ k s.toNat, t)])).length oc (lrnO k K (L ++ [(setZ k s.toNat, t)])) ∧
      PeelStep G p k m (lrnK k K (L ++ [(setZ k s.toNat, t)])) (T ++ [s]) (lrnL k K (L ++ [(setZ k s.toNat, t)])) w w' := by
  obtain ⟨kb, tb, a, cap, h⟩ := h
  have hck := fun W => dchk_tells k m s (S t) W
  have h1 : drpE k m s (S t) = 0 := by
    unfold tkE at hE
    split at hE
    · exact absurd hE (by assumption)
    · omega
  have hs : s ∉ T := fun hs => by
    unfold tkE at hE
    rw [if_neg (fun e => e h1), if_pos hs] at hE
    cases hE
  have hT : T.length < 60 := by
    unfold tkE at hE
    rw [if_neg (fun e => e h1), if_neg hs] at hE
    split at hE <;> omega
  have h2 := drpE_zero h1
  obtain ⟨sn, rfl⟩ : ∃ sn : Nat, s = sn := ⟨s.toNat, by omega⟩
  have hk1 : 1 ≤ k := by omega
  have hk16 : k ≤ 16 := by omega
  have hm8 : m ≤ 8 := by omega
  have hs1 : 1 ≤ sn := by omega
  have hs2 : sn ≤ 10000 := by omega
  have htm : t.length = m := by
    have : ((S t).size : Int) = m := h2.2.2.2.2.2.2
    have e : (S t).size = t.length := rfl
    omega
  rw [h1, errv_zero rfl] at hck
  have hzs := setZ_length k sn hk1 hk16 hs2
  have hzl := setZ_lt k sn hk1 hs1
  have hok : WOk k m K (L ++ [(setZ k sn, t)]) := by
    have h0 := h.ok
    refine ⟨h0.kn, fun x hx => ?_, fun x hx => ?_, fun x hx => ?_⟩
    all_goals (rcases List.mem_append.1 hx with hx | hx)
    · exact h0.of x hx
    · rw [List.mem_singleton.1 hx]; exact hzl
    · exact h0.len x hx
    · rw [List.mem_singleton.1 hx]; show (setZ k sn).length ≤ 16; omega
    · exact h0.data x hx
    · rw [List.mem_singleton.1 hx]; exact htm
  have HCK : Hid (∀ W, Calls Tryz.prog 25 #[.int .i64 k, .int .i64 m, .agg #[.int .i64 (sn : Int), .string (S t)]] W fun e w' => e = .returned .nilIface ∧ Lat W w') := hck
  obtain ⟨n, hn⟩ : ∃ n, n = T.length := ⟨_, rfl⟩
  obtain ⟨ln, hln⟩ : ∃ ln, ln = L.length := ⟨_, rfl⟩
  have d60 : decide ((60 : Int) ≤ (n : Int)) = false := decide_eq_false (by omega)
  have HH := Lib.hid h; have HS := Lib.hid hs; have HTL := Lib.hid hT; have HN := Lib.hid hn; have HLN := Lib.hid hln; have HOK := Lib.hid hok
  rw [Int.toNat_natCast]
  obtain ⟨zs, hzsd⟩ : ∃ zs, zs = setZ k sn := ⟨_, rfl⟩
  have HZS := Lib.hid hzsd
  rw [← hzsd]
  obtain ⟨s, hsd⟩ : ∃ s : Int, s = (sn : Int) := ⟨_, rfl⟩
  have HSD := Lib.hid hsd
  rw [← hsd] at HCK
  rw [← hsd]
  have HS1 : Hid (1 ≤ s ∧ s ≤ 10000) := ⟨by omega, by omega⟩
  clear h hck h1 h2 hE hs hT htm hzs hzl hok hn hln hzsd hsd
  go_enter Tryz.func28, Tryz.ntmps28
  go_upto_region 1 with fail
  obtain ⟨X, hX⟩ : ∃ X, X = w.heap.size := ⟨_, rfl⟩
  obtain ⟨W0, hW0⟩ : ∃ W0, W0 = w.alloc (.cells #[.int .i64 s, .string (S t)] 37) := ⟨_, rfl⟩
  have hb0 := BX.new w (.int .i64 s) (.string (S t)) 37
  rw [← hW0] at hb0
  rw [← hW0]
  rw [← hX] at hb0
  rw [← hX]
  have HX : Hid (X = w.heap.size) := hX
  clear hW0 hX
  have hF : W0.drew.cell? ⟨p, 0, none⟩ = some (.int .i64 k) ∧ W0.drew.cell? ⟨p, 1, none⟩ = some (.int .i64 m) ∧ W0.drew.cell? ⟨X, 0, none⟩ = some (.int .i64 s) ∧ W0.drew.cell? ⟨X, 1, none⟩ = some (.string (S t)) := ⟨hb0.lat.cell_at HH.out.c0, hb0.lat.cell_at HH.out.c1, hb0.c0, hb0.c1⟩
  have HB0 := Lib.hid (hb0.keep (Lat.drew W0))
  clear hb0
  refine wp_region_gate (fun w' => w'.cell? ⟨p, 0, none⟩ = some (.int .i64 k) ∧ w'.cell? ⟨p, 1, none⟩ = some (.int .i64 m) ∧ w'.cell? ⟨X, 0, none⟩ = some (.int .i64 s) ∧ w'.cell? ⟨X, 1, none⟩ = some (.string (S t))) (fun _ => True) 1000 (by kernel_rfl) ?_
  refine gate_takeF (i := 0) (v := ?_) rfl (by kernel_rfl) (by kernel_rfl) (by kernel_rfl) (fun _ _ _ h => h) (by decide) ⟨hF, fun _ => trivial⟩ (Or.inl ⟨by rfl, ?_⟩) ?_
  rotate_left
  · intro wq hSw; obtain ⟨s0, s1, s2, s3⟩ := hSw; go_simp; rfl
  simp only [Act.put]
  refine gate_takeF (i := 1) (v := ?_) rfl (by kernel_rfl) (by kernel_rfl) (by kernel_rfl) (fun _ _ _ h => h) (by decide) ⟨hF, fun _ => trivial⟩ (Or.inl ⟨by rfl, ?_⟩) ?_
  rotate_left
  · intro wq hSw; obtain ⟨s0, s1, s2, s3⟩ := hSw; go_simp; rfl
  simp only [Act.put]
  refine gate_takeF (i := 2) (v := ?_) rfl (by kernel_rfl) (by kernel_rfl) (by kernel_rfl) (fun _ _ _ h => h) (by decide) ⟨hF, fun _ => trivial⟩ (Or.inl ⟨by rfl, ?_⟩) ?_
  rotate_left
  · intro wq hSw; obtain ⟨s0, s1, s2, s3⟩ := hSw; go_simp; rfl
  simp only [Act.put]
  refine gate_takeF (i := 3) (v := ?_) rfl (by kernel_rfl) (by kernel_rfl) (by kernel_rfl) (fun _ _ _ h => h) (by decide) ⟨hF, fun _ => trivial⟩ (Or.inl ⟨by rfl, ?_⟩) ?_
  rotate_left
  · intro wq hSw; obtain ⟨s0, s1, s2, s3⟩ := hSw; go_simp; rfl
  simp only [Act.put]
  refine gate_takeF (i := 4) (v := ?_) rfl (by kernel_rfl) (by kernel_rfl) (by kernel_rfl) (fun _ _ _ h => h) (by decide) ⟨hF, fun _ => trivial⟩ (Or.inl ⟨by rfl, ?_⟩) ?_
  rotate_left
  · intro wq hSw; obtain ⟨s0, s1, s2, s3⟩ := hSw; go_simp; rfl
  simp only [Act.put]
  refine gate_takeF (i := 5) (v := ?_) rfl (by kernel_rfl) (by kernel_rfl) (by kernel_rfl) (fun _ _ _ h => h) (by decide) ⟨hF, fun _ => trivial⟩ (Or.inl ⟨by rfl, ?_⟩) ?_
  rotate_left
  · intro wq hSw; obtain ⟨s0, s1, s2, s3⟩ := hSw; go_simp; rfl
  simp only [Act.put]
  refine gate_takeF (i := 6) (v := ?_) rfl (by kernel_rfl) (by kernel_rfl) (by kernel_rfl) (fun _ _ _ h => h) (by decide) ⟨hF, fun _ => trivial⟩ (Or.inl ⟨by rfl, ?_⟩) ?_
  rotate_left
  · intro wq hSw; obtain ⟨s0, s1, s2, s3⟩ := hSw; go_simp; rfl
  simp only [Act.put]
  refine gate_takeF (i := 7) (v := ?_) rfl (by kernel_rfl) (by kernel_rfl) (by kernel_rfl) (fun _ _ _ h => h) (by decide) ⟨hF, fun _ => trivial⟩ (Or.inl ⟨by rfl, ?_⟩) ?_
  rotate_left
  · intro wq hSw; obtain ⟨s0, s1, s2, s3⟩ := hSw; go_simp; rfl
  simp only [Act.put]
  refine gate_takeF (i := 8) (v := ?_) rfl (by kernel_rfl) (by kernel_rfl) (by kernel_rfl) (fun _ _ _ h => h) (by decide) ⟨hF, fun _ => trivial⟩ (Or.inl ⟨by rfl, ?_⟩) ?_
  rotate_left
  · intro wq hSw; obtain ⟨s0, s1, s2, s3⟩ := hSw; go_simp; rfl
  simp only [Act.put]
  refine gate_one (i := 9) (by kernel_rfl) rfl (fun K hK => ?_)
  go_simp
  refine (HCK.out _).mono ?_
  rintro e w5 ⟨rfl, hb5⟩
  have hF' : w5.cell? ⟨p, 0, none⟩ = some (.int .i64 k) ∧ w5.cell? ⟨p, 1, none⟩ = some (.int .i64 m) ∧ w5.cell? ⟨X, 0, none⟩ = some (.int .i64 s) ∧ w5.cell? ⟨X, 1, none⟩ = some (.string (S t)) := ⟨hb5.cell_at hF.1, hb5.cell_at hF.2.1, hb5.cell_at hF.2.2.1, hb5.cell_at hF.2.2.2⟩
  refine hK _ _ ⟨hF', fun _ => trivial⟩ ?_
  clear hK K hF
  have hF := hF'
  clear hF'
  refine gate_takeF (i := 10) (v := ?_) rfl (by kernel_rfl) (by kernel_rfl) (by kernel_rfl) (fun _ _ _ h => h) (by decide) ⟨hF, fun _ => trivial⟩ (Or.inl ⟨by rfl, ?_⟩) ?_
  rotate_left
  · intro wq hSw; obtain ⟨s0, s1, s2, s3⟩ := hSw; go_simp; rfl
  simp only [Act.put]
  refine gate_done (by kernel_rfl) ?_ _
  have HB5 := Lib.hid (HB0.out.keep hb5)
  clear hb5 HB0 hF
  have hsT : s ∉ T := by rw [HSD.out]; exact HS.out
  have HST := Lib.hid hsT
  clear hsT
  have hlook : ∀ j, (Instr.lookup 92 (.map (some tb)) (.int .i64 s) false).run Tryz.prog (w5.drewN j) = .ok (.bool false) (w5.drewN j) := fun j => by
    have := (HH.out.tk.keep (HB5.out.lat.trans (Lat.drewN w5 j))).look s HS1.out.1 HS1.out.2
    rw [decide_eq_false HST.out] at this; exact this
  have hlen : ∀ j ty, (Builtin.len_ #[92] ty #[.map (some tb)]).run Tryz.prog (w5.drewN j) = .ok (.int .i64 n) (w5.drewN j) := fun j ty => by
    have := (HH.out.tk.keep (HB5.out.lat.trans (Lat.drewN w5 j))).len ty
    rw [← HN.out] at this; exact this
  have c3 := HB5.out.lat.cell_at HH.out.c3
  have x0 := HB5.out.c0
  go_upto_region 4 with fail
  go_quiet (fail)
  go_upto_region 8 with fail
  clear hlook hlen
  obtain ⟨w6, hw6⟩ : ∃ w6, w6 = w5.drewN nq := ⟨_, rfl⟩
  have hb6 := HB5.out.keep (Lat.drewN w5 nq)
  rw [← hw6] at hb6
  rw [← hw6]
  clear hw6 c3 x0 HB5
  have hp6 := HH.out.keep (hb6.lat.trans (Lat.drew w6))
  obtain ⟨w7, hrun, htk7, hf7⟩ := hp6.tk.store s HS1.out.1 HS1.out.2 HST.out HTL.out
  have hp7 := hp6.take htk7 hf7 (by have := hp6.most; rw [List.length_append]; omega)
  have ntX : X ≠ tb := by have := HH.out.lt _ HH.out.gt; have := HX.out; omega
  have hF : w6.drew.cell? ⟨p, 3, none⟩ = some (.map (some tb)) ∧ w6.drew.cell? ⟨X, 0, none⟩ = some (.int .i64 s) := ⟨hp6.c3, hb6.c0⟩
  have hF5 : w7.cell? ⟨p, 3, none⟩ = some (.map (some tb)) ∧ w7.cell? ⟨X, 0, none⟩ = some (.int .i64 s) := ⟨hp7.c3, hf7.cell_at hF.2 ntX⟩
  have hF7 : w7.cell? ⟨p, 0, none⟩ = some (.int .i64 k) ∧ w7.cell? ⟨X, 0, none⟩ = some (.int .i64 s) ∧ w7.cell? ⟨X, 1, none⟩ = some (.string (S t)) := ⟨hp7.c0, hF5.2, hf7.cell_at (show w6.drew.cell? _ = _ from hb6.c1) ntX⟩
  have hl7 : Fr G w w7 := (Fr.lat (hb6.lat.trans (Lat.drew w6)) : Fr G w w6.drew).trans hf7 (fun i _ e => by rw [e]; exact HH.out.gt)
  have HF5 := Lib.hid hF5; have HF7 := Lib.hid hF7; have HP7 := Lib.hid hp7; have HL7 := Lib.hid hl7; have HRUN := Lib.hid hrun
  clear hb6 hp6 htk7 hf7 hp7 hF5 hF7 hl7 hrun
  refine wp_region_gate (fun w' => w'.cell? ⟨p, 3, none⟩ = some (.map (some tb)) ∧ w'.cell? ⟨X, 0, none⟩ = some (.int .i64 s)) (fun _ => True) 1000 (by kernel_rfl) ?_
  refine gate_takeF (i := 0) (v := ?_) rfl (by kernel_rfl) (by kernel_rfl) (by kernel_rfl) (fun _ _ _ h => h) (by decide) ⟨hF, fun _ => trivial⟩ (Or.inl ⟨by rfl, ?_⟩) ?_
  rotate_left
  · intro wq hSw; obtain ⟨s0, s1⟩ := hSw; go_simp; rfl
  simp only [Act.put]
  refine gate_takeF (i := 1) (v := ?_) rfl (by kernel_rfl) (by kernel_rfl) (by kernel_rfl) (fun _ _ _ h => h) (by decide) ⟨hF, fun _ => trivial⟩ (Or.inl ⟨by rfl, ?_⟩) ?_
  rotate_left
  · intro wq hSw; obtain ⟨s0, s1⟩ := hSw; go_simp; rfl
  simp only [Act.put]
  refine gate_takeF (i := 2) (v := ?_) rfl (by kernel_rfl) (by kernel_rfl) (by kernel_rfl) (fun _ _ _ h => h) (by decide) ⟨hF, fun _ => trivial⟩ (Or.inl ⟨by rfl, ?_⟩) ?_
  rotate_left
  · intro wq hSw; obtain ⟨s0, s1⟩ := hSw; go_simp; rfl
  simp only [Act.put]
  refine gate_takeF (i := 3) (v := ?_) rfl (by kernel_rfl) (by kernel_rfl) (by kernel_rfl) (fun _ _ _ h => h) (by decide) ⟨hF, fun _ => trivial⟩ (Or.inl ⟨by rfl, ?_⟩) ?_
  rotate_left
  · intro wq hSw; obtain ⟨s0, s1⟩ := hSw; go_simp; rfl
  simp only [Act.put]
  refine gate_takeF (i := 4) (v := ?_) rfl (by kernel_rfl) (by kernel_rfl) (by kernel_rfl) (fun _ _ _ h => h) (by decide) ⟨hF, fun _ => trivial⟩ (Or.inl ⟨by rfl, ?_⟩) ?_
  rotate_left
  · intro wq hSw; obtain ⟨s0, s1⟩ := hSw; go_simp; rfl
  simp only [Act.put]
  refine gate_takeF (i := 5) (v := ?_) rfl (by kernel_rfl) (by kernel_rfl) (by kernel_rfl) (fun _ _ _ h => h) (by decide) ⟨hF, fun _ => trivial⟩ (Or.inl ⟨by rfl, ?_⟩) ?_
  rotate_left
  · intro wq hSw; obtain ⟨s0, s1⟩ := hSw; go_simp; rfl
  simp only [Act.put]
  refine gate_one (i := 6) (by kernel_rfl) rfl (fun K hK => ?_)
  have hrun := HRUN.out
  go_simp
  have hF' := HF5.out
  refine hK _ _ ⟨hF', fun _ => trivial⟩ ?_
  clear hK K hF hF' hrun
  refine gate_done (by kernel_rfl) ?_ _
  go_upto_region 9 with fail
  have hF : w7.drew.cell? ⟨p, 0, none⟩ = some (.int .i64 k) ∧ w7.drew.cell? ⟨X, 0, none⟩ = some (.int .i64 s) ∧ w7.drew.cell? ⟨X, 1, none⟩ = some (.string (S t)) := HF7.out
  have hG : w7.drew.cell? ⟨p, 4, none⟩ = some (.slice a ln cap) := by have := HP7.out.c4; rw [← HLN.out] at this; exact this
  refine wp_region_gate (fun w' => w'.cell? ⟨p, 0, none⟩ = some (.int .i64 k) ∧ w'.cell? ⟨X, 0, none⟩ = some (.int .i64 s) ∧ w'.cell? ⟨X, 1, none⟩ = some (.string (S t))) (fun w' => w'.cell? ⟨p, 4, none⟩ = some (.slice a ln cap)) 16 (by kernel_rfl) ?_
  refine gate_takeF (i := 0) (v := ?_) rfl (by kernel_rfl) (by kernel_rfl) (by kernel_rfl) (fun _ _ _ h => h) (by decide) ⟨hF, fun _ => hG⟩ (Or.inl ⟨by rfl, ?_⟩) ?_
  rotate_left
  · intro wq hSw; obtain ⟨s0, s1, s2⟩ := hSw; go_simp; rfl
  simp only [Act.put]
  refine gate_takeF (i := 1) (v := ?_) rfl (by kernel_rfl) (by kernel_rfl) (by kernel_rfl) (fun _ _ _ h => h) (by decide) ⟨hF, fun _ => hG⟩ (Or.inl ⟨by rfl, ?_⟩) ?_
  rotate_left
  · intro wq hSw; obtain ⟨s0, s1, s2⟩ := hSw; go_simp; rfl
  simp only [Act.put]
  refine gate_takeF (i := 2) (v := ?_) rfl (by kernel_rfl) (by kernel_rfl) (by kernel_rfl) (fun _ _ _ h => h) (by decide) ⟨hF, fun _ => hG⟩ (Or.inl ⟨by rfl, ?_⟩) ?_
  rotate_left
  · intro wq hSw; obtain ⟨s0, s1, s2⟩ := hSw; go_simp; rfl
  simp only [Act.put]
  refine gate_takeF (i := 3) (v := ?_) rfl (by kernel_rfl) (by kernel_rfl) (by kernel_rfl) (fun _ _ _ h => h) (by decide) ⟨hF, fun _ => hG⟩ (Or.inl ⟨by rfl, ?_⟩) ?_
  rotate_left
  · intro wq hSw; obtain ⟨s0, s1, s2⟩ := hSw; go_simp; rfl
  simp only [Act.put]
  refine gate_takeG (i := 4) (v := ?_) rfl (by kernel_rfl) (by kernel_rfl) (by kernel_rfl) (fun _ _ _ h => h) (by decide) (by kernel_rfl) (by kernel_rfl) ⟨hF, fun _ => hG⟩ (Or.inl ⟨by rfl, ?_⟩) ?_
  rotate_left
  · intro wq hSw; obtain ⟨⟨s0, s1, s2⟩, s3⟩ := hSw; go_simp; rfl
  simp only [Act.put]
  refine gate_takeF (i := 5) (v := ?_) rfl (by kernel_rfl) (by kernel_rfl) (by kernel_rfl) (fun _ _ _ h => h) (by decide) ⟨hF, fun _ => hG⟩ (Or.inl ⟨by rfl, ?_⟩) ?_
  rotate_left
  · intro wq hSw; obtain ⟨s0, s1, s2⟩ := hSw; go_simp; rfl
  simp only [Act.put]
  refine gate_takeF (i := 6) (v := ?_) rfl (by kernel_rfl) (by kernel_rfl) (by kernel_rfl) (fun _ _ _ h => h) (by decide) ⟨hF, fun _ => hG⟩ (Or.inl ⟨by rfl, ?_⟩) ?_
  rotate_left
  · intro wq hSw; obtain ⟨s0, s1, s2⟩ := hSw; go_simp; rfl
  simp only [Act.put]
  refine gate_takeF (i := 7) (v := ?_) rfl (by kernel_rfl) (by kernel_rfl) (by kernel_rfl) (fun _ _ _ h => h) (by decide) ⟨hF, fun _ => hG⟩ (Or.inl ⟨by rfl, ?_⟩) ?_
  rotate_left
  · intro wq hSw; obtain ⟨s0, s1, s2⟩ := hSw; go_simp; rfl
  simp only [Act.put]
  refine gate_takeF (i := 8) (v := ?_) rfl (by kernel_rfl) (by kernel_rfl) (by kernel_rfl) (fun _ _ _ h => h) (by decide) ⟨hF, fun _ => hG⟩ (Or.inl ⟨by rfl, ?_⟩) ?_
  rotate_left
  · intro wq hSw; obtain ⟨s0, s1, s2⟩ := hSw; go_simp; rfl
  simp only [Act.put]
  refine gate_takeF (i := 9) (v := ?_) rfl (by kernel_rfl) (by kernel_rfl) (by kernel_rfl) (fun _ _ _ h => h) (by decide) ⟨hF, fun _ => hG⟩ (Or.inl ⟨by rfl, ?_⟩) ?_
  rotate_left
  · intro wq hSw; obtain ⟨s0, s1, s2⟩ := hSw; go_simp; rfl
  simp only [Act.put]
  refine gate_takeF (i := 10) (v := ?_) rfl (by kernel_rfl) (by kernel_rfl) (by kernel_rfl) (fun _ _ _ h => h) (by decide) ⟨hF, fun _ => hG⟩ (Or.inl ⟨by rfl, ?_⟩) ?_
  rotate_left
  · intro wq hSw; obtain ⟨s0, s1, s2⟩ := hSw; go_simp; rfl
  simp only [Act.put]
  refine gate_takeF (i := 12) (v := ?_) rfl (by kernel_rfl) (by kernel_rfl) (by kernel_rfl) (fun _ _ _ h => h) (by decide) ⟨hF, fun _ => hG⟩ (Or.inl ⟨by rfl, ?_⟩) ?_
  rotate_left
  · intro wq hSw; obtain ⟨s0, s1, s2⟩ := hSw; go_simp; rfl
  simp only [Act.put]
  refine gate_takeF (i := 13) (v := ?_) rfl (by kernel_rfl) (by kernel_rfl) (by kernel_rfl) (fun _ _ _ h => h) (by decide) ⟨hF, fun _ => hG⟩ (Or.inl ⟨by rfl, ?_⟩) ?_
  rotate_left
  · intro wq hSw; obtain ⟨s0, s1, s2⟩ := hSw; go_simp; rfl
  simp only [Act.put]
  refine gate_one (i := 11) (by kernel_rfl) rfl (fun K hK => ?_)
  have hdo := dropOf_new k sn w7.drew hk1 hk16 hs1 hs2
  rw [← HZS.out, ← HSD.out] at hdo
  go_simp
  refine hdo.mono ?_
  rintro e w8 ⟨oa, oc, rfl, hoi, hob, hb8⟩
  have hF' : w8.cell? ⟨p, 0, none⟩ = some (.int .i64 k) ∧ w8.cell? ⟨X, 0, none⟩ = some (.int .i64 s) ∧ w8.cell? ⟨X, 1, none⟩ = some (.string (S t)) := ⟨hb8.cell_at hF.1, hb8.cell_at hF.2.1, hb8.cell_at hF.2.2⟩
  have hG' := hb8.cell_at hG
  refine hK _ _ ⟨hF', fun _ => hG'⟩ ?_
  clear hK K hF hG hdo
  have hF := hF'
  have hG := hG'
  clear hF' hG'
  have hp8 := HP7.out.keep ((Lat.drew w7).trans hb8)
  obtain ⟨rows, ho8, hw8⟩ := hp8.row
  have hrl : rows.length = ln := by rw [hw8.1, ← HLN.out]
  rw [← HLN.out] at ho8
  have HO8 := Lib.hid ho8; have HW8 := Lib.hid hw8; have HRL := Lib.hid hrl; have HP8 := Lib.hid hp8; have HB8 := Lib.hid hb8; have HOI := Lib.hid hoi; have HOB := Lib.hid hob
  clear ho8 hw8 hrl hp8 hb8 hoi hob
  refine gate_takeF (i := 14) (v := ?_) rfl (by kernel_rfl) (by kernel_rfl) (by kernel_rfl) (fun _ _ _ h => h) (by decide) ⟨hF, fun _ => hG⟩ (Or.inl ⟨by rfl, ?_⟩) ?_
  rotate_left
  · intro wq hSw; obtain ⟨s0, s1, s2⟩ := hSw; go_simp; rfl
  simp only [Act.put]
  refine gate_one (i := 15) (by kernel_rfl) rfl (fun K hK => ?_)
  go_simp
  refine hK _ _ ⟨⟨(Lat.alloc _ _).cell_at hF.1, (Lat.alloc _ _).cell_at hF.2.1, (Lat.alloc _ _).cell_at hF.2.2⟩, fun _ => (Lat.alloc _ _).cell_at hG⟩ ?_
  clear hK K
  refine gate_one (i := 16) (by kernel_rfl) rfl (fun K hK => ?_)
  refine appR_step w8 0 rfl (.tmp 47) (.tmp 58) 93 rfl 102 _ 2 40 Tryz.underlying93 info_wait rfl (by decide) (by decide) _ _ _ rfl HO8.out rfl rfl (fun u hu => by simp at hu; rcases hu with rfl | rfl <;> rfl) (by rw [HRL.out]; have := HTL.out; have := HH.out.most; have := HLN.out; omega) (Nat.zero_le _) ?_
  rw [HRL.out]
  intro g' cap' w9 hown9 hb9 hs9
  have hs9 : AppStep w8 w9 (.slice a ln cap) (.slice (some ⟨g', 0, none⟩) (ln + 1) cap') := hs9
  have hnp : (Value.slice a ln cap).ownBlock ≠ some p := fun e => by rw [HLN.out] at e; exact (HP8.out.own p e).2.1 rfl
  have hnX : (Value.slice a ln cap).ownBlock ≠ some X := fun e => by
    rw [HLN.out] at e
    have := HH.out.lt X (HP8.out.own X e).1
    have := HX.out
    omega
  have hF9 : w9.cell? ⟨p, 0, none⟩ = some (.int .i64 k) ∧ w9.cell? ⟨X, 0, none⟩ = some (.int .i64 s) ∧ w9.cell? ⟨X, 1, none⟩ = some (.string (S t)) := ⟨hs9.cell hF.1 hnp, hs9.cell hF.2.1 hnX, hs9.cell hF.2.2 hnX⟩
  have hG9 : w9.cell? ⟨p, 4, none⟩ = some (.slice a ln cap) := hs9.cell hG hnp
  have hpl8 := World.block_lt_of_cell? _ _ hG
  have hf9 : w9.frozen? ⟨p, 4, none⟩ = false := by
    rw [World.frozen?_of_block (w := w8) (a := ⟨p, 4, none⟩) (hs9.block p hpl8 (fun e => hnp e.symm))]; exact HP8.out.free
  have hws8 : w.heap.size ≤ w8.heap.size := by have := HL7.out.size; have := HB8.out.size; have := (Lat.drew w7).size; omega
  have hp10 := (HP8.out).push (B := w.heap.size) HH.out.lt hws8 (by rw [List.length_append]; have := HH.out.most; simp; omega) HW8.out (g := g') (cap' := cap') (w5 := w9) (by rw [← HLN.out]; exact hown9) (by rw [← HLN.out]; exact hs9) hb9 HOI.out (fun b o e => by have := HOB.out b o e; have := HL7.out.size; have := (Lat.drew w7).size; omega) (by rw [HZS.out]; exact HOK.out)
  rw [← HLN.out] at hp10
  have hfr10 : Fr G w (w9.setCell ⟨p, 4, none⟩ (.slice (some ⟨g', 0, none⟩) (ln + 1) cap')) := (((HL7.out.next (Lat.drew w7)).next HB8.out).trans (Fr.app hs9 ⟨hb9.os, hb9.tape, hb9.output⟩) (fun i _ e => by
    rw [HLN.out] at e
    exact (HP8.out.own i e).1)).then_set ⟨p, 4, none⟩ _ (.inl HH.out.gp)
  have HP10 := Lib.hid hp10; have HFR10 := Lib.hid hfr10
  refine hK _ _ (FG.past (by kernel_rfl) hF9) ?_
  clear hK K hF hG hown9 hb9 hs9 hnp hnX hp10 hfr10 hpl8 hws8
  refine gate_takeF (i := 17) (v := ?_) rfl (by kernel_rfl) (by kernel_rfl) (by kernel_rfl) (fun _ _ _ h => h) (by decide) (FG.past (by kernel_rfl) hF9) (Or.inl ⟨by rfl, ?_⟩) ?_
  rotate_left
  · intro wq hSw; go_simp; rfl
  simp only [Act.put]
  refine gate_takeF (i := 18) (v := ?_) rfl (by kernel_rfl) (by kernel_rfl) (by kernel_rfl) (fun _ _ _ h => h) (by decide) (FG.past (by kernel_rfl) hF9) (Or.inl ⟨by rfl, ?_⟩) ?_
  rotate_left
  · intro wq hSw; go_simp; rfl
  simp only [Act.put]
  have hX0 : X ≠ p := by have := HH.out.lt _ HH.out.gp; have := HX.out; omega
  have hF8 : ∀ x : Value, (w9.setCell ⟨p, 4, none⟩ x).cell? ⟨p, 0, none⟩ = some (.int .i64 k) ∧ (w9.setCell ⟨p, 4, none⟩ x).cell? ⟨X, 0, none⟩ = some (.int .i64 s) ∧ (w9.setCell ⟨p, 4, none⟩ x).cell? ⟨X, 1, none⟩ = some (.string (S t)) := fun x =>
    ⟨by rw [World.cell?_setCell_other _ _ _ _ (by simp)]; exact hF9.1, by rw [World.cell?_setCell_other _ _ _ _ (by intro e; injection e with e1 _ _; exact hX0 e1.symm)]; exact hF9.2.1, by rw [World.cell?_setCell_other _ _ _ _ (by intro e; injection e with e1 _ _; exact hX0 e1.symm)]; exact hF9.2.2⟩
  have HF8 := Lib.hid hF8
  refine gate_one (i := 19) (by kernel_rfl) rfl (fun K hK => ?_)
  clear hF8 hF9
  go_simp
  refine hK _ _ (FG.past (by kernel_rfl) (HF8.out _)) ?_
  clear hK K
  refine gate_done (by kernel_rfl) ?_ _
  clear hG9 hf9 hX0
  have hln := learn_any _ p k m K (T ++ [s]) (L ++ [(zs, t)]) _ ⟨kb, tb, _, cap', HP10.out⟩ hk16 hm8
  have HLRN := Lib.hid hln
  clear hln
  go_wp2_with (go_at_call 48; refine HLRN.out.mono ?_; rintro e w11 ⟨ra, rc, rfl, hri, hst⟩)
  go_ret2
  obtain ⟨G2, ho2, hG2⟩ := hst.obj
  refine ⟨ra, rc, rfl, hri, HFR10.out.trans hst.fr (fun i hi e => ?_), ⟨G2, ho2, fun i hi => ?_⟩, ⟨hst.maps.1.trans (HP10.out.c2.trans HH.out.c2.symm), hst.maps.2.trans (HP10.out.c3.trans HH.out.c3.symm)⟩⟩
  · rcases e.2 with e | e
    · exact e
    · omega
  · rcases hG2 i hi with e | e
    · exact e.2
    · exact .inr (Nat.le_trans HFR10.out.size e)
end Go.Proofs.YtcpookgbneoilaaGreatDoor

namespace Go.Proofs.YtcpookgbneoilaaGreatDoor

theorem xorL_noughts_l (a : List UInt8) (m : Nat) (h : a.length = m) : xorL (noughts m) a = a := by rw [xorL_comm, ← h, xorL_noughts]
theorem setZ_unit {k i : Nat} (h : i < k) : setZ k (i + 1) = [(i : Int)] := by unfold setZ; rw [if_pos (by omega)]; rfl
theorem bl_lens {ss : List ByteArray} (h : ChkOk ss) : ∀ j, j < ss.length → (bl ss j).length = szAt ss 0 := fun j hj => by rw [bl_length]; exact h.all j hj
theorem made_unit {ss : List ByteArray} (h : chk ss = 0) {i : Nat} (hi : i < ss.length) : dmkE ss ((i : Int) + 1) = 0 ∧ dmkS ss ((i : Int) + 1) = (i : Int) + 1 ∧ dmkD ss ((i : Int) + 1) = S (bl ss i) := by
  have ho := chk_ok h
  have hm := ho.most
  have e0 : dmkE ss ((i : Int) + 1) = 0 := by unfold dmkE; rw [if_neg (by omega), if_neg (by omega)]
  refine ⟨e0, by unfold dmkS; rw [if_pos e0], ?_⟩
  unfold dmkD
  rw [if_pos e0, show ((i : Int) + 1).toNat = i + 1 by omega, setZ_unit hi]
  show S (xorL (noughts (szAt ss 0)) (bl ss ([(i : Int)].getD 0 0).toNat)) = S (bl ss i)
  have e1 : ([(i : Int)].getD 0 0).toNat = i := by simp
  rw [e1, xorL_noughts_l _ _ (bl_lens ho i hi)]
theorem drpE_ok {k m : Nat} {s : Int} {t : ByteArray} (h1 : 1 ≤ k) (h2 : k ≤ 16) (h3 : 1 ≤ m) (h4 : m ≤ 8) (h5 : 1 ≤ s) (h6 : s ≤ 10000) (h7 : t.size = m) : drpE k m s t = 0 := by
  unfold drpE; rw [if_neg (by omega), if_neg (by omega)]
theorem made_sum {ss : List ByteArray} {seed : Int} (h : dmkE ss seed = 0) : chk ss = 0 ∧ 1 ≤ seed ∧ seed ≤ 10000 ∧ dmkS ss seed = seed ∧ dmkD ss seed = S (sumTo ss (szAt ss 0) (setZ ss.length seed.toNat) (setZ ss.length seed.toNat).length) ∧ (dmkD ss seed).size = szAt ss 0 := by
  obtain ⟨hc, h1, h2⟩ := dmkE_zero h
  have ho := chk_ok hc
  have hp := ho.pos
  have e : dmkD ss seed = S (sumTo ss (szAt ss 0) (setZ ss.length seed.toNat) (setZ ss.length seed.toNat).length) := by unfold dmkD; rw [if_pos h]
  refine ⟨hc, h1, h2, by unfold dmkS; rw [if_pos h], e, ?_⟩
  rw [e]
  show (sumTo _ _ _ _).length = _
  refine sumTo_length ss _ _ _ fun j hj => ho.all _ ?_
  have := setZ_lt ss.length seed.toNat (by omega) (by omega) _ (getD_mem _ j hj)
  omega
end Go.Proofs.YtcpookgbneoilaaGreatDoor

namespace Go.Proofs.YtcpookgbneoilaaGreatDoor
open Go.ChangeShapes Go.WideShapes Go.ChangeAt Go.RowKit Go.Joins Go.Deep

def I64 (z : Int) : Prop := -9223372036854775808 ≤ z ∧ z ≤ 9223372036854775807
theorem wf_I64 {n : Int} (h : (Lit.int .i64 n).wf = true) : I64 n := by simpa [I64, Lit.wf, IntKind.min, IntKind.max, IntKind.signed, IntKind.bits] using h
set_option maxRecDepth 100000
section
variable {H : Type} {enc : TypeId × Value → H} {P : Program} {w : World} {base : Nat} {spare : Nat → Bool} {held : Bool}
theorem open_intCell {t : TypeId} {fuel : Nat} {v : Value} {x : DataW H × List MemPlace} (ht : P.underlying t = some (.int .i64)) (h : DataW.trod enc P w base spare held fuel t [v] = some x) : ∃ z, v = .int .i64 z ∧ I64 z := by
  obtain ⟨z, hz, _, hw⟩ := DataW.trod_int ht h
  simp at hz
  exact ⟨z, hz, wf_I64 hw⟩
theorem open_IntsCell {t e : TypeId} {fuel : Nat} {v : Value} {x : DataW H × List MemPlace} (ht : P.underlying t = some (.slice e)) (he : P.underlying e = some (.int .i64)) (hc : P.cellsOf e = 1) (h : DataW.trod enc P w base spare held fuel t [v] = some x) :
    ∃ a n cap zs, v = .slice a n cap ∧ IntsAt w a n cap zs := by
  rcases open_ints ht he hc h with ⟨hcs, _⟩ | ⟨y, l, c, zs, hcs, _⟩
  · simp at hcs; subst hcs
    exact ⟨none, 0, 0, [], rfl, IntsAt.nil w⟩
  · simp at hcs; subst hcs
    obtain ⟨zs', h'⟩ := open_IntsAt (w := w) (a := some y) (n := l) (cap := c) (d := x.1) (ps := x.2) ht he hc ⟨fuel, h⟩
    exact ⟨_, _, _, zs', rfl, h'⟩
theorem open_slice_fields {t e : TypeId} {fs : Array Field} {fuel : Nat} {cs : List Value} {x : DataW H × List MemPlace} (ht : P.underlying t = some (.slice e)) (he : P.underlying e = some (.struct fs))
    (hone : oneCellFields P fs = true) (hC : P.cellsOf e = fs.size) (h : DataW.trod enc P w base spare held fuel t cs = some x) :
    (cs = [.slice none 0 0]) ∨
    ∃ (a : Addr) (len cap m : Nat), cs = [.slice (some a) len cap] ∧ len ≤ cap ∧ cap ≤ maxLen ∧ len ≤ m ∧
      ∀ i, i < m → ∃ n : Nat, ∀ (j : Nat) (f : Field), fs[j]? = some f → ∃ (v : Value) (y : DataW H × List MemPlace), w.cell? (a.add (i * fs.size + j)) = some v ∧ DataW.trod enc P w base spare held n f.type [v] = some y := by
  rcases open_slice ht h with h0 | ⟨a, len, cap, m, n, D, Pl, hcs, hb, hl, hm, hmm, hx, hi⟩
  · exact .inl h0.1
  · refine .inr ⟨a, len, cap, m, hcs, hl, hm, by rw [hmm]; split <;> omega, fun i him => ?_⟩
    obtain ⟨cs', hc, ht'⟩ := hi i him
    rw [hC] at hc
    obtain ⟨ys, n', hn', hy, hlen, hyl, hf⟩ := DataW.trod_struct he ht'
    obtain ⟨_, hcl, hat⟩ := World.cells?_some hc
    refine ⟨n', fun j f hj => ?_⟩
    obtain ⟨ho, hk⟩ := hone_of hone j f hj
    have hjl : j < fs.size := (Array.getElem?_eq_some_iff.1 hj).1
    have hcell := hat j hjl
    have hv : cs'[j]? = some (cs'[j]'(by omega)) := List.getElem?_eq_getElem (by omega)
    have h1 := hf j f hj
    rw [ho, hk] at h1
    have hone' : (cs'.drop j).take 1 = [cs'[j]'(by omega)] := by
      rw [List.drop_eq_getElem_cons (by omega)]
      rfl
    rw [hone'] at h1
    have hys : ys[j]? = some (ys[j]'(by omega)) := List.getElem?_eq_getElem (by omega)
    refine ⟨_, _, ?_, h1.trans hys⟩
    rw [← Go.Deep.add_add, hcell, hv]
end
end Go.Proofs.YtcpookgbneoilaaGreatDoor

namespace Go.Proofs.YtcpookgbneoilaaGreatDoor
open Go.ChangeShapes Go.WideShapes Go.ChangeAt Go.RowKit Go.Joins Go.Deep

set_option maxRecDepth 100000
structure Dr where
  s : Int
  t : ByteArray
instance : Inhabited Dr := ⟨⟨0, .empty⟩⟩
def Dr.row (d : Dr) : List Value := [.int .i64 d.s, .string d.t]
abbrev Dr.v (d : Dr) : Value := .agg #[.int .i64 d.s, .string d.t]
structure DropAt (s : Int) (t : ByteArray) : Prop where
  s : I64 s
  t : t.size ≤ maxLen
structure DropsAt (w : World) (a : Option Addr) (n cap : Nat) (ds : List Dr) : Prop where
  rows : RowsAt w 2 a n cap (ds.map Dr.row)
  wf : ∀ d ∈ ds, DropAt d.s d.t
theorem DropsAt.len {w : World} {a : Option Addr} {n cap : Nat} {ds : List Dr} (h : DropsAt w a n cap ds) : ds.length = n := by have := h.rows.len; rwa [List.length_map] at this
theorem DropsAt.keep {w w' : World} {a : Option Addr} {n cap : Nat} {ds : List Dr} (h : DropsAt w a n cap ds) (hb : Lat w w') : DropsAt w' a n cap ds := ⟨h.rows.keep hb, h.wf⟩
theorem DropsAt.nil (w : World) : DropsAt w none 0 0 [] := ⟨RowsAt.nil w 2, by simp⟩
theorem DropsAt.at_ {w : World} {a : Option Addr} {n cap : Nat} {ds : List Dr} (h : DropsAt w a n cap ds) (hn : n ≠ 0) : ∃ b off, a = some ⟨b, off, none⟩ ∧ ∀ j d, ds[j]? = some d → w.cell? ⟨b, off + j * 2, none⟩ = some (.int .i64 d.s) ∧ w.cell? ⟨b, off + j * 2 + 1, none⟩ = some (.string d.t) := by
  obtain ⟨b, o, ha, hc⟩ := h.rows.at_ hn
  refine ⟨b, o, ha, fun j d hd => ?_⟩
  have hr : (ds.map Dr.row)[j]? = some d.row := by rw [List.getElem?_map, hd]; rfl
  obtain ⟨_, hc2⟩ := hc j _ hr
  exact ⟨by simpa using hc2 0 _ rfl, by rw [Nat.add_assoc]; exact hc2 1 _ rfl⟩
section
variable {H : Type} {enc : TypeId × Value → H} {P : Program} {w : World} {base : Nat} {spare : Nat → Bool} {held : Bool}
theorem open_strCell {t : TypeId} {fuel : Nat} {v : Value} {x : DataW H × List MemPlace} (ht : P.underlying t = some .string) (h : DataW.trod enc P w base spare held fuel t [v] = some x) : ∃ s, v = .string s ∧ s.size ≤ maxLen := by
  obtain ⟨s, hs, _, hl⟩ := DataW.trod_string ht h
  simp at hs
  exact ⟨s, hs, hl⟩
theorem open_Drop {r : Reach} {b0 : Nat} {v : Value} {d : DataW H} {p : List MemPlace} (hv : Value.okWide Tryz.prog w r b0 37 v) (h : DataW.Trod enc Tryz.prog w base spare held 37 v d p) :
    ∃ (s : Int) (t : ByteArray), v = .agg #[.int .i64 s, .string t] ∧ DropAt s t := by
  obtain ⟨v0, v1, y0, y1, m, rfl, _, _, h0, h1⟩ := open_agg2 Tryz.underlying37 (by kernel_rfl) (by kernel_rfl) hv h
  obtain ⟨z0, rfl, w0⟩ := open_intCell Tryz.underlying3 h0
  obtain ⟨z1, rfl, w1⟩ := open_strCell Tryz.underlying9 h1
  exact ⟨z0, z1, rfl, w0, w1⟩
theorem open_DropsAt {d : DataW H} {ps : List MemPlace} {a : Option Addr} {n cap : Nat}
    (h : DataW.Trod enc Tryz.prog w base spare held 22 (.slice a n cap) d ps) : ∃ l, DropsAt w a n cap l := by
  obtain ⟨fuel, hf⟩ := h
  rcases open_slice_fields Tryz.underlying22 Tryz.underlying37 (by kernel_rfl) (by kernel_rfl) hf with hcs | ⟨x, l, c, m, hcs, hl, hm, hlm, hi⟩
  · simp [Value.cells] at hcs
    obtain ⟨rfl, rfl, rfl⟩ := hcs
    exact ⟨[], DropsAt.nil w⟩
  · simp [Value.cells] at hcs
    obtain ⟨rfl, rfl, rfl⟩ := hcs
    have hb : ∀ i, i < n → ∃ p : Dr, (w.cell? (x.add (i * 2 + 0)) = some (.int .i64 p.s) ∧ w.cell? (x.add (i * 2 + 1)) = some (.string p.t)) ∧ DropAt p.s p.t := fun i hin => by
      obtain ⟨q, hf⟩ := hi i (by omega)
      obtain ⟨v0, y0, c0, t0⟩ := hf 0 _ rfl
      obtain ⟨v1, y1, c1, t1⟩ := hf 1 _ rfl
      obtain ⟨z0, rfl, w0⟩ := open_intCell Tryz.underlying3 t0
      obtain ⟨z1, rfl, w1⟩ := open_strCell Tryz.underlying9 t1
      exact ⟨⟨z0, z1⟩, ⟨c0, c1⟩, w0, w1⟩
    obtain ⟨B, hB⟩ := Go.Deep.choose_lt hb
    refine ⟨(List.range n).map B, ⟨by simp, hl, hm, fun hn => ?_⟩, fun p hp => ?_⟩
    · have h0 := (hB 0 (by omega)).1.1
      have hs : x = ⟨x.block, x.off, none⟩ := by
        have := World.cell?_spot h0
        cases x with | mk b o s => cases s <;> simp_all [Addr.add]
      refine ⟨x.block, x.off, by rw [← hs], fun j r hr => ?_⟩
      rw [List.getElem?_map, List.getElem?_map] at hr
      have hj : j < n := by
        rcases Nat.lt_or_ge j n with h | h
        · exact h
        · rw [List.getElem?_eq_none (by simpa using h)] at hr; cases hr
      rw [List.getElem?_range hj] at hr
      simp at hr
      subst hr
      obtain ⟨c0, c1⟩ := (hB j hj).1
      rw [hs, Addr.add_lit] at c0 c1
      refine ⟨rfl, fun i u hu => ?_⟩
      match i, hu with
      | 0, hu => simp [Dr.row] at hu; subst hu; exact c0
      | 1, hu => simp [Dr.row] at hu; subst hu; exact c1
    · obtain ⟨i, hi, rfl⟩ := List.mem_map.1 hp
      exact (hB i (List.mem_range.1 hi)).2
end
end Go.Proofs.YtcpookgbneoilaaGreatDoor

namespace Go.Proofs.YtcpookgbneoilaaGreatDoor
open Go.ChangeShapes Go.WideShapes Go.ChangeAt Go.RowKit

theorem info_DropE : (Tryz.prog.info? 37).map (fun i => (i.zero, i.size, i.bytes)) = some (some (.agg #[.int .i64 0, .string { data := #[] }]), 2, 24) := by kernel_rfl
structure EarIn (G Gp : Nat → Prop) (x p k m n : Nat) (q : Int) (K : Kn) (L : List Wt) (ds : List Dr) (a : Option Addr) (cap : Nat) (w : World) : Prop where
  lt : ∀ i, G i → i < w.heap.size
  gx : G x
  sub : ∀ i, Gp i → G i
  npx : ¬ Gp x
  c0 : w.cell? ⟨x, 0, none⟩ = some (.pointer (some ⟨p, 0, none⟩))
  c1 : w.cell? ⟨x, 1, none⟩ = some (.int .i64 k)
  c2 : w.cell? ⟨x, 2, none⟩ = some (.int .i64 m)
  c3 : w.cell? ⟨x, 3, none⟩ = some (.int .i64 n)
  c4 : w.cell? ⟨x, 4, none⟩ = some (.int .i64 q)
  c5 : w.cell? ⟨x, 5, none⟩ = some (.slice a ds.length cap)
  f4 : w.frozen? ⟨x, 4, none⟩ = false
  f5 : w.frozen? ⟨x, 5, none⟩ = false
  peel : PeelO Gp p k m K (ds.map Dr.s) L w
  row : OwnR w 0 37 2 (.slice a ds.length cap) (ds.map Dr.row)
  own : ∀ i, (Value.slice a ds.length cap).ownBlock = some i → G i ∧ i ≠ x ∧ ¬ Gp i
  ok : ∀ d ∈ ds, drpE k m d.s d.t = 0
def EarO (G : Nat → Prop) (x k m n : Nat) (q : Int) (K : Kn) (L : List Wt) (ds : List Dr) (w : World) : Prop := ∃ Gp p a cap, EarIn G Gp x p k m n q K L ds a cap w
theorem PeelO.most {G : Nat → Prop} {p k m : Nat} {K : Kn} {T : List Int} {L : List Wt} {w : World} (h : PeelO G p k m K T L w) : T.length ≤ 60 := by
  obtain ⟨kb, tb, a, cap, h⟩ := h
  exact h.tk.most
theorem PeelO.lt {G : Nat → Prop} {p k m : Nat} {K : Kn} {T : List Int} {L : List Wt} {w : World} (h : PeelO G p k m K T L w) : ∀ i, G i → i < w.heap.size := by
  obtain ⟨kb, tb, a, cap, h⟩ := h
  exact h.lt
section
variable {G Gp H : Nat → Prop} {x p k m n : Nat} {q : Int} {K K' : Kn} {L L' : List Wt} {ds : List Dr} {a : Option Addr} {cap : Nat} {w w1 w2 w3 w4 w' : World}
theorem EarIn.most (h : EarIn G Gp x p k m n q K L ds a cap w) : ds.length ≤ 60 := by have := h.peel.most; rwa [List.length_map] at this
theorem EarIn.fr (h : EarIn G Gp x p k m n q K L ds a cap w) (hf : Fr H w w') (hd : ∀ i, G i → ¬ H i) : EarIn G Gp x p k m n q K L ds a cap w' := by
  have dx := hd _ h.gx
  have lx := h.lt _ h.gx
  exact ⟨fun i hi => Nat.lt_of_lt_of_le (h.lt i hi) hf.size, h.gx, h.sub, h.npx, hf.cell_at h.c0 dx, hf.cell_at h.c1 dx, hf.cell_at h.c2 dx, hf.cell_at h.c3 dx, hf.cell_at h.c4 dx, hf.cell_at h.c5 dx, hf.free_at lx h.f4 dx, hf.free_at lx h.f5 dx,
    h.peel.fr hf (fun i hi => hd i (h.sub i hi)), h.row.fr hf (fun i hi => hd _ (h.own i hi).1), h.own, h.ok⟩
theorem EarIn.keep (h : EarIn G Gp x p k m n q K L ds a cap w) (hb : Lat w w') : EarIn G Gp x p k m n q K L ds a cap w' := h.fr (H := fun _ => False) (Fr.lat hb) (fun _ _ e => e)
theorem EarO.fr (h : EarO G x k m n q K L ds w) (hf : Fr H w w') (hd : ∀ i, G i → ¬ H i) : EarO G x k m n q K L ds w' := by
  obtain ⟨Gp, p, a, cap, h⟩ := h
  exact ⟨Gp, p, a, cap, h.fr hf hd⟩
theorem EarO.keep (h : EarO G x k m n q K L ds w) (hb : Lat w w') : EarO G x k m n q K L ds w' := by
  obtain ⟨Gp, p, a, cap, h⟩ := h
  exact ⟨Gp, p, a, cap, h.keep hb⟩
theorem EarO.lt (h : EarO G x k m n q K L ds w) : ∀ i, G i → i < w.heap.size := by
  obtain ⟨Gp, p, a, cap, h⟩ := h
  exact h.lt
theorem EarO.most (h : EarO G x k m n q K L ds w) : ds.length ≤ 60 := by
  obtain ⟨Gp, p, a, cap, h⟩ := h
  exact h.most
theorem EarIn.count (h : EarIn G Gp x p k m n q K L ds a cap w) (q' : Int) : EarIn G Gp x p k m n q' K L ds a cap (w.setCell ⟨x, 4, none⟩ (.int .i64 q')) := by
  have hf : Fr (fun i => i = x) w (w.setCell ⟨x, 4, none⟩ (.int .i64 q')) := Fr.set _ _ _ rfl
  have hs : (w.setCell ⟨x, 4, none⟩ (.int .i64 q')).heap.size = w.heap.size := by simp [World.setCell]
  have c : ∀ j v, j ≠ 4 → w.cell? ⟨x, j, none⟩ = some v → (w.setCell ⟨x, 4, none⟩ (.int .i64 q')).cell? ⟨x, j, none⟩ = some v := fun j v hj hx => by
    rw [World.cell?_setCell_other _ _ _ _ (by intro e; injection e with _ e _; exact hj e.symm)]; exact hx
  exact ⟨fun i hi => by rw [hs]; exact h.lt i hi, h.gx, h.sub, h.npx, c _ _ (by decide) h.c0, c _ _ (by decide) h.c1, c _ _ (by decide) h.c2, c _ _ (by decide) h.c3, World.cell?_setCell_same _ _ _ h.c4, c _ _ (by decide) h.c5,
    by rw [World.frozen?_setCell]; exact h.f4, by rw [World.frozen?_setCell]; exact h.f5, h.peel.fr hf (fun i hi e => h.npx (e ▸ hi)), h.row.fr hf (fun i hi e => (h.own i hi).2.1 e), h.own, h.ok⟩
theorem EarIn.heard {Gp' : Nat → Prop} {d : Dr} {g cap' : Nat} (h : EarIn G Gp x p k m n q K L ds a cap w1) (hf : Fr Gp w1 w2) (hp : PeelO Gp' p k m K' (ds.map Dr.s ++ [d.s]) L' w2) (hGp : ∀ i, Gp' i → Gp i ∨ w1.heap.size ≤ i) (hl : Lat w2 w3)
    (hs : AppStep w3 w4 (.slice a ds.length cap) (.slice (some ⟨g, 0, none⟩) (ds.length + 1) cap')) (hb : Below 0 w3 w4) (ho : OwnR w4 0 37 2 (.slice (some ⟨g, 0, none⟩) (ds.length + 1) cap') (ds.map Dr.row ++ [d.row])) (hd : drpE k m d.s d.t = 0) :
    EarIn (fun i => i < (w4.setCell ⟨x, 5, none⟩ (.slice (some ⟨g, 0, none⟩) (ds.length + 1) cap')).heap.size ∧ (G i ∨ w1.heap.size ≤ i)) Gp' x p k m n q K' L' (ds ++ [d]) (some ⟨g, 0, none⟩) cap' (w4.setCell ⟨x, 5, none⟩ (.slice (some ⟨g, 0, none⟩) (ds.length + 1) cap')) := by
  obtain ⟨w5, hw5⟩ : ∃ w5, w5 = w4.setCell ⟨x, 5, none⟩ (.slice (some ⟨g, 0, none⟩) (ds.length + 1) cap') := ⟨_, rfl⟩
  have hfa : Fr (fun i => (Value.slice a ds.length cap).ownBlock = some i) w3 w4 := ⟨hb.os, hb.tape, hb.output, hs.size, fun i hi hne => hs.block i hi (fun e => hne e.symm)⟩
  have hf5 : Fr (fun i => i = x) w4 w5 := by rw [hw5]; exact Fr.set _ _ _ rfl
  have hs5 : w5.heap.size = w4.heap.size := by rw [hw5]; simp [World.setCell]
  have hlx := h.lt _ h.gx
  have h12 := hf.size
  have h23 := hl.size
  have h34 := hs.size
  have no : ¬ (Value.slice a ds.length cap).ownBlock = some x := fun e => (h.own x e).2.1 rfl
  have c : ∀ j v, j ≠ 5 → w1.cell? ⟨x, j, none⟩ = some v → w5.cell? ⟨x, j, none⟩ = some v := fun j v hj hx => by
    rw [hw5, World.cell?_setCell_other _ _ _ _ (by intro e; injection e with _ e _; exact hj e.symm)]
    exact hfa.cell_at (hl.cell_at (hf.cell_at hx h.npx)) no
  have c5 : w5.cell? ⟨x, 5, none⟩ = some (.slice (some ⟨g, 0, none⟩) (ds.length + 1) cap') := by rw [hw5]; exact World.cell?_setCell_same _ _ _ (hfa.cell_at (hl.cell_at (hf.cell_at h.c5 h.npx)) no)
  have fz : ∀ j, w1.frozen? ⟨x, j, none⟩ = false → w5.frozen? ⟨x, j, none⟩ = false := fun j hj => by
    rw [hw5, World.frozen?_setCell]
    exact hfa.free_at (show x < w3.heap.size by omega) (hl.free_at (show x < w2.heap.size by omega) (hf.free_at hlx hj h.npx)) no
  have hg : ((Value.slice a ds.length cap).ownBlock = some g) ∨ w3.heap.size ≤ g := by
    rcases hs.loc with e | ⟨g2, e, hg⟩
    · exact .inl e.symm
    · have : g = g2 := Option.some.inj e
      exact .inr (by omega)
  have hgl := (OwnR.lt ho g rfl).2
  have hpl := hp.lt
  have hgx : g ≠ x := by
    rcases hg with e | e
    · exact (h.own g e).2.1
    · omega
  have hgp : ¬ Gp' g := fun e => by
    rcases hg with e2 | e2
    · rcases hGp g e with e3 | e3
      · exact (h.own g e2).2.2 e3
      · have := h.lt g (h.own g e2).1; omega
    · have := hpl g e; omega
  have hpf : ∀ i, Gp' i → ¬ (Value.slice a ds.length cap).ownBlock = some i := fun i hi e => by
    rcases hGp i hi with e3 | e3
    · exact (h.own i e).2.2 e3
    · have := h.lt i (h.own i e).1; omega
  have hpx : ¬ Gp' x := fun e => by
    rcases hGp x e with e3 | e3
    · exact h.npx e3
    · omega
  rw [← hw5]
  have hll : (ds ++ [d]).length = ds.length + 1 := by rw [List.length_append]; rfl
  refine ⟨fun i hi => hi.1, ⟨by omega, .inl h.gx⟩, fun i hi => ⟨by have := hpl i hi; omega, (hGp i hi).imp (h.sub i) id⟩, hpx, c _ _ (by decide) h.c0, c _ _ (by decide) h.c1, c _ _ (by decide) h.c2, c _ _ (by decide) h.c3, c _ _ (by decide) h.c4, by rw [hll]; exact c5, fz _ h.f4, fz _ h.f5, ?_, ?_, fun i hi => ?_, fun d' hd' => ?_⟩
  · rw [List.map_append]
    exact ((hp.keep hl).fr hfa hpf).fr hf5 (fun i hi e => hpx (e ▸ hi))
  · rw [hll, List.map_append]
    exact ho.fr hf5 (fun i hi e => hgx (by rw [← e]; exact Option.some.inj hi))
  · rw [hll] at hi
    obtain rfl : g = i := Option.some.inj hi
    refine ⟨⟨by omega, ?_⟩, hgx, hgp⟩
    rcases hg with e | e
    · exact .inl (h.own g e).1
    · exact .inr (by omega)
  · rcases List.mem_append.1 hd' with h1 | h1
    · exact h.ok d' h1
    · rw [List.mem_singleton.1 h1]; exact hd
end
structure EarStep (G : Nat → Prop) (x k m n : Nat) (q : Int) (K : Kn) (L : List Wt) (ds : List Dr) (w w' : World) : Prop where
  fr : Fr G w w'
  obj : ∃ G', EarO G' x k m n q K L ds w' ∧ ∀ i, G' i → G i ∨ w.heap.size ≤ i
  maps : w'.cell? ⟨x, 0, none⟩ = w.cell? ⟨x, 0, none⟩ ∧ ∀ p, w.cell? ⟨x, 0, none⟩ = some (.pointer (some ⟨p, 0, none⟩)) → w'.cell? ⟨p, 2, none⟩ = w.cell? ⟨p, 2, none⟩ ∧ w'.cell? ⟨p, 3, none⟩ = w.cell? ⟨p, 3, none⟩
set_option maxHeartbeats 1000000 in
set_option maxRecDepth 100000 in
theorem ear_seeds (G : Nat → Prop) (x k m n : Nat) (q : Int) (K : Kn) (L : List Wt) (ds : List Dr) (w : World) (h : EarO G x k m n q K L ds w) :
    Calls Tryz.prog 27 #[.pointer (some ⟨x, 0, none⟩)] w fun e w' => ∃ a c, e = .returned (.slice a ds.length c) ∧ IntsAt w' a ds.length c (ds.map Dr.s) ∧ Lat w w' := by
  obtain ⟨Gp, p, a, cap, h⟩ := h
  have hm60 := h.most
  have c5 := h.c5
  obtain ⟨nd, hnd⟩ : ∃ nd, nd = ds.length := ⟨_, rfl⟩
  obtain ⟨a', cap', he, hat⟩ := OwnR.slice h.row (show (ds.map Dr.row).length = nd by rw [List.length_map, hnd])
  injection he with e1 _ e3
  subst e1
  subst e3
  have hwf : ∀ d ∈ ds, I64 d.s := fun d hd => by
    have := drpE_zero (h.ok d hd)
    unfold I64; omega
  rw [← hnd] at c5 hm60 ⊢
  have hle := hat.le
  have hcm := hat.cap
  unfold maxLen at hcm
  have HR := Lib.hid hat; have HN := Lib.hid hnd; have HWF := Lib.hid hwf
  clear h hat hnd hwf
  go_enter Tryz.func27, Tryz.ntmps27
  go_wp2
  clear c5
  go_loopw [3, 11] (fun v i wr => ∃ j : Nat, j ≤ nd ∧ i = .int .i64 j ∧ Hid (OwnInts wr w.heap.size v ((ds.map Dr.s).take j) ∧ Lat w wr)) (fun _ i _ => nd - (intOf i).toNat)
  case atStart => exact ⟨0, Nat.zero_le _, rfl, by rw [List.take_zero]; exact Own.nil _ _ _, Lat.refl _⟩
  case round =>
    obtain ⟨j, hj, rfl, hrel⟩ := hrel
    by_cases hlt : j < nd
    · obtain ⟨b, o, rfl, hcell⟩ := HR.out.at_ (by omega)
      have hjl : j < ds.length := by rw [← HN.out]; exact hlt
      obtain ⟨V, hV⟩ : ∃ V, V = ds[j] := ⟨_, rfl⟩
      have hd : ds[j]? = some V := by rw [hV]; exact List.getElem?_eq_getElem hjl
      have hr2 : (ds.map Dr.row)[j]? = some V.row := by rw [List.getElem?_map, hd]; rfl
      have c0 := (hcell j _ hr2).2 0 _ rfl
      have c1 := (hcell j _ hr2).2 1 _ rfl
      rw [Nat.add_zero] at c0
      rw [← Nat.add_assoc] at c1
      have c0 := hrel.out.2.cell_at c0
      have c1 := hrel.out.2.cell_at c1
      have hst : (ds.map Dr.s).take (j + 1) = (ds.map Dr.s).take j ++ [V.s] := by
        rw [List.take_succ_eq_append_getElem (by rw [List.length_map]; exact hjl), List.getElem_map, ← hV]
      have hl : ((ds.map Dr.s).take j).length < 1000000000000 := by rw [List.length_take]; omega
      obtain ⟨s, t⟩ := V
      simp only at c0 c1 hst
      have HST := Lib.hid hst; have HL := Lib.hid hl
      have i1 : (0 : Int) ≤ (j : Int) := by omega
      have i2 : (j : Int) < (nd : Int) := by omega
      clear hst hl hcell hd hV hjl hr2
      go_wp2_with (at_builtin; refine app_int (wr.alloc (.cells #[.int .i64 s, .string t] 37)) w _ rfl _ _ rfl _ _ s rfl (Own.keep hrel.out.1 (Lat.alloc _ _)) (by rw [show (wr.alloc (.cells #[.int .i64 s, .string t] 37)).heap.size = wr.heap.size + 1 from by simp]; rfl) HL.out rfl (Lat.trans hrel.out.2 (Lat.alloc _ _)) ?_; intro v' w2 hown' hb' _)
      go_roundw
      case rel => exact ⟨j + 1, by omega, by go_num, by rw [HST.out]; exact hown', hb'⟩
      case measure => simp [intOf]; omega
    · obtain rfl : j = nd := by omega
      have hfin : (ds.map Dr.s).take j = ds.map Dr.s := List.take_of_length_le (by rw [List.length_map, HN.out]; exact Nat.le_refl _)
      have hrl := hrel.out
      rw [hfin] at hrl
      obtain ⟨a, cap, rfl, hat⟩ := OwnInts.sliceN (n := j) hrl.1 (fun z hz => by obtain ⟨d, hd, rfl⟩ := List.mem_map.1 hz; exact HWF.out d hd) (by rw [List.length_map, HN.out])
      have HA := Lib.hid hat; have HB := Lib.hid hrl.2
      clear hfin hrl hrel hat
      go_wp2
      go_ret
      exact ⟨a, cap, rfl, HA.out, HB.out⟩
end Go.Proofs.YtcpookgbneoilaaGreatDoor

namespace Go.Proofs.YtcpookgbneoilaaGreatDoor
open Go.ChangeShapes Go.WideShapes Go.ChangeAt Go.RowKit

structure HB (w : World) (X : Nat) (s : Int) (t : Bts) (W : World) : Prop where
  lo : w.heap.size ≤ X
  lt : X + 1 < W.heap.size
  c0 : W.cell? ⟨X, 0, none⟩ = some (.int .i64 s)
  c1 : W.cell? ⟨X, 1, none⟩ = some (.string (S t))
  r0 : W.cell? ⟨X + 1, 0, none⟩ = some (.int .i64 0)
  r1 : W.cell? ⟨X + 1, 1, none⟩ = some (.int .i64 0)
  r2 : W.cell? ⟨X + 1, 2, none⟩ = some (.int .i64 0)
  g0 : W.frozen? ⟨X + 1, 0, none⟩ = false
  g1 : W.frozen? ⟨X + 1, 1, none⟩ = false
  g2 : W.frozen? ⟨X + 1, 2, none⟩ = false
theorem HB.fr {w : World} {X : Nat} {s : Int} {t : Bts} {W W' : World} {H : Nat → Prop} (h : HB w X s t W) (hf : Fr H W W') (hH : ∀ i, H i → i < w.heap.size) : HB w X s t W' := by
  have lo := h.lo
  have lt := h.lt
  have n0 : ¬ H X := fun e => by have := hH X e; omega
  have n1 : ¬ H (X + 1) := fun e => by have := hH (X + 1) e; omega
  exact ⟨lo, Nat.lt_of_lt_of_le lt hf.size, hf.cell_at h.c0 n0, hf.cell_at h.c1 n0, hf.cell_at h.r0 n1, hf.cell_at h.r1 n1, hf.cell_at h.r2 n1, hf.free_at lt h.g0 n1, hf.free_at lt h.g1 n1, hf.free_at lt h.g2 n1⟩
theorem HB.keep {w : World} {X : Nat} {s : Int} {t : Bts} {W W' : World} (h : HB w X s t W) (hb : Lat W W') : HB w X s t W' := h.fr (H := fun _ => False) (Fr.lat hb) (fun _ e => e.elim)
structure HL (w : World) (X : Nat) (s : Int) (t : Bts) (W : World) : Prop extends HB w X s t W where
  lat : Lat w W
theorem HL.keep {w : World} {X : Nat} {s : Int} {t : Bts} {W W' : World} (h : HL w X s t W) (hb : Lat W W') : HL w X s t W' := ⟨h.toHB.keep hb, h.lat.trans hb⟩
theorem HL.new (w : World) (s : Int) (t : Bts) : HL w w.heap.size s t ((w.alloc (.cells #[.int .i64 s, .string (S t)] 37)).alloc (.cells #[.int .i64 0, .int .i64 0, .int .i64 0] 33)) := by
  obtain ⟨W1, hW⟩ : ∃ W1, W1 = w.alloc (.cells #[.int .i64 s, .string (S t)] 37) := ⟨_, rfl⟩
  have hz : W1.heap.size = w.heap.size + 1 := by rw [hW]; simp
  have c0 : W1.cell? ⟨w.heap.size, 0, none⟩ = some (.int .i64 s) := by rw [hW]; simp
  have c1 : W1.cell? ⟨w.heap.size, 1, none⟩ = some (.string (S t)) := by rw [hW]; simp
  have hl : Lat w W1 := by rw [hW]; exact Lat.alloc _ _
  rw [← hW]
  refine ⟨⟨Nat.le_refl _, by simp [hz], (Lat.alloc _ _).cell_at c0, (Lat.alloc _ _).cell_at c1, ?_, ?_, ?_, ?_, ?_, ?_⟩, hl.trans (Lat.alloc _ _)⟩
  all_goals (rw [← hz]; simp)
theorem three_put {w : World} {g : Nat} {a b c : Value} (c0 : w.cell? ⟨g, 0, none⟩ = some a) (c1 : w.cell? ⟨g, 1, none⟩ = some b) (c2 : w.cell? ⟨g, 2, none⟩ = some c) (x y z : Value) :
    (((w.setCell ⟨g, 0, none⟩ x).setCell ⟨g, 1, none⟩ y).setCell ⟨g, 2, none⟩ z).cell? ⟨g, 0, none⟩ = some x ∧ (((w.setCell ⟨g, 0, none⟩ x).setCell ⟨g, 1, none⟩ y).setCell ⟨g, 2, none⟩ z).cell? ⟨g, 1, none⟩ = some y ∧ (((w.setCell ⟨g, 0, none⟩ x).setCell ⟨g, 1, none⟩ y).setCell ⟨g, 2, none⟩ z).cell? ⟨g, 2, none⟩ = some z := by
  have q := two_put c0 c1 x y
  refine ⟨?_, ?_, ?_⟩
  · rw [World.cell?_setCell_other _ _ _ _ (by simp)]; exact q.1
  · rw [World.cell?_setCell_other _ _ _ _ (by simp)]; exact q.2
  · exact World.cell?_setCell_same _ _ _ ((World.cell?_setCell_other _ _ _ _ (by simp)).trans ((World.cell?_setCell_other _ _ _ _ (by simp)).trans c2))

def hrE (k m : Nat) (ds : List Dr) (s : Int) (t : Bts) : Nat := if drpE k m s (S t) ≠ 0 then drpE k m s (S t) else if 60 ≤ ds.length then 4 else 0
theorem hrE_zero {k m : Nat} {ds : List Dr} {s : Int} {t : Bts} (h : hrE k m ds s t = 0) : drpE k m s (S t) = 0 ∧ ds.length < 60 := by
  unfold hrE at h
  by_cases h1 : drpE k m s (S t) = 0
  · rw [if_neg (fun e => e h1)] at h
    split at h
    · cases h
    · exact ⟨h1, by omega⟩
  · rw [if_pos h1] at h; exact absurd h h1

set_option maxHeartbeats 4000000 in
set_option maxRecDepth 100000 in
theorem ear_hear_bad (G : Nat → Prop) (x k m n : Nat) (q : Int) (K0 : Kn) (L : List Wt) (ds : List Dr) (s : Int) (t : Bts) (w : World) (h : EarO G x k m n q K0 L ds w) (hE : hrE k m ds s t ≠ 0) :
    Calls Tryz.prog 8 #[.pointer (some ⟨x, 0, none⟩), .agg #[.int .i64 s, .string (S t)]] w fun e w' => e = .returned (.tuple #[.agg #[.int .i64 0, .int .i64 0, .int .i64 0], eno (hrE k m ds s t)]) ∧ Lat w w' := by
  obtain ⟨Gp, p, a, cap, h⟩ := h
  have hck := fun W => dchk_tells k m s (S t) W
  have HH := Lib.hid h
  by_cases h1 : drpE k m s (S t) = 0
  · have hfull : 60 ≤ ds.length := by
      rcases Nat.lt_or_ge ds.length 60 with h3 | h3
      · exact absurd (by unfold hrE; rw [if_neg (fun e => e h1), if_neg (by omega)]) hE
      · exact h3
    have e1 : hrE k m ds s t = 4 := by unfold hrE; rw [if_neg (fun e => e h1), if_pos hfull]
    rw [e1]
    rw [h1, errv_zero rfl] at hck
    have HCK : Hid (∀ W, Calls Tryz.prog 25 #[.int .i64 k, .int .i64 m, .agg #[.int .i64 s, .string (S t)]] W fun e w' => e = .returned .nilIface ∧ Lat W w') := hck
    obtain ⟨ln, hln⟩ : ∃ ln, ln = ds.length := ⟨_, rfl⟩
    have d60 : decide ((60 : Int) ≤ (ln : Int)) = true := decide_eq_true (by omega)
    have HLN := Lib.hid hln
    clear h hck h1 hE e1 hfull hln
    go_enter Tryz.func8, Tryz.ntmps8
    go_upto_region 1 with fail
    obtain ⟨X, hX⟩ : ∃ X, X = w.heap.size := ⟨_, rfl⟩
    obtain ⟨W0, hW0⟩ : ∃ W0, W0 = (w.alloc (.cells #[.int .i64 s, .string (S t)] 37)).alloc (.cells #[.int .i64 0, .int .i64 0, .int .i64 0] 33) := ⟨_, rfl⟩
    have hb0 := HL.new w s t
    rw [← hW0] at hb0
    rw [← hW0]
    rw [← hX] at hb0
    rw [← hX]
    have HX : Hid (X = w.heap.size) := hX
    clear hW0 hX
    have hF : W0.drew.cell? ⟨x, 1, none⟩ = some (.int .i64 k) ∧ W0.drew.cell? ⟨x, 2, none⟩ = some (.int .i64 m) ∧ W0.drew.cell? ⟨X, 0, none⟩ = some (.int .i64 s) ∧ W0.drew.cell? ⟨X, 1, none⟩ = some (.string (S t)) := ⟨hb0.lat.cell_at HH.out.c1, hb0.lat.cell_at HH.out.c2, hb0.c0, hb0.c1⟩
    have HB0 := Lib.hid (hb0.keep (Lat.drew W0))
    clear hb0
    refine wp_region_gate (fun w' => w'.cell? ⟨x, 1, none⟩ = some (.int .i64 k) ∧ w'.cell? ⟨x, 2, none⟩ = some (.int .i64 m) ∧ w'.cell? ⟨X, 0, none⟩ = some (.int .i64 s) ∧ w'.cell? ⟨X, 1, none⟩ = some (.string (S t))) (fun _ => True) 1000 (by kernel_rfl) ?_
    refine gate_takeF (i := 0) (v := ?_) rfl (by kernel_rfl) (by kernel_rfl) (by kernel_rfl) (fun _ _ _ h => h) (by decide) ⟨hF, fun _ => trivial⟩ (Or.inl ⟨by rfl, ?_⟩) ?_
    rotate_left
    · intro wq hSw; obtain ⟨s0, s1, s2, s3⟩ := hSw; go_simp; rfl
    simp only [Act.put]
    refine gate_takeF (i := 1) (v := ?_) rfl (by kernel_rfl) (by kernel_rfl) (by kernel_rfl) (fun _ _ _ h => h) (by decide) ⟨hF, fun _ => trivial⟩ (Or.inl ⟨by rfl, ?_⟩) ?_
    rotate_left
    · intro wq hSw; obtain ⟨s0, s1, s2, s3⟩ := hSw; go_simp; rfl
    simp only [Act.put]
    refine gate_takeF (i := 2) (v := ?_) rfl (by kernel_rfl) (by kernel_rfl) (by kernel_rfl) (fun _ _ _ h => h) (by decide) ⟨hF, fun _ => trivial⟩ (Or.inl ⟨by rfl, ?_⟩) ?_
    rotate_left
    · intro wq hSw; obtain ⟨s0, s1, s2, s3⟩ := hSw; go_simp; rfl
    simp only [Act.put]
    refine gate_takeF (i := 3) (v := ?_) rfl (by kernel_rfl) (by kernel_rfl) (by kernel_rfl) (fun _ _ _ h => h) (by decide) ⟨hF, fun _ => trivial⟩ (Or.inl ⟨by rfl, ?_⟩) ?_
    rotate_left
    · intro wq hSw; obtain ⟨s0, s1, s2, s3⟩ := hSw; go_simp; rfl
    simp only [Act.put]
    refine gate_takeF (i := 4) (v := ?_) rfl (by kernel_rfl) (by kernel_rfl) (by kernel_rfl) (fun _ _ _ h => h) (by decide) ⟨hF, fun _ => trivial⟩ (Or.inl ⟨by rfl, ?_⟩) ?_
    rotate_left
    · intro wq hSw; obtain ⟨s0, s1, s2, s3⟩ := hSw; go_simp; rfl
    simp only [Act.put]
    refine gate_takeF (i := 5) (v := ?_) rfl (by kernel_rfl) (by kernel_rfl) (by kernel_rfl) (fun _ _ _ h => h) (by decide) ⟨hF, fun _ => trivial⟩ (Or.inl ⟨by rfl, ?_⟩) ?_
    rotate_left
    · intro wq hSw; obtain ⟨s0, s1, s2, s3⟩ := hSw; go_simp; rfl
    simp only [Act.put]
    refine gate_takeF (i := 6) (v := ?_) rfl (by kernel_rfl) (by kernel_rfl) (by kernel_rfl) (fun _ _ _ h => h) (by decide) ⟨hF, fun _ => trivial⟩ (Or.inl ⟨by rfl, ?_⟩) ?_
    rotate_left
    · intro wq hSw; obtain ⟨s0, s1, s2, s3⟩ := hSw; go_simp; rfl
    simp only [Act.put]
    refine gate_takeF (i := 7) (v := ?_) rfl (by kernel_rfl) (by kernel_rfl) (by kernel_rfl) (fun _ _ _ h => h) (by decide) ⟨hF, fun _ => trivial⟩ (Or.inl ⟨by rfl, ?_⟩) ?_
    rotate_left
    · intro wq hSw; obtain ⟨s0, s1, s2, s3⟩ := hSw; go_simp; rfl
    simp only [Act.put]
    refine gate_takeF (i := 8) (v := ?_) rfl (by kernel_rfl) (by kernel_rfl) (by kernel_rfl) (fun _ _ _ h => h) (by decide) ⟨hF, fun _ => trivial⟩ (Or.inl ⟨by rfl, ?_⟩) ?_
    rotate_left
    · intro wq hSw; obtain ⟨s0, s1, s2, s3⟩ := hSw; go_simp; rfl
    simp only [Act.put]
    refine gate_one (i := 9) (by kernel_rfl) rfl (fun K hK => ?_)
    go_simp
    refine (HCK.out _).mono ?_
    rintro e w5 ⟨rfl, hb5⟩
    have hF' : w5.cell? ⟨x, 1, none⟩ = some (.int .i64 k) ∧ w5.cell? ⟨x, 2, none⟩ = some (.int .i64 m) ∧ w5.cell? ⟨X, 0, none⟩ = some (.int .i64 s) ∧ w5.cell? ⟨X, 1, none⟩ = some (.string (S t)) := ⟨hb5.cell_at hF.1, hb5.cell_at hF.2.1, hb5.cell_at hF.2.2.1, hb5.cell_at hF.2.2.2⟩
    refine hK _ _ ⟨hF', fun _ => trivial⟩ ?_
    clear hK K hF
    have hF := hF'
    clear hF'
    refine gate_takeF (i := 10) (v := ?_) rfl (by kernel_rfl) (by kernel_rfl) (by kernel_rfl) (fun _ _ _ h => h) (by decide) ⟨hF, fun _ => trivial⟩ (Or.inl ⟨by rfl, ?_⟩) ?_
    rotate_left
    · intro wq hSw; obtain ⟨s0, s1, s2, s3⟩ := hSw; go_simp; rfl
    simp only [Act.put]
    refine gate_done (by kernel_rfl) ?_ _
    have HB5 := Lib.hid (HB0.out.keep hb5)
    clear hb5 HB0 hF
    have c5 := HB5.out.lat.cell_at HH.out.c5
    rw [← HLN.out] at c5
    have e0 := HB5.out.r0
    have e1 := HB5.out.r1
    have e2 := HB5.out.r2
    have g0 := HB5.out.g0
    have g1 := HB5.out.g1
    have g2 := HB5.out.g2
    have QQ := three_put e0 e1 e2 (.int .i64 0) (.int .i64 0) (.int .i64 0)
    have hl : Lat w (((w5.setCell ⟨X + 1, 0, none⟩ (.int .i64 0)).setCell ⟨X + 1, 1, none⟩ (.int .i64 0)).setCell ⟨X + 1, 2, none⟩ (.int .i64 0)) := by
      have hw1 : w.heap.size ≤ X + 1 := by have := HX.out; omega
      exact ((HB5.out.lat.setCell (p := ⟨X + 1, 0, none⟩) hw1 _).setCell (p := ⟨X + 1, 1, none⟩) hw1 _).setCell (p := ⟨X + 1, 2, none⟩) hw1 _
    have HQ := Lib.hid QQ; have HLL := Lib.hid hl
    clear QQ hl
    go_wp2
    have Q0 := HQ.out
    exact bodyPost_ret (v := .tuple #[.agg #[.int .i64 0, .int .i64 0, .int .i64 0], eno 4]) (by simp [results, Tryz.results8, go_sem, Q0.1, Q0.2.1, Q0.2.2]) rfl ⟨rfl, HLL.out⟩
  · have e1 : hrE k m ds s t = drpE k m s (S t) := by unfold hrE; rw [if_pos h1]
    rw [e1]
    rw [errv_pos h1] at hck
    obtain ⟨E, hEE⟩ : ∃ E, E = drpE k m s (S t) := ⟨_, rfl⟩
    rw [← hEE] at hck ⊢
    have HCK : Hid (∀ W, Calls Tryz.prog 25 #[.int .i64 k, .int .i64 m, .agg #[.int .i64 s, .string (S t)]] W fun e w' => e = .returned (eno E) ∧ Lat W w') := hck
    clear h hck h1 hE hEE e1
    go_enter Tryz.func8, Tryz.ntmps8
    go_upto_region 1 with fail
    obtain ⟨X, hX⟩ : ∃ X, X = w.heap.size := ⟨_, rfl⟩
    obtain ⟨W0, hW0⟩ : ∃ W0, W0 = (w.alloc (.cells #[.int .i64 s, .string (S t)] 37)).alloc (.cells #[.int .i64 0, .int .i64 0, .int .i64 0] 33) := ⟨_, rfl⟩
    have hb0 := HL.new w s t
    rw [← hW0] at hb0
    rw [← hW0]
    rw [← hX] at hb0
    rw [← hX]
    have HX : Hid (X = w.heap.size) := hX
    clear hW0 hX
    have hF : W0.drew.cell? ⟨x, 1, none⟩ = some (.int .i64 k) ∧ W0.drew.cell? ⟨x, 2, none⟩ = some (.int .i64 m) ∧ W0.drew.cell? ⟨X, 0, none⟩ = some (.int .i64 s) ∧ W0.drew.cell? ⟨X, 1, none⟩ = some (.string (S t)) := ⟨hb0.lat.cell_at HH.out.c1, hb0.lat.cell_at HH.out.c2, hb0.c0, hb0.c1⟩
    have HB0 := Lib.hid (hb0.keep (Lat.drew W0))
    clear hb0
    refine wp_region_gate (fun w' => w'.cell? ⟨x, 1, none⟩ = some (.int .i64 k) ∧ w'.cell? ⟨x, 2, none⟩ = some (.int .i64 m) ∧ w'.cell? ⟨X, 0, none⟩ = some (.int .i64 s) ∧ w'.cell? ⟨X, 1, none⟩ = some (.string (S t))) (fun _ => True) 1000 (by kernel_rfl) ?_
    refine gate_takeF (i := 0) (v := ?_) rfl (by kernel_rfl) (by kernel_rfl) (by kernel_rfl) (fun _ _ _ h => h) (by decide) ⟨hF, fun _ => trivial⟩ (Or.inl ⟨by rfl, ?_⟩) ?_
    rotate_left
    · intro wq hSw; obtain ⟨s0, s1, s2, s3⟩ := hSw; go_simp; rfl
    simp only [Act.put]
    refine gate_takeF (i := 1) (v := ?_) rfl (by kernel_rfl) (by kernel_rfl) (by kernel_rfl) (fun _ _ _ h => h) (by decide) ⟨hF, fun _ => trivial⟩ (Or.inl ⟨by rfl, ?_⟩) ?_
    rotate_left
    · intro wq hSw; obtain ⟨s0, s1, s2, s3⟩ := hSw; go_simp; rfl
    simp only [Act.put]
    refine gate_takeF (i := 2) (v := ?_) rfl (by kernel_rfl) (by kernel_rfl) (by kernel_rfl) (fun _ _ _ h => h) (by decide) ⟨hF, fun _ => trivial⟩ (Or.inl ⟨by rfl, ?_⟩) ?_
    rotate_left
    · intro wq hSw; obtain ⟨s0, s1, s2, s3⟩ := hSw; go_simp; rfl
    simp only [Act.put]
    refine gate_takeF (i := 3) (v := ?_) rfl (by kernel_rfl) (by kernel_rfl) (by kernel_rfl) (fun _ _ _ h => h) (by decide) ⟨hF, fun _ => trivial⟩ (Or.inl ⟨by rfl, ?_⟩) ?_
    rotate_left
    · intro wq hSw; obtain ⟨s0, s1, s2, s3⟩ := hSw; go_simp; rfl
    simp only [Act.put]
    refine gate_takeF (i := 4) (v := ?_) rfl (by kernel_rfl) (by kernel_rfl) (by kernel_rfl) (fun _ _ _ h => h) (by decide) ⟨hF, fun _ => trivial⟩ (Or.inl ⟨by rfl, ?_⟩) ?_
    rotate_left
    · intro wq hSw; obtain ⟨s0, s1, s2, s3⟩ := hSw; go_simp; rfl
    simp only [Act.put]
    refine gate_takeF (i := 5) (v := ?_) rfl (by kernel_rfl) (by kernel_rfl) (by kernel_rfl) (fun _ _ _ h => h) (by decide) ⟨hF, fun _ => trivial⟩ (Or.inl ⟨by rfl, ?_⟩) ?_
    rotate_left
    · intro wq hSw; obtain ⟨s0, s1, s2, s3⟩ := hSw; go_simp; rfl
    simp only [Act.put]
    refine gate_takeF (i := 6) (v := ?_) rfl (by kernel_rfl) (by kernel_rfl) (by kernel_rfl) (fun _ _ _ h => h) (by decide) ⟨hF, fun _ => trivial⟩ (Or.inl ⟨by rfl, ?_⟩) ?_
    rotate_left
    · intro wq hSw; obtain ⟨s0, s1, s2, s3⟩ := hSw; go_simp; rfl
    simp only [Act.put]
    refine gate_takeF (i := 7) (v := ?_) rfl (by kernel_rfl) (by kernel_rfl) (by kernel_rfl) (fun _ _ _ h => h) (by decide) ⟨hF, fun _ => trivial⟩ (Or.inl ⟨by rfl, ?_⟩) ?_
    rotate_left
    · intro wq hSw; obtain ⟨s0, s1, s2, s3⟩ := hSw; go_simp; rfl
    simp only [Act.put]
    refine gate_takeF (i := 8) (v := ?_) rfl (by kernel_rfl) (by kernel_rfl) (by kernel_rfl) (fun _ _ _ h => h) (by decide) ⟨hF, fun _ => trivial⟩ (Or.inl ⟨by rfl, ?_⟩) ?_
    rotate_left
    · intro wq hSw; obtain ⟨s0, s1, s2, s3⟩ := hSw; go_simp; rfl
    simp only [Act.put]
    refine gate_one (i := 9) (by kernel_rfl) rfl (fun K hK => ?_)
    go_simp
    refine (HCK.out _).mono ?_
    rintro e w5 ⟨rfl, hb5⟩
    have hF' : w5.cell? ⟨x, 1, none⟩ = some (.int .i64 k) ∧ w5.cell? ⟨x, 2, none⟩ = some (.int .i64 m) ∧ w5.cell? ⟨X, 0, none⟩ = some (.int .i64 s) ∧ w5.cell? ⟨X, 1, none⟩ = some (.string (S t)) := ⟨hb5.cell_at hF.1, hb5.cell_at hF.2.1, hb5.cell_at hF.2.2.1, hb5.cell_at hF.2.2.2⟩
    refine hK _ _ ⟨hF', fun _ => trivial⟩ ?_
    clear hK K hF
    have hF := hF'
    clear hF'
    refine gate_takeF (i := 10) (v := ?_) rfl (by kernel_rfl) (by kernel_rfl) (by kernel_rfl) (fun _ _ _ h => h) (by decide) ⟨hF, fun _ => trivial⟩ (Or.inl ⟨by rfl, ?_⟩) ?_
    rotate_left
    · intro wq hSw; obtain ⟨s0, s1, s2, s3⟩ := hSw; go_simp; rfl
    simp only [Act.put]
    refine gate_done (by kernel_rfl) ?_ _
    have HB5 := Lib.hid (HB0.out.keep hb5)
    clear hb5 HB0 hF
    have e0 := HB5.out.r0
    have e1 := HB5.out.r1
    have e2 := HB5.out.r2
    have g0 := HB5.out.g0
    have g1 := HB5.out.g1
    have g2 := HB5.out.g2
    have QQ := three_put e0 e1 e2 (.int .i64 0) (.int .i64 0) (.int .i64 0)
    have hl : Lat w (((w5.setCell ⟨X + 1, 0, none⟩ (.int .i64 0)).setCell ⟨X + 1, 1, none⟩ (.int .i64 0)).setCell ⟨X + 1, 2, none⟩ (.int .i64 0)) := by
      have hw1 : w.heap.size ≤ X + 1 := by have := HX.out; omega
      exact ((HB5.out.lat.setCell (p := ⟨X + 1, 0, none⟩) hw1 _).setCell (p := ⟨X + 1, 1, none⟩) hw1 _).setCell (p := ⟨X + 1, 2, none⟩) hw1 _
    have HQ := Lib.hid QQ; have HLL := Lib.hid hl
    clear QQ hl
    go_wp2
    have Q0 := HQ.out
    exact bodyPost_ret (v := .tuple #[.agg #[.int .i64 0, .int .i64 0, .int .i64 0], eno E]) (by simp [results, Tryz.results8, go_sem, Q0.1, Q0.2.1, Q0.2.2]) rfl ⟨rfl, HLL.out⟩

set_option maxHeartbeats 4000000 in
set_option maxRecDepth 100000 in
theorem ear_hear_old (G : Nat → Prop) (x k m n : Nat) (q : Int) (K0 : Kn) (L : List Wt) (ds : List Dr) (s : Int) (t : Bts) (w : World) (h : EarO G x k m n q K0 L ds w) (hE : hrE k m ds s t = 0) (hmem : s ∈ ds.map Dr.s) (qn : Int) (hqn : wrap64 (q + 1) = qn) :
    Calls Tryz.prog 8 #[.pointer (some ⟨x, 0, none⟩), .agg #[.int .i64 s, .string (S t)]] w fun e w' => e = .returned (.tuple #[.agg #[.int .i64 qn, .int .i64 (ds.length : Nat), .int .i64 ((knwL K0 k).length : Nat)], .nilIface]) ∧ EarStep G x k m n qn K0 L ds w w' := by
  obtain ⟨Gp, p, a, cap, h⟩ := h
  obtain ⟨hde, hl60⟩ := hrE_zero hE
  have hck := fun W => dchk_tells k m s (S t) W
  rw [hde, errv_zero rfl] at hck
  have hd2 := drpE_zero hde
  have hk16 : k ≤ 16 := by omega
  have HCK : Hid (∀ W, Calls Tryz.prog 25 #[.int .i64 k, .int .i64 m, .agg #[.int .i64 s, .string (S t)]] W fun e w' => e = .returned .nilIface ∧ Lat W w') := hck
  obtain ⟨ln, hln⟩ : ∃ ln, ln = ds.length := ⟨_, rfl⟩
  have d60 : decide ((60 : Int) ≤ (ln : Int)) = false := decide_eq_false (by omega)
  obtain ⟨kb, tb, hm2, hm3, hgp⟩ : ∃ kb tb, w.cell? ⟨p, 2, none⟩ = some (.map (some kb)) ∧ w.cell? ⟨p, 3, none⟩ = some (.map (some tb)) ∧ Gp p := by
    obtain ⟨kb, tb, _, _, hpp⟩ := h.peel
    exact ⟨kb, tb, hpp.c2, hpp.c3, hpp.gp⟩
  have HMP := Lib.hid (And.intro hm2 hm3); have HGPP := Lib.hid hgp
  have HPNX : Hid (¬ p = x) := fun e => h.npx (e ▸ hgp)
  have HPL : Hid (p < w.heap.size) := h.lt p (h.sub p hgp)
  clear hm2 hm3 hgp
  have HH := Lib.hid h; have HMEM := Lib.hid hmem; have HDE := Lib.hid hde; have HLN := Lib.hid hln; have HL60 := Lib.hid hl60
  obtain ⟨kn, hkn⟩ : ∃ kn, kn = (knwL K0 k).length := ⟨_, rfl⟩
  have HKN := Lib.hid hkn
  rw [← hln, ← hkn]
  clear h hck hE hde hd2 hln hkn hmem hl60
  go_enter Tryz.func8, Tryz.ntmps8
  go_upto_region 1 with fail
  obtain ⟨X, hX⟩ : ∃ X, X = w.heap.size := ⟨_, rfl⟩
  obtain ⟨W0, hW0⟩ : ∃ W0, W0 = (w.alloc (.cells #[.int .i64 s, .string (S t)] 37)).alloc (.cells #[.int .i64 0, .int .i64 0, .int .i64 0] 33) := ⟨_, rfl⟩
  have hb0 := HL.new w s t
  rw [← hW0] at hb0
  rw [← hW0]
  rw [← hX] at hb0
  rw [← hX]
  have HX : Hid (X = w.heap.size) := hX
  clear hW0 hX
  have hF : W0.drew.cell? ⟨x, 1, none⟩ = some (.int .i64 k) ∧ W0.drew.cell? ⟨x, 2, none⟩ = some (.int .i64 m) ∧ W0.drew.cell? ⟨X, 0, none⟩ = some (.int .i64 s) ∧ W0.drew.cell? ⟨X, 1, none⟩ = some (.string (S t)) := ⟨hb0.lat.cell_at HH.out.c1, hb0.lat.cell_at HH.out.c2, hb0.c0, hb0.c1⟩
  have HB0 := Lib.hid (hb0.keep (Lat.drew W0))
  clear hb0
  refine wp_region_gate (fun w' => w'.cell? ⟨x, 1, none⟩ = some (.int .i64 k) ∧ w'.cell? ⟨x, 2, none⟩ = some (.int .i64 m) ∧ w'.cell? ⟨X, 0, none⟩ = some (.int .i64 s) ∧ w'.cell? ⟨X, 1, none⟩ = some (.string (S t))) (fun _ => True) 1000 (by kernel_rfl) ?_
  refine gate_takeF (i := 0) (v := ?_) rfl (by kernel_rfl) (by kernel_rfl) (by kernel_rfl) (fun _ _ _ h => h) (by decide) ⟨hF, fun _ => trivial⟩ (Or.inl ⟨by rfl, ?_⟩) ?_
  rotate_left
  · intro wq hSw; obtain ⟨s0, s1, s2, s3⟩ := hSw; go_simp; rfl
  simp only [Act.put]
  refine gate_takeF (i := 1) (v := ?_) rfl (by kernel_rfl) (by kernel_rfl) (by kernel_rfl) (fun _ _ _ h => h) (by decide) ⟨hF, fun _ => trivial⟩ (Or.inl ⟨by rfl, ?_⟩) ?_
  rotate_left
  · intro wq hSw; obtain ⟨s0, s1, s2, s3⟩ := hSw; go_simp; rfl
  simp only [Act.put]
  refine gate_takeF (i := 2) (v := ?_) rfl (by kernel_rfl) (by kernel_rfl) (by kernel_rfl) (fun _ _ _ h => h) (by decide) ⟨hF, fun _ => trivial⟩ (Or.inl ⟨by rfl, ?_⟩) ?_
  rotate_left
  · intro wq hSw; obtain ⟨s0, s1, s2, s3⟩ := hSw; go_simp; rfl
  simp only [Act.put]
  refine gate_takeF (i := 3) (v := ?_) rfl (by kernel_rfl) (by kernel_rfl) (by kernel_rfl) (fun _ _ _ h => h) (by decide) ⟨hF, fun _ => trivial⟩ (Or.inl ⟨by rfl, ?_⟩) ?_
  rotate_left
  · intro wq hSw; obtain ⟨s0, s1, s2, s3⟩ := hSw; go_simp; rfl
  simp only [Act.put]
  refine gate_takeF (i := 4) (v := ?_) rfl (by kernel_rfl) (by kernel_rfl) (by kernel_rfl) (fun _ _ _ h => h) (by decide) ⟨hF, fun _ => trivial⟩ (Or.inl ⟨by rfl, ?_⟩) ?_
  rotate_left
  · intro wq hSw; obtain ⟨s0, s1, s2, s3⟩ := hSw; go_simp; rfl
  simp only [Act.put]
  refine gate_takeF (i := 5) (v := ?_) rfl (by kernel_rfl) (by kernel_rfl) (by kernel_rfl) (fun _ _ _ h => h) (by decide) ⟨hF, fun _ => trivial⟩ (Or.inl ⟨by rfl, ?_⟩) ?_
  rotate_left
  · intro wq hSw; obtain ⟨s0, s1, s2, s3⟩ := hSw; go_simp; rfl
  simp only [Act.put]
  refine gate_takeF (i := 6) (v := ?_) rfl (by kernel_rfl) (by kernel_rfl) (by kernel_rfl) (fun _ _ _ h => h) (by decide) ⟨hF, fun _ => trivial⟩ (Or.inl ⟨by rfl, ?_⟩) ?_
  rotate_left
  · intro wq hSw; obtain ⟨s0, s1, s2, s3⟩ := hSw; go_simp; rfl
  simp only [Act.put]
  refine gate_takeF (i := 7) (v := ?_) rfl (by kernel_rfl) (by kernel_rfl) (by kernel_rfl) (fun _ _ _ h => h) (by decide) ⟨hF, fun _ => trivial⟩ (Or.inl ⟨by rfl, ?_⟩) ?_
  rotate_left
  · intro wq hSw; obtain ⟨s0, s1, s2, s3⟩ := hSw; go_simp; rfl
  simp only [Act.put]
  refine gate_takeF (i := 8) (v := ?_) rfl (by kernel_rfl) (by kernel_rfl) (by kernel_rfl) (fun _ _ _ h => h) (by decide) ⟨hF, fun _ => trivial⟩ (Or.inl ⟨by rfl, ?_⟩) ?_
  rotate_left
  · intro wq hSw; obtain ⟨s0, s1, s2, s3⟩ := hSw; go_simp; rfl
  simp only [Act.put]
  refine gate_one (i := 9) (by kernel_rfl) rfl (fun K hK => ?_)
  go_simp
  refine (HCK.out _).mono ?_
  rintro e w5 ⟨rfl, hb5⟩
  have hF' : w5.cell? ⟨x, 1, none⟩ = some (.int .i64 k) ∧ w5.cell? ⟨x, 2, none⟩ = some (.int .i64 m) ∧ w5.cell? ⟨X, 0, none⟩ = some (.int .i64 s) ∧ w5.cell? ⟨X, 1, none⟩ = some (.string (S t)) := ⟨hb5.cell_at hF.1, hb5.cell_at hF.2.1, hb5.cell_at hF.2.2.1, hb5.cell_at hF.2.2.2⟩
  refine hK _ _ ⟨hF', fun _ => trivial⟩ ?_
  clear hK K hF
  have hF := hF'
  clear hF'
  refine gate_takeF (i := 10) (v := ?_) rfl (by kernel_rfl) (by kernel_rfl) (by kernel_rfl) (fun _ _ _ h => h) (by decide) ⟨hF, fun _ => trivial⟩ (Or.inl ⟨by rfl, ?_⟩) ?_
  rotate_left
  · intro wq hSw; obtain ⟨s0, s1, s2, s3⟩ := hSw; go_simp; rfl
  simp only [Act.put]
  refine gate_done (by kernel_rfl) ?_ _
  have HB5 := Lib.hid (HB0.out.keep hb5)
  clear hb5 HB0 hF
  have c5 := HB5.out.lat.cell_at HH.out.c5
  rw [← HLN.out] at c5
  go_upto_region 6 with fail
  clear c5
  have hF : w5.drew.cell? ⟨X, 0, none⟩ = some (.int .i64 s) ∧ w5.drew.cell? ⟨X, 1, none⟩ = some (.string (S t)) := ⟨HB5.out.c0, HB5.out.c1⟩
  have HB6 := Lib.hid (HB5.out.keep (Lat.drew w5))
  refine wp_region_gate (fun w' => w'.cell? ⟨X, 0, none⟩ = some (.int .i64 s) ∧ w'.cell? ⟨X, 1, none⟩ = some (.string (S t))) (fun _ => True) 1000 (by kernel_rfl) ?_
  refine gate_takeF (i := 0) (v := ?_) rfl (by kernel_rfl) (by kernel_rfl) (by kernel_rfl) (fun _ _ _ h => h) (by decide) ⟨hF, fun _ => trivial⟩ (Or.inl ⟨by rfl, ?_⟩) ?_
  rotate_left
  · intro wq hSw; obtain ⟨s0, s1⟩ := hSw; go_simp; rfl
  simp only [Act.put]
  refine gate_takeF (i := 2) (v := ?_) rfl (by kernel_rfl) (by kernel_rfl) (by kernel_rfl) (fun _ _ _ h => h) (by decide) ⟨hF, fun _ => trivial⟩ (Or.inl ⟨by rfl, ?_⟩) ?_
  rotate_left
  · intro wq hSw; obtain ⟨s0, s1⟩ := hSw; go_simp; rfl
  simp only [Act.put]
  refine gate_takeF (i := 3) (v := ?_) rfl (by kernel_rfl) (by kernel_rfl) (by kernel_rfl) (fun _ _ _ h => h) (by decide) ⟨hF, fun _ => trivial⟩ (Or.inl ⟨by rfl, ?_⟩) ?_
  rotate_left
  · intro wq hSw; obtain ⟨s0, s1⟩ := hSw; go_simp; rfl
  simp only [Act.put]
  refine gate_one (i := 1) (by kernel_rfl) rfl (fun K hK => ?_)
  have hsd := ear_seeds G x k m n q K0 L ds w5.drew ⟨Gp, p, a, cap, HH.out.keep HB6.out.lat⟩
  rw [← HLN.out] at hsd
  go_simp
  refine hsd.mono ?_
  rintro e w6 ⟨ya, yc, rfl, hyi, hb6⟩
  have hF' : w6.cell? ⟨X, 0, none⟩ = some (.int .i64 s) ∧ w6.cell? ⟨X, 1, none⟩ = some (.string (S t)) := ⟨hb6.cell_at hF.1, hb6.cell_at hF.2⟩
  refine hK _ _ ⟨hF', fun _ => trivial⟩ ?_
  clear hK K hF hsd
  have hF := hF'
  clear hF'
  refine gate_one (i := 4) (by kernel_rfl) rfl (fun K hK => ?_)
  go_simp
  refine (containsI_yes ya ln yc _ _ w6 hyi HMEM.out).mono ?_
  rintro e w7 ⟨rfl, rfl⟩
  refine hK _ _ ⟨hF, fun _ => trivial⟩ ?_
  clear hK K
  refine gate_takeF (i := 5) (v := ?_) rfl (by kernel_rfl) (by kernel_rfl) (by kernel_rfl) (fun _ _ _ h => h) (by decide) ⟨hF, fun _ => trivial⟩ (Or.inl ⟨by rfl, ?_⟩) ?_
  rotate_left
  · intro wq hSw; obtain ⟨s0, s1⟩ := hSw; go_simp; rfl
  simp only [Act.put]
  refine gate_done (by kernel_rfl) ?_ _
  have HB7 := Lib.hid (HB6.out.keep hb6)
  clear hb6 hyi HB6 hF HB5
  have HE := Lib.hid (HH.out.keep HB7.out.lat)
  have HBB := Lib.hid HB7.out.toHB
  have HFR : Hid (Fr G w w6) := Fr.lat HB7.out.lat
  have HLL : Hid (ds.length = ln) := HLN.out.symm
  have HNX : Hid (∀ i, G i → i ≠ X + 1) := fun i hi e => by have := HH.out.lt i hi; have := HX.out; omega
  have HGI : Hid (∀ i, G i → G i ∨ w.heap.size ≤ i) := fun i hi => .inl hi
  have HM0 := Lib.hid (And.intro (HB7.out.lat.cell_at HMP.out.1) (HB7.out.lat.cell_at HMP.out.2))
  have c4 := HE.out.c4
  have f4 := HE.out.f4
  go_upto_region 12 with fail
  clear c4 f4
  have hcnt := HE.out.count qn
  have hbb := HBB.out.fr (Fr.set (S := fun i => i = x) _ ⟨x, 4, none⟩ (.int .i64 qn) rfl) (fun i e => by rw [e]; exact HH.out.lt x HH.out.gx)
  have hfrc := HFR.out.then_set ⟨x, 4, none⟩ (.int .i64 qn) (.inl HH.out.gx)
  have hm1 := (Fr.set (S := fun i => i = x) w6 ⟨x, 4, none⟩ (.int .i64 qn) rfl).cell_at HM0.out.1 HPNX.out
  have hm2 := (Fr.set (S := fun i => i = x) w6 ⟨x, 4, none⟩ (.int .i64 qn) rfl).cell_at HM0.out.2 HPNX.out
  generalize hwe : World.setCell _ ⟨x, 4, none⟩ (.int .i64 qn) = we at hcnt hbb hfrc hm1 hm2 ⊢
  have HMC := Lib.hid (And.intro hm1 hm2)
  clear hm1 hm2
  have hc4 := hcnt.c4
  have hc5 := hcnt.c5
  rw [HLL.out] at hc5
  have hF : we.drew.cell? ⟨x, 4, none⟩ = some (.int .i64 qn) ∧ we.drew.cell? ⟨x, 5, none⟩ = some (.slice a ln cap) ∧ we.drew.cell? ⟨x, 0, none⟩ = some (.pointer (some ⟨p, 0, none⟩)) := ⟨hc4, hc5, hcnt.c0⟩
  have hG : we.drew.cell? ⟨X + 1, 0, none⟩ = some (.int .i64 0) ∧ we.drew.cell? ⟨X + 1, 1, none⟩ = some (.int .i64 0) ∧ we.drew.cell? ⟨X + 1, 2, none⟩ = some (.int .i64 0) := ⟨hbb.r0, hbb.r1, hbb.r2⟩
  have HEC := Lib.hid hcnt; have HBC := Lib.hid hbb; have HFC := Lib.hid hfrc
  clear hwe hcnt hbb hfrc hc4 hc5 HE HBB HFR
  refine wp_region_gate (fun w' => w'.cell? ⟨x, 4, none⟩ = some (.int .i64 qn) ∧ w'.cell? ⟨x, 5, none⟩ = some (.slice a ln cap) ∧ w'.cell? ⟨x, 0, none⟩ = some (.pointer (some ⟨p, 0, none⟩))) (fun w' => w'.cell? ⟨X + 1, 0, none⟩ = some (.int .i64 0) ∧ w'.cell? ⟨X + 1, 1, none⟩ = some (.int .i64 0) ∧ w'.cell? ⟨X + 1, 2, none⟩ = some (.int .i64 0)) 16 (by kernel_rfl) ?_
  refine gate_takeF (i := 0) (v := ?_) rfl (by kernel_rfl) (by kernel_rfl) (by kernel_rfl) (fun _ _ _ h => h) (by decide) ⟨hF, fun _ => hG⟩ (Or.inl ⟨by rfl, ?_⟩) ?_
  rotate_left
  · intro wq hSw; obtain ⟨s0, s1, s2⟩ := hSw; go_simp; rfl
  simp only [Act.put]
  refine gate_takeF (i := 1) (v := ?_) rfl (by kernel_rfl) (by kernel_rfl) (by kernel_rfl) (fun _ _ _ h => h) (by decide) ⟨hF, fun _ => hG⟩ (Or.inl ⟨by rfl, ?_⟩) ?_
  rotate_left
  · intro wq hSw; obtain ⟨s0, s1, s2⟩ := hSw; go_simp; rfl
  simp only [Act.put]
  refine gate_takeF (i := 2) (v := ?_) rfl (by kernel_rfl) (by kernel_rfl) (by kernel_rfl) (fun _ _ _ h => h) (by decide) ⟨hF, fun _ => hG⟩ (Or.inl ⟨by rfl, ?_⟩) ?_
  rotate_left
  · intro wq hSw; obtain ⟨s0, s1, s2⟩ := hSw; go_simp; rfl
  simp only [Act.put]
  refine gate_takeF (i := 3) (v := ?_) rfl (by kernel_rfl) (by kernel_rfl) (by kernel_rfl) (fun _ _ _ h => h) (by decide) ⟨hF, fun _ => hG⟩ (Or.inl ⟨by rfl, ?_⟩) ?_
  rotate_left
  · intro wq hSw; obtain ⟨s0, s1, s2⟩ := hSw; go_simp; rfl
  simp only [Act.put]
  refine gate_takeF (i := 4) (v := ?_) rfl (by kernel_rfl) (by kernel_rfl) (by kernel_rfl) (fun _ _ _ h => h) (by decide) ⟨hF, fun _ => hG⟩ (Or.inl ⟨by rfl, ?_⟩) ?_
  rotate_left
  · intro wq hSw; obtain ⟨s0, s1, s2⟩ := hSw; go_simp; rfl
  simp only [Act.put]
  refine gate_takeF (i := 5) (v := ?_) rfl (by kernel_rfl) (by kernel_rfl) (by kernel_rfl) (fun _ _ _ h => h) (by decide) ⟨hF, fun _ => hG⟩ (Or.inl ⟨by rfl, ?_⟩) ?_
  rotate_left
  · intro wq hSw; obtain ⟨s0, s1, s2⟩ := hSw; go_simp; rfl
  simp only [Act.put]
  refine gate_takeF (i := 6) (v := ?_) rfl (by kernel_rfl) (by kernel_rfl) (by kernel_rfl) (fun _ _ _ h => h) (by decide) ⟨hF, fun _ => hG⟩ (Or.inl ⟨by rfl, ?_⟩) ?_
  rotate_left
  · intro wq hSw; obtain ⟨s0, s1, s2⟩ := hSw; go_simp; rfl
  simp only [Act.put]
  refine gate_takeF (i := 7) (v := ?_) rfl (by kernel_rfl) (by kernel_rfl) (by kernel_rfl) (fun _ _ _ h => h) (by decide) ⟨hF, fun _ => hG⟩ (Or.inl ⟨by rfl, ?_⟩) ?_
  rotate_left
  · intro wq hSw; obtain ⟨s0, s1, s2⟩ := hSw; go_simp; rfl
  simp only [Act.put]
  refine gate_takeF (i := 8) (v := ?_) rfl (by kernel_rfl) (by kernel_rfl) (by kernel_rfl) (fun _ _ _ h => h) (by decide) ⟨hF, fun _ => hG⟩ (Or.inl ⟨by rfl, ?_⟩) ?_
  rotate_left
  · intro wq hSw; obtain ⟨s0, s1, s2⟩ := hSw; go_simp; rfl
  simp only [Act.put]
  refine gate_takeF (i := 9) (v := ?_) rfl (by kernel_rfl) (by kernel_rfl) (by kernel_rfl) (fun _ _ _ h => h) (by decide) ⟨hF, fun _ => hG⟩ (Or.inl ⟨by rfl, ?_⟩) ?_
  rotate_left
  · intro wq hSw; obtain ⟨s0, s1, s2⟩ := hSw; go_simp; rfl
  simp only [Act.put]
  refine gate_takeF (i := 10) (v := ?_) rfl (by kernel_rfl) (by kernel_rfl) (by kernel_rfl) (fun _ _ _ h => h) (by decide) ⟨hF, fun _ => hG⟩ (Or.inl ⟨by rfl, ?_⟩) ?_
  rotate_left
  · intro wq hSw; obtain ⟨s0, s1, s2⟩ := hSw; go_simp; rfl
  simp only [Act.put]
  refine gate_takeF (i := 11) (v := ?_) rfl (by kernel_rfl) (by kernel_rfl) (by kernel_rfl) (fun _ _ _ h => h) (by decide) ⟨hF, fun _ => hG⟩ (Or.inl ⟨by rfl, ?_⟩) ?_
  rotate_left
  · intro wq hSw; obtain ⟨s0, s1, s2⟩ := hSw; go_simp; rfl
  simp only [Act.put]
  refine gate_takeF (i := 12) (v := ?_) rfl (by kernel_rfl) (by kernel_rfl) (by kernel_rfl) (fun _ _ _ h => h) (by decide) ⟨hF, fun _ => hG⟩ (Or.inl ⟨by rfl, ?_⟩) ?_
  rotate_left
  · intro wq hSw; obtain ⟨s0, s1, s2⟩ := hSw; go_simp; rfl
  simp only [Act.put]
  refine gate_one (i := 13) (by kernel_rfl) rfl (fun K hK => ?_)
  have hkn := peel_knows _ p k m _ _ _ we.drew (HEC.out.keep (Lat.drew we)).peel hk16
  rw [← HKN.out] at hkn
  go_simp
  refine hkn.mono ?_
  rintro e wk ⟨oa, oc, rfl, _, hbk⟩
  have hF' : wk.cell? ⟨x, 4, none⟩ = some (.int .i64 qn) ∧ wk.cell? ⟨x, 5, none⟩ = some (.slice a ln cap) ∧ wk.cell? ⟨x, 0, none⟩ = some (.pointer (some ⟨p, 0, none⟩)) := ⟨hbk.cell_at hF.1, hbk.cell_at hF.2.1, hbk.cell_at hF.2.2⟩
  have hG' : wk.cell? ⟨X + 1, 0, none⟩ = some (.int .i64 0) ∧ wk.cell? ⟨X + 1, 1, none⟩ = some (.int .i64 0) ∧ wk.cell? ⟨X + 1, 2, none⟩ = some (.int .i64 0) := ⟨hbk.cell_at hG.1, hbk.cell_at hG.2.1, hbk.cell_at hG.2.2⟩
  have HBK := Lib.hid ((Lat.drew we).trans hbk)
  refine hK _ _ ⟨hF', fun _ => hG'⟩ ?_
  clear hK K hF hG hkn hbk
  have hF := hF'
  have hG := hG'
  clear hF' hG'
  refine gate_takeF (i := 14) (v := ?_) rfl (by kernel_rfl) (by kernel_rfl) (by kernel_rfl) (fun _ _ _ h => h) (by decide) ⟨hF, fun _ => hG⟩ (Or.inl ⟨by rfl, ?_⟩) ?_
  rotate_left
  · intro wq hSw; obtain ⟨s0, s1, s2⟩ := hSw; go_simp; rfl
  simp only [Act.put]
  refine gate_takeF (i := 15) (v := ?_) rfl (by kernel_rfl) (by kernel_rfl) (by kernel_rfl) (fun _ _ _ h => h) (by decide) ⟨hF, fun _ => hG⟩ (Or.inl ⟨by rfl, ?_⟩) ?_
  rotate_left
  · intro wq hSw; obtain ⟨s0, s1, s2⟩ := hSw; go_simp; rfl
  simp only [Act.put]
  have hbf := HBC.out.keep HBK.out
  have e0 := hG.1
  have e1 := hG.2.1
  have e2 := hG.2.2
  have g0 := hbf.g0
  have g1 := hbf.g1
  have g2 := hbf.g2
  have HBF := Lib.hid hbf
  have hqX : ∀ i, i ≠ X + 1 → ∀ j v u1 u2 u3, wk.cell? ⟨i, j, none⟩ = some v → (((wk.setCell ⟨X + 1, 0, none⟩ u1).setCell ⟨X + 1, 1, none⟩ u2).setCell ⟨X + 1, 2, none⟩ u3).cell? ⟨i, j, none⟩ = some v := fun i hi j v u1 u2 u3 hv => by
    rw [World.cell?_setCell_other _ _ _ _ (by intro e; injection e with e _ _; exact hi e.symm), World.cell?_setCell_other _ _ _ _ (by intro e; injection e with e _ _; exact hi e.symm), World.cell?_setCell_other _ _ _ _ (by intro e; injection e with e _ _; exact hi e.symm)]; exact hv
  have hxX : x ≠ X + 1 := by have := HH.out.lt x HH.out.gx; have := HX.out; omega
  have hF9 := fun u1 u2 u3 => And.intro (hqX x hxX _ _ u1 u2 u3 hF.1) (And.intro (hqX x hxX _ _ u1 u2 u3 hF.2.1) (hqX x hxX _ _ u1 u2 u3 hF.2.2))
  have HF9 := Lib.hid hF9
  have QQ := three_put hG.1 hG.2.1 hG.2.2 (.int .i64 qn) (.int .i64 (ln : Nat)) (.int .i64 (kn : Nat))
  have HQQ := Lib.hid QQ
  refine gate_one (i := 16) (by kernel_rfl) rfl (fun K hK => ?_)
  clear hF9 hqX QQ hbf
  go_simp
  refine hK _ _ (FG.past (by kernel_rfl) (HF9.out _ _ _)) ?_
  clear hK K hF hG e0 e1 e2 g0 g1 g2
  refine gate_takeF (i := 17) (v := ?_) rfl (by kernel_rfl) (by kernel_rfl) (by kernel_rfl) (fun _ _ _ h => h) (by decide) (FG.past (by kernel_rfl) (HF9.out _ _ _)) (Or.inl ⟨by rfl, ?_⟩) ?_
  rotate_left
  · intro wq hSw; go_simp; rfl
  simp only [Act.put]
  refine gate_done (by kernel_rfl) ?_ _
  simp only [List.getElem_toArray, List.getElem_cons_succ, List.getElem_cons_zero]
  go_wp2
  have hff : Fr (fun i => i = X + 1) wk (((wk.setCell ⟨X + 1, 0, none⟩ (.int .i64 qn)).setCell ⟨X + 1, 1, none⟩ (.int .i64 (ln : Nat))).setCell ⟨X + 1, 2, none⟩ (.int .i64 (kn : Nat))) := ((Fr.set (S := fun i => i = X + 1) wk ⟨X + 1, 0, none⟩ _ rfl).then_set ⟨X + 1, 1, none⟩ _ (.inl rfl)).then_set ⟨X + 1, 2, none⟩ _ (.inl rfl)
  have hfin : EarStep G x k m n qn K0 L ds w (((wk.setCell ⟨X + 1, 0, none⟩ (.int .i64 qn)).setCell ⟨X + 1, 1, none⟩ (.int .i64 (ln : Nat))).setCell ⟨X + 1, 2, none⟩ (.int .i64 (kn : Nat))) :=
    ⟨(HFC.out.next HBK.out).trans hff (fun i hi e => by have := HX.out; omega), ⟨_, ⟨_, _, _, _, (HEC.out.keep HBK.out).fr hff (fun i hi e => HNX.out i hi e)⟩, HGI.out⟩, ⟨((HEC.out.keep HBK.out).fr hff (fun i hi e => HNX.out i hi e)).c0.trans HH.out.c0.symm, fun p' hp' => by
      obtain rfl : p = p' := by have := HH.out.c0.symm.trans hp'; injection this with this; injection this with this; injection this with this; injection this
      exact ⟨(hff.cell_at (HBK.out.cell_at HMC.out.1) (fun e => by have e' : p = X + 1 := e; have := HPL.out; have := HX.out; omega)).trans HMP.out.1.symm, (hff.cell_at (HBK.out.cell_at HMC.out.2) (fun e => by have e' : p = X + 1 := e; have := HPL.out; have := HX.out; omega)).trans HMP.out.2.symm⟩⟩⟩
  have Q0 := HQQ.out
  refine bodyPost_ret (v := .tuple #[.agg #[.int .i64 qn, .int .i64 (ln : Nat), .int .i64 (kn : Nat)], .nilIface]) (by simp [results, Tryz.results8, go_sem, Q0.1, Q0.2.1, Q0.2.2]) rfl ⟨?_, hfin⟩
  rfl

set_option maxHeartbeats 4000000 in
set_option maxRecDepth 100000 in
theorem ear_hear_new (G : Nat → Prop) (x k m n : Nat) (q : Int) (K0 : Kn) (L : List Wt) (ds : List Dr) (s : Int) (t : Bts) (w : World) (h : EarO G x k m n q K0 L ds w) (hE : hrE k m ds s t = 0) (hmem : s ∉ ds.map Dr.s) (qn : Int) (hqn : wrap64 (q + 1) = qn) :
    Calls Tryz.prog 8 #[.pointer (some ⟨x, 0, none⟩), .agg #[.int .i64 s, .string (S t)]] w fun e w' => e = .returned (.tuple #[.agg #[.int .i64 qn, .int .i64 (ds.length + 1 : Nat), .int .i64 ((knwL (lrnK k K0 (L ++ [(setZ k s.toNat, t)])) k).length : Nat)], .nilIface]) ∧ EarStep G x k m n qn (lrnK k K0 (L ++ [(setZ k s.toNat, t)])) (lrnL k K0 (L ++ [(setZ k s.toNat, t)])) (ds ++ [⟨s, S t⟩]) w w' := by
  obtain ⟨Gp, p, a, cap, h⟩ := h
  obtain ⟨hde, hl60⟩ := hrE_zero hE
  have hck := fun W => dchk_tells k m s (S t) W
  rw [hde, errv_zero rfl] at hck
  have hd2 := drpE_zero hde
  have hk16 : k ≤ 16 := by omega
  have HCK : Hid (∀ W, Calls Tryz.prog 25 #[.int .i64 k, .int .i64 m, .agg #[.int .i64 s, .string (S t)]] W fun e w' => e = .returned .nilIface ∧ Lat W w') := hck
  obtain ⟨ln, hln⟩ : ∃ ln, ln = ds.length := ⟨_, rfl⟩
  have d60 : decide ((60 : Int) ≤ (ln : Int)) = false := decide_eq_false (by omega)
  obtain ⟨kb, tb, hm2, hm3, hgp⟩ : ∃ kb tb, w.cell? ⟨p, 2, none⟩ = some (.map (some kb)) ∧ w.cell? ⟨p, 3, none⟩ = some (.map (some tb)) ∧ Gp p := by
    obtain ⟨kb, tb, _, _, hpp⟩ := h.peel
    exact ⟨kb, tb, hpp.c2, hpp.c3, hpp.gp⟩
  have HMP := Lib.hid (And.intro hm2 hm3); have HGPP := Lib.hid hgp
  have HPNX : Hid (¬ p = x) := fun e => h.npx (e ▸ hgp)
  have HPL : Hid (p < w.heap.size) := h.lt p (h.sub p hgp)
  clear hm2 hm3 hgp
  have HH := Lib.hid h; have HMEM := Lib.hid hmem; have HDE := Lib.hid hde; have HLN := Lib.hid hln; have HL60 := Lib.hid hl60
  have hte : tkE k m (ds.map Dr.s) s t = 0 := by
    unfold tkE
    rw [if_neg (fun e => e hde), if_neg hmem, if_neg (by rw [List.length_map]; omega)]
  have HTE := Lib.hid hte
  obtain ⟨kn, hkn⟩ : ∃ kn, kn = (knwL (lrnK k K0 (L ++ [(setZ k s.toNat, t)])) k).length := ⟨_, rfl⟩
  have HKN := Lib.hid hkn
  rw [← hln, ← hkn]
  clear h hck hE hde hd2 hln hkn hmem hl60 hte
  go_enter Tryz.func8, Tryz.ntmps8
  go_upto_region 1 with fail
  obtain ⟨X, hX⟩ : ∃ X, X = w.heap.size := ⟨_, rfl⟩
  obtain ⟨W0, hW0⟩ : ∃ W0, W0 = (w.alloc (.cells #[.int .i64 s, .string (S t)] 37)).alloc (.cells #[.int .i64 0, .int .i64 0, .int .i64 0] 33) := ⟨_, rfl⟩
  have hb0 := HL.new w s t
  rw [← hW0] at hb0
  rw [← hW0]
  rw [← hX] at hb0
  rw [← hX]
  have HX : Hid (X = w.heap.size) := hX
  clear hW0 hX
  have hF : W0.drew.cell? ⟨x, 1, none⟩ = some (.int .i64 k) ∧ W0.drew.cell? ⟨x, 2, none⟩ = some (.int .i64 m) ∧ W0.drew.cell? ⟨X, 0, none⟩ = some (.int .i64 s) ∧ W0.drew.cell? ⟨X, 1, none⟩ = some (.string (S t)) := ⟨hb0.lat.cell_at HH.out.c1, hb0.lat.cell_at HH.out.c2, hb0.c0, hb0.c1⟩
  have HB0 := Lib.hid (hb0.keep (Lat.drew W0))
  clear hb0
  refine wp_region_gate (fun w' => w'.cell? ⟨x, 1, none⟩ = some (.int .i64 k) ∧ w'.cell? ⟨x, 2, none⟩ = some (.int .i64 m) ∧ w'.cell? ⟨X, 0, none⟩ = some (.int .i64 s) ∧ w'.cell? ⟨X, 1, none⟩ = some (.string (S t))) (fun _ => True) 1000 (by kernel_rfl) ?_
  refine gate_takeF (i := 0) (v := ?_) rfl (by kernel_rfl) (by kernel_rfl) (by kernel_rfl) (fun _ _ _ h => h) (by decide) ⟨hF, fun _ => trivial⟩ (Or.inl ⟨by rfl, ?_⟩) ?_
  rotate_left
  · intro wq hSw; obtain ⟨s0, s1, s2, s3⟩ := hSw; go_simp; rfl
  simp only [Act.put]
  refine gate_takeF (i := 1) (v := ?_) rfl (by kernel_rfl) (by kernel_rfl) (by kernel_rfl) (fun _ _ _ h => h) (by decide) ⟨hF, fun _ => trivial⟩ (Or.inl ⟨by rfl, ?_⟩) ?_
  rotate_left
  · intro wq hSw; obtain ⟨s0, s1, s2, s3⟩ := hSw; go_simp; rfl
  simp only [Act.put]
  refine gate_takeF (i := 2) (v := ?_) rfl (by kernel_rfl) (by kernel_rfl) (by kernel_rfl) (fun _ _ _ h => h) (by decide) ⟨hF, fun _ => trivial⟩ (Or.inl ⟨by rfl, ?_⟩) ?_
  rotate_left
  · intro wq hSw; obtain ⟨s0, s1, s2, s3⟩ := hSw; go_simp; rfl
  simp only [Act.put]
  refine gate_takeF (i := 3) (v := ?_) rfl (by kernel_rfl) (by kernel_rfl) (by kernel_rfl) (fun _ _ _ h => h) (by decide) ⟨hF, fun _ => trivial⟩ (Or.inl ⟨by rfl, ?_⟩) ?_
  rotate_left
  · intro wq hSw; obtain ⟨s0, s1, s2, s3⟩ := hSw; go_simp; rfl
  simp only [Act.put]
  refine gate_takeF (i := 4) (v := ?_) rfl (by kernel_rfl) (by kernel_rfl) (by kernel_rfl) (fun _ _ _ h => h) (by decide) ⟨hF, fun _ => trivial⟩ (Or.inl ⟨by rfl, ?_⟩) ?_
  rotate_left
  · intro wq hSw; obtain ⟨s0, s1, s2, s3⟩ := hSw; go_simp; rfl
  simp only [Act.put]
  refine gate_takeF (i := 5) (v := ?_) rfl (by kernel_rfl) (by kernel_rfl) (by kernel_rfl) (fun _ _ _ h => h) (by decide) ⟨hF, fun _ => trivial⟩ (Or.inl ⟨by rfl, ?_⟩) ?_
  rotate_left
  · intro wq hSw; obtain ⟨s0, s1, s2, s3⟩ := hSw; go_simp; rfl
  simp only [Act.put]
  refine gate_takeF (i := 6) (v := ?_) rfl (by kernel_rfl) (by kernel_rfl) (by kernel_rfl) (fun _ _ _ h => h) (by decide) ⟨hF, fun _ => trivial⟩ (Or.inl ⟨by rfl, ?_⟩) ?_
  rotate_left
  · intro wq hSw; obtain ⟨s0, s1, s2, s3⟩ := hSw; go_simp; rfl
  simp only [Act.put]
  refine gate_takeF (i := 7) (v := ?_) rfl (by kernel_rfl) (by kernel_rfl) (by kernel_rfl) (fun _ _ _ h => h) (by decide) ⟨hF, fun _ => trivial⟩ (Or.inl ⟨by rfl, ?_⟩) ?_
  rotate_left
  · intro wq hSw; obtain ⟨s0, s1, s2, s3⟩ := hSw; go_simp; rfl
  simp only [Act.put]
  refine gate_takeF (i := 8) (v := ?_) rfl (by kernel_rfl) (by kernel_rfl) (by kernel_rfl) (fun _ _ _ h => h) (by decide) ⟨hF, fun _ => trivial⟩ (Or.inl ⟨by rfl, ?_⟩) ?_
  rotate_left
  · intro wq hSw; obtain ⟨s0, s1, s2, s3⟩ := hSw; go_simp; rfl
  simp only [Act.put]
  refine gate_one (i := 9) (by kernel_rfl) rfl (fun K hK => ?_)
  go_simp
  refine (HCK.out _).mono ?_
  rintro e w5 ⟨rfl, hb5⟩
  have hF' : w5.cell? ⟨x, 1, none⟩ = some (.int .i64 k) ∧ w5.cell? ⟨x, 2, none⟩ = some (.int .i64 m) ∧ w5.cell? ⟨X, 0, none⟩ = some (.int .i64 s) ∧ w5.cell? ⟨X, 1, none⟩ = some (.string (S t)) := ⟨hb5.cell_at hF.1, hb5.cell_at hF.2.1, hb5.cell_at hF.2.2.1, hb5.cell_at hF.2.2.2⟩
  refine hK _ _ ⟨hF', fun _ => trivial⟩ ?_
  clear hK K hF
  have hF := hF'
  clear hF'
  refine gate_takeF (i := 10) (v := ?_) rfl (by kernel_rfl) (by kernel_rfl) (by kernel_rfl) (fun _ _ _ h => h) (by decide) ⟨hF, fun _ => trivial⟩ (Or.inl ⟨by rfl, ?_⟩) ?_
  rotate_left
  · intro wq hSw; obtain ⟨s0, s1, s2, s3⟩ := hSw; go_simp; rfl
  simp only [Act.put]
  refine gate_done (by kernel_rfl) ?_ _
  have HB5 := Lib.hid (HB0.out.keep hb5)
  clear hb5 HB0 hF
  have c5 := HB5.out.lat.cell_at HH.out.c5
  rw [← HLN.out] at c5
  go_upto_region 6 with fail
  clear c5
  have hF : w5.drew.cell? ⟨X, 0, none⟩ = some (.int .i64 s) ∧ w5.drew.cell? ⟨X, 1, none⟩ = some (.string (S t)) := ⟨HB5.out.c0, HB5.out.c1⟩
  have HB6 := Lib.hid (HB5.out.keep (Lat.drew w5))
  refine wp_region_gate (fun w' => w'.cell? ⟨X, 0, none⟩ = some (.int .i64 s) ∧ w'.cell? ⟨X, 1, none⟩ = some (.string (S t))) (fun _ => True) 1000 (by kernel_rfl) ?_
  refine gate_takeF (i := 0) (v := ?_) rfl (by kernel_rfl) (by kernel_rfl) (by kernel_rfl) (fun _ _ _ h => h) (by decide) ⟨hF, fun _ => trivial⟩ (Or.inl ⟨by rfl, ?_⟩) ?_
  rotate_left
  · intro wq hSw; obtain ⟨s0, s1⟩ := hSw; go_simp; rfl
  simp only [Act.put]
  refine gate_takeF (i := 2) (v := ?_) rfl (by kernel_rfl) (by kernel_rfl) (by kernel_rfl) (fun _ _ _ h => h) (by decide) ⟨hF, fun _ => trivial⟩ (Or.inl ⟨by rfl, ?_⟩) ?_
  rotate_left
  · intro wq hSw; obtain ⟨s0, s1⟩ := hSw; go_simp; rfl
  simp only [Act.put]
  refine gate_takeF (i := 3) (v := ?_) rfl (by kernel_rfl) (by kernel_rfl) (by kernel_rfl) (fun _ _ _ h => h) (by decide) ⟨hF, fun _ => trivial⟩ (Or.inl ⟨by rfl, ?_⟩) ?_
  rotate_left
  · intro wq hSw; obtain ⟨s0, s1⟩ := hSw; go_simp; rfl
  simp only [Act.put]
  refine gate_one (i := 1) (by kernel_rfl) rfl (fun K hK => ?_)
  have hsd := ear_seeds G x k m n q K0 L ds w5.drew ⟨Gp, p, a, cap, HH.out.keep HB6.out.lat⟩
  rw [← HLN.out] at hsd
  go_simp
  refine hsd.mono ?_
  rintro e w6 ⟨ya, yc, rfl, hyi, hb6⟩
  have hF' : w6.cell? ⟨X, 0, none⟩ = some (.int .i64 s) ∧ w6.cell? ⟨X, 1, none⟩ = some (.string (S t)) := ⟨hb6.cell_at hF.1, hb6.cell_at hF.2⟩
  refine hK _ _ ⟨hF', fun _ => trivial⟩ ?_
  clear hK K hF hsd
  have hF := hF'
  clear hF'
  refine gate_one (i := 4) (by kernel_rfl) rfl (fun K hK => ?_)
  go_simp
  refine (containsI_no ya ln yc _ _ w6 hyi HMEM.out).mono ?_
  rintro e w7 ⟨rfl, rfl⟩
  refine hK _ _ ⟨hF, fun _ => trivial⟩ ?_
  clear hK K
  refine gate_takeF (i := 5) (v := ?_) rfl (by kernel_rfl) (by kernel_rfl) (by kernel_rfl) (fun _ _ _ h => h) (by decide) ⟨hF, fun _ => trivial⟩ (Or.inl ⟨by rfl, ?_⟩) ?_
  rotate_left
  · intro wq hSw; obtain ⟨s0, s1⟩ := hSw; go_simp; rfl
  simp only [Act.put]
  refine gate_done (by kernel_rfl) ?_ _
  have HB7 := Lib.hid (HB6.out.keep hb6)
  clear hb6 hyi HB6 hF HB5
  go_upto_region 7 with fail
  have hF : w6.drew.cell? ⟨x, 0, none⟩ = some (.pointer (some ⟨p, 0, none⟩)) ∧ w6.drew.cell? ⟨X, 0, none⟩ = some (.int .i64 s) ∧ w6.drew.cell? ⟨X, 1, none⟩ = some (.string (S t)) := ⟨HB7.out.lat.cell_at HH.out.c0, HB7.out.c0, HB7.out.c1⟩
  have HB8 := Lib.hid (HB7.out.keep (Lat.drew w6))
  refine wp_region_gate (fun w' => w'.cell? ⟨x, 0, none⟩ = some (.pointer (some ⟨p, 0, none⟩)) ∧ w'.cell? ⟨X, 0, none⟩ = some (.int .i64 s) ∧ w'.cell? ⟨X, 1, none⟩ = some (.string (S t))) (fun _ => True) 1000 (by kernel_rfl) ?_
  refine gate_takeF (i := 0) (v := ?_) rfl (by kernel_rfl) (by kernel_rfl) (by kernel_rfl) (fun _ _ _ h => h) (by decide) ⟨hF, fun _ => trivial⟩ (Or.inl ⟨by rfl, ?_⟩) ?_
  rotate_left
  · intro wq hSw; obtain ⟨s0, s1, s2⟩ := hSw; go_simp; rfl
  simp only [Act.put]
  refine gate_takeF (i := 1) (v := ?_) rfl (by kernel_rfl) (by kernel_rfl) (by kernel_rfl) (fun _ _ _ h => h) (by decide) ⟨hF, fun _ => trivial⟩ (Or.inl ⟨by rfl, ?_⟩) ?_
  rotate_left
  · intro wq hSw; obtain ⟨s0, s1, s2⟩ := hSw; go_simp; rfl
  simp only [Act.put]
  refine gate_takeF (i := 2) (v := ?_) rfl (by kernel_rfl) (by kernel_rfl) (by kernel_rfl) (fun _ _ _ h => h) (by decide) ⟨hF, fun _ => trivial⟩ (Or.inl ⟨by rfl, ?_⟩) ?_
  rotate_left
  · intro wq hSw; obtain ⟨s0, s1, s2⟩ := hSw; go_simp; rfl
  simp only [Act.put]
  refine gate_takeF (i := 3) (v := ?_) rfl (by kernel_rfl) (by kernel_rfl) (by kernel_rfl) (fun _ _ _ h => h) (by decide) ⟨hF, fun _ => trivial⟩ (Or.inl ⟨by rfl, ?_⟩) ?_
  rotate_left
  · intro wq hSw; obtain ⟨s0, s1, s2⟩ := hSw; go_simp; rfl
  simp only [Act.put]
  refine gate_takeF (i := 4) (v := ?_) rfl (by kernel_rfl) (by kernel_rfl) (by kernel_rfl) (fun _ _ _ h => h) (by decide) ⟨hF, fun _ => trivial⟩ (Or.inl ⟨by rfl, ?_⟩) ?_
  rotate_left
  · intro wq hSw; obtain ⟨s0, s1, s2⟩ := hSw; go_simp; rfl
  simp only [Act.put]
  refine gate_one (i := 5) (by kernel_rfl) rfl (fun K hK => ?_)
  have h8 := HH.out.keep HB8.out.lat
  have htk := take_ok Gp p k m K0 (ds.map Dr.s) L s t w6.drew h8.peel HTE.out
  have H8 := Lib.hid h8
  clear h8
  go_simp
  refine htk.mono ?_
  rintro e w8 ⟨ra, rc, rfl, _, hst⟩
  have hpX : ∀ i, w.heap.size ≤ i → ¬ Gp i := fun i hi e => by have := HH.out.lt i (HH.out.sub i e); omega
  have hF' : w8.cell? ⟨x, 0, none⟩ = some (.pointer (some ⟨p, 0, none⟩)) ∧ w8.cell? ⟨X, 0, none⟩ = some (.int .i64 s) ∧ w8.cell? ⟨X, 1, none⟩ = some (.string (S t)) := ⟨hst.fr.cell_at hF.1 HH.out.npx, hst.fr.cell_at hF.2.1 (hpX X (by have := HX.out; omega)), hst.fr.cell_at hF.2.2 (hpX X (by have := HX.out; omega))⟩
  refine hK _ _ ⟨hF', fun _ => trivial⟩ ?_
  clear hK K hF htk
  have hF := hF'
  clear hF'
  refine gate_takeF (i := 6) (v := ?_) rfl (by kernel_rfl) (by kernel_rfl) (by kernel_rfl) (fun _ _ _ h => h) (by decide) ⟨hF, fun _ => trivial⟩ (Or.inl ⟨by rfl, ?_⟩) ?_
  rotate_left
  · intro wq hSw; obtain ⟨s0, s1, s2⟩ := hSw; go_simp; rfl
  simp only [Act.put]
  refine gate_takeF (i := 7) (v := ?_) rfl (by kernel_rfl) (by kernel_rfl) (by kernel_rfl) (fun _ _ _ h => h) (by decide) ⟨hF, fun _ => trivial⟩ (Or.inl ⟨by rfl, ?_⟩) ?_
  rotate_left
  · intro wq hSw; obtain ⟨s0, s1, s2⟩ := hSw; go_simp; rfl
  simp only [Act.put]
  refine gate_takeF (i := 8) (v := ?_) rfl (by kernel_rfl) (by kernel_rfl) (by kernel_rfl) (fun _ _ _ h => h) (by decide) ⟨hF, fun _ => trivial⟩ (Or.inl ⟨by rfl, ?_⟩) ?_
  rotate_left
  · intro wq hSw; obtain ⟨s0, s1, s2⟩ := hSw; go_simp; rfl
  simp only [Act.put]
  refine gate_takeF (i := 9) (v := ?_) rfl (by kernel_rfl) (by kernel_rfl) (by kernel_rfl) (fun _ _ _ h => h) (by decide) ⟨hF, fun _ => trivial⟩ (Or.inl ⟨by rfl, ?_⟩) ?_
  rotate_left
  · intro wq hSw; obtain ⟨s0, s1, s2⟩ := hSw; go_simp; rfl
  simp only [Act.put]
  refine gate_takeF (i := 10) (v := ?_) rfl (by kernel_rfl) (by kernel_rfl) (by kernel_rfl) (fun _ _ _ h => h) (by decide) ⟨hF, fun _ => trivial⟩ (Or.inl ⟨by rfl, ?_⟩) ?_
  rotate_left
  · intro wq hSw; obtain ⟨s0, s1, s2⟩ := hSw; go_simp; rfl
  simp only [Act.put]
  refine gate_done (by kernel_rfl) ?_ _
  have HST := Lib.hid hst
  have HPX := Lib.hid hpX
  have hb9 := HB8.out.toHB.fr hst.fr (fun i e => HH.out.lt i (HH.out.sub i e))
  have HB9 := Lib.hid hb9
  have HB8L := Lib.hid HB8.out.lat
  have HB8X := Lib.hid HB8.out.lt
  clear hst hpX hb9 hF HB8 HB7
  go_upto_region 10 with fail
  have hF : w8.drew.cell? ⟨X, 0, none⟩ = some (.int .i64 s) ∧ w8.drew.cell? ⟨X, 1, none⟩ = some (.string (S t)) := ⟨HB9.out.c0, HB9.out.c1⟩
  have hG : w8.drew.cell? ⟨x, 5, none⟩ = some (.slice a ln cap) := by
    have := HST.out.fr.cell_at H8.out.c5 HH.out.npx
    rw [← HLN.out] at this; exact this
  refine wp_region_gate (fun w' => w'.cell? ⟨X, 0, none⟩ = some (.int .i64 s) ∧ w'.cell? ⟨X, 1, none⟩ = some (.string (S t))) (fun w' => w'.cell? ⟨x, 5, none⟩ = some (.slice a ln cap)) 7 (by kernel_rfl) ?_
  refine gate_takeF (i := 0) (v := ?_) rfl (by kernel_rfl) (by kernel_rfl) (by kernel_rfl) (fun _ _ _ h => h) (by decide) ⟨hF, fun _ => hG⟩ (Or.inl ⟨by rfl, ?_⟩) ?_
  rotate_left
  · intro wq hSw; obtain ⟨s0, s1⟩ := hSw; go_simp; rfl
  simp only [Act.put]
  refine gate_takeF (i := 1) (v := ?_) rfl (by kernel_rfl) (by kernel_rfl) (by kernel_rfl) (fun _ _ _ h => h) (by decide) ⟨hF, fun _ => hG⟩ (Or.inl ⟨by rfl, ?_⟩) ?_
  rotate_left
  · intro wq hSw; obtain ⟨s0, s1⟩ := hSw; go_simp; rfl
  simp only [Act.put]
  refine gate_takeF (i := 2) (v := ?_) rfl (by kernel_rfl) (by kernel_rfl) (by kernel_rfl) (fun _ _ _ h => h) (by decide) ⟨hF, fun _ => hG⟩ (Or.inl ⟨by rfl, ?_⟩) ?_
  rotate_left
  · intro wq hSw; obtain ⟨s0, s1⟩ := hSw; go_simp; rfl
  simp only [Act.put]
  refine gate_takeF (i := 3) (v := ?_) rfl (by kernel_rfl) (by kernel_rfl) (by kernel_rfl) (fun _ _ _ h => h) (by decide) ⟨hF, fun _ => hG⟩ (Or.inl ⟨by rfl, ?_⟩) ?_
  rotate_left
  · intro wq hSw; obtain ⟨s0, s1⟩ := hSw; go_simp; rfl
  simp only [Act.put]
  refine gate_takeG (i := 4) (v := ?_) rfl (by kernel_rfl) (by kernel_rfl) (by kernel_rfl) (fun _ _ _ h => h) (by decide) (by kernel_rfl) (by kernel_rfl) ⟨hF, fun _ => hG⟩ (Or.inl ⟨by rfl, ?_⟩) ?_
  rotate_left
  · intro wq hSw; obtain ⟨⟨s0, s1⟩, s2⟩ := hSw; go_simp; rfl
  simp only [Act.put]
  refine gate_takeF (i := 5) (v := ?_) rfl (by kernel_rfl) (by kernel_rfl) (by kernel_rfl) (fun _ _ _ h => h) (by decide) ⟨hF, fun _ => hG⟩ (Or.inl ⟨by rfl, ?_⟩) ?_
  rotate_left
  · intro wq hSw; obtain ⟨s0, s1⟩ := hSw; go_simp; rfl
  simp only [Act.put]
  refine gate_one (i := 6) (by kernel_rfl) rfl (fun K hK => ?_)
  go_simp
  refine hK _ _ ⟨⟨(Lat.alloc _ _).cell_at hF.1, (Lat.alloc _ _).cell_at hF.2⟩, fun _ => (Lat.alloc _ _).cell_at hG⟩ ?_
  clear hK K
  have ho8 : OwnR w8.drew 0 37 2 (.slice a ln cap) (ds.map Dr.row) := by
    have := (H8.out.row.fr HST.out.fr (fun i hi => (H8.out.own i hi).2.2)).keep (Lat.drew w8)
    rw [← HLN.out] at this; exact this
  have HO8 := Lib.hid ho8
  have HRL : Hid ((ds.map Dr.row).length = ln) := by show _ = _; rw [List.length_map, HLN.out]
  clear ho8
  refine gate_one (i := 7) (by kernel_rfl) rfl (fun K hK => ?_)
  refine appR_step w8.drew 0 rfl (.tmp 54) (.tmp 56) 22 rfl 37 _ 2 24 Tryz.underlying22 info_DropE rfl (by decide) (by decide) _ _ _ rfl HO8.out rfl rfl (fun u hu => by simp at hu; rcases hu with rfl | rfl <;> rfl) (by rw [HRL.out]; have := HH.out.most; have := HLN.out; omega) (Nat.zero_le _) ?_
  rw [HRL.out]
  intro g' cap' w9 hown9 hb9 hs9
  have hs9 : AppStep w8.drew w9 (.slice a ln cap) (.slice (some ⟨g', 0, none⟩) (ln + 1) cap') := hs9
  have hnx : (Value.slice a ln cap).ownBlock ≠ some x := fun e => by rw [HLN.out] at e; exact (HH.out.own x e).2.1 rfl
  have hnX : ∀ i, w.heap.size ≤ i → (Value.slice a ln cap).ownBlock ≠ some i := fun i hi e => by
    rw [HLN.out] at e
    have := HH.out.lt i (HH.out.own i e).1
    omega
  have hXw : w.heap.size ≤ X := Nat.le_of_eq HX.out.symm
  have hF9 : w9.cell? ⟨X, 0, none⟩ = some (.int .i64 s) ∧ w9.cell? ⟨X, 1, none⟩ = some (.string (S t)) := ⟨hs9.cell hF.1 (hnX X hXw), hs9.cell hF.2 (hnX X hXw)⟩
  have hG9 : w9.cell? ⟨x, 5, none⟩ = some (.slice a ln cap) := hs9.cell hG hnx
  have hnp : (Value.slice a ln cap).ownBlock ≠ some p := fun e => by rw [HLN.out] at e; exact (HH.out.own p e).2.2 HGPP.out
  have hp2' : w8.drew.cell? ⟨p, 2, none⟩ = some (.map (some kb)) := HST.out.maps.1.trans (HB8L.out.cell_at HMP.out.1)
  have hp3' : w8.drew.cell? ⟨p, 3, none⟩ = some (.map (some tb)) := HST.out.maps.2.trans (HB8L.out.cell_at HMP.out.2)
  have HM9 := Lib.hid (And.intro (hs9.cell hp2' hnp) (hs9.cell hp3' hnp))
  clear hnp hp2' hp3'
  have hxl8 := World.block_lt_of_cell? _ _ hG
  have hf9 : w9.frozen? ⟨x, 5, none⟩ = false := by
    rw [World.frozen?_of_block (w := w8.drew) (a := ⟨x, 5, none⟩) (hs9.block x hxl8 (fun e => hnx e.symm))]
    exact HST.out.fr.free_at (H8.out.lt x H8.out.gx) H8.out.f5 HH.out.npx
  obtain ⟨Gp2, hp2, hGp2⟩ := HST.out.obj
  have he10 := (H8.out).heard (d := ⟨s, S t⟩) (g := g') (cap' := cap') (w4 := w9) HST.out.fr hp2 hGp2 (Lat.drew w8) (by rw [← HLN.out]; exact hs9) hb9 (by rw [← HLN.out]; exact hown9) HDE.out
  rw [← HLN.out] at he10
  have hfr10 : Fr G w (w9.setCell ⟨x, 5, none⟩ (.slice (some ⟨g', 0, none⟩) (ln + 1) cap')) := ((((Fr.lat HB8L.out : Fr G w w6.drew).trans HST.out.fr (fun i _ e => HH.out.sub i e)).next (Lat.drew w8)).trans (Fr.app hs9 ⟨hb9.os, hb9.tape, hb9.output⟩) (fun i _ e => by
    rw [HLN.out] at e
    exact (HH.out.own i e).1)).then_set ⟨x, 5, none⟩ _ (.inl HH.out.gx)
  have hb10 := ((HB9.out.keep (Lat.drew w8)).fr (Fr.app hs9 ⟨hb9.os, hb9.tape, hb9.output⟩) (fun i e => by
    rcases Nat.lt_or_ge i w.heap.size with h1 | h1
    · exact h1
    · exact absurd e (hnX i h1))).fr (Fr.set (S := fun i => i = x) w9 ⟨x, 5, none⟩ (.slice (some ⟨g', 0, none⟩) (ln + 1) cap') rfl) (fun i e => by rw [e]; exact HH.out.lt x HH.out.gx)
  have HE10 := Lib.hid he10; have HFR10 := Lib.hid hfr10; have HB10 := Lib.hid hb10
  refine hK _ _ (FG.past (by kernel_rfl) hF9) ?_
  clear hK K hF hG hown9 hb9 hs9 hnx hnX he10 hfr10 hxl8 hp2 hGp2 hb10
  refine gate_takeF (i := 8) (v := ?_) rfl (by kernel_rfl) (by kernel_rfl) (by kernel_rfl) (fun _ _ _ h => h) (by decide) (FG.past (by kernel_rfl) hF9) (Or.inl ⟨by rfl, ?_⟩) ?_
  rotate_left
  · intro wq hSw; go_simp; rfl
  simp only [Act.put]
  refine gate_takeF (i := 9) (v := ?_) rfl (by kernel_rfl) (by kernel_rfl) (by kernel_rfl) (fun _ _ _ h => h) (by decide) (FG.past (by kernel_rfl) hF9) (Or.inl ⟨by rfl, ?_⟩) ?_
  rotate_left
  · intro wq hSw; go_simp; rfl
  simp only [Act.put]
  refine gate_one (i := 10) (by kernel_rfl) rfl (fun K hK => ?_)
  clear hF9
  go_simp
  refine hK _ _ (FG.past (by kernel_rfl) ⟨HB10.out.c0, HB10.out.c1⟩) ?_
  clear hK K
  refine gate_done (by kernel_rfl) ?_ _
  clear hG9 hf9 HB9
  have HE := HE10
  have HBB := HB10
  have HFR := HFR10
  have HLL : Hid ((ds ++ [(⟨s, S t⟩ : Dr)]).length = ln + 1) := by show _ = _; rw [List.length_append, HLN.out]; rfl
  have hX6 := HB8X.out
  have HNX : Hid (∀ i, (i < (w9.setCell ⟨x, 5, none⟩ (.slice (some ⟨g', 0, none⟩) (ln + 1) cap')).heap.size ∧ (G i ∨ w6.drew.heap.size ≤ i)) → i ≠ X + 1) := fun i hi e => by
    rcases hi.2 with h1 | h1
    · have := HH.out.lt i h1; have := HX.out; omega
    · omega
  have HGI : Hid (∀ i, (i < (w9.setCell ⟨x, 5, none⟩ (.slice (some ⟨g', 0, none⟩) (ln + 1) cap')).heap.size ∧ (G i ∨ w6.drew.heap.size ≤ i)) → G i ∨ w.heap.size ≤ i) := fun i hi => hi.2.imp id (fun h1 => by have := HB8L.out.size; omega)
  have HM0 := Lib.hid (And.intro ((Fr.set (S := fun i => i = x) w9 ⟨x, 5, none⟩ (.slice (some ⟨g', 0, none⟩) (ln + 1) cap') rfl).cell_at HM9.out.1 HPNX.out) ((Fr.set (S := fun i => i = x) w9 ⟨x, 5, none⟩ (.slice (some ⟨g', 0, none⟩) (ln + 1) cap') rfl).cell_at HM9.out.2 HPNX.out))
  clear HE10 HB10 HFR10 hX6
  have c4 := HE.out.c4
  have f4 := HE.out.f4
  go_upto_region 12 with fail
  clear c4 f4
  have hcnt := HE.out.count qn
  have hbb := HBB.out.fr (Fr.set (S := fun i => i = x) _ ⟨x, 4, none⟩ (.int .i64 qn) rfl) (fun i e => by rw [e]; exact HH.out.lt x HH.out.gx)
  have hfrc := HFR.out.then_set ⟨x, 4, none⟩ (.int .i64 qn) (.inl HH.out.gx)
  have hm1 := (Fr.set (S := fun i => i = x) (w9.setCell ⟨x, 5, none⟩ (.slice (some ⟨g', 0, none⟩) (ln + 1) cap')) ⟨x, 4, none⟩ (.int .i64 qn) rfl).cell_at HM0.out.1 HPNX.out
  have hm2 := (Fr.set (S := fun i => i = x) (w9.setCell ⟨x, 5, none⟩ (.slice (some ⟨g', 0, none⟩) (ln + 1) cap')) ⟨x, 4, none⟩ (.int .i64 qn) rfl).cell_at HM0.out.2 HPNX.out
  generalize hwe : World.setCell _ ⟨x, 4, none⟩ (.int .i64 qn) = we at hcnt hbb hfrc hm1 hm2 ⊢
  have HMC := Lib.hid (And.intro hm1 hm2)
  clear hm1 hm2
  have hc4 := hcnt.c4
  have hc5 := hcnt.c5
  rw [HLL.out] at hc5
  have hF : we.drew.cell? ⟨x, 4, none⟩ = some (.int .i64 qn) ∧ we.drew.cell? ⟨x, 5, none⟩ = some (.slice (some ⟨g', 0, none⟩) (ln + 1) cap') ∧ we.drew.cell? ⟨x, 0, none⟩ = some (.pointer (some ⟨p, 0, none⟩)) := ⟨hc4, hc5, hcnt.c0⟩
  have hG : we.drew.cell? ⟨X + 1, 0, none⟩ = some (.int .i64 0) ∧ we.drew.cell? ⟨X + 1, 1, none⟩ = some (.int .i64 0) ∧ we.drew.cell? ⟨X + 1, 2, none⟩ = some (.int .i64 0) := ⟨hbb.r0, hbb.r1, hbb.r2⟩
  have HEC := Lib.hid hcnt; have HBC := Lib.hid hbb; have HFC := Lib.hid hfrc
  clear hwe hcnt hbb hfrc hc4 hc5 HE HBB HFR
  refine wp_region_gate (fun w' => w'.cell? ⟨x, 4, none⟩ = some (.int .i64 qn) ∧ w'.cell? ⟨x, 5, none⟩ = some (.slice (some ⟨g', 0, none⟩) (ln + 1) cap') ∧ w'.cell? ⟨x, 0, none⟩ = some (.pointer (some ⟨p, 0, none⟩))) (fun w' => w'.cell? ⟨X + 1, 0, none⟩ = some (.int .i64 0) ∧ w'.cell? ⟨X + 1, 1, none⟩ = some (.int .i64 0) ∧ w'.cell? ⟨X + 1, 2, none⟩ = some (.int .i64 0)) 16 (by kernel_rfl) ?_
  refine gate_takeF (i := 0) (v := ?_) rfl (by kernel_rfl) (by kernel_rfl) (by kernel_rfl) (fun _ _ _ h => h) (by decide) ⟨hF, fun _ => hG⟩ (Or.inl ⟨by rfl, ?_⟩) ?_
  rotate_left
  · intro wq hSw; obtain ⟨s0, s1, s2⟩ := hSw; go_simp; rfl
  simp only [Act.put]
  refine gate_takeF (i := 1) (v := ?_) rfl (by kernel_rfl) (by kernel_rfl) (by kernel_rfl) (fun _ _ _ h => h) (by decide) ⟨hF, fun _ => hG⟩ (Or.inl ⟨by rfl, ?_⟩) ?_
  rotate_left
  · intro wq hSw; obtain ⟨s0, s1, s2⟩ := hSw; go_simp; rfl
  simp only [Act.put]
  refine gate_takeF (i := 2) (v := ?_) rfl (by kernel_rfl) (by kernel_rfl) (by kernel_rfl) (fun _ _ _ h => h) (by decide) ⟨hF, fun _ => hG⟩ (Or.inl ⟨by rfl, ?_⟩) ?_
  rotate_left
  · intro wq hSw; obtain ⟨s0, s1, s2⟩ := hSw; go_simp; rfl
  simp only [Act.put]
  refine gate_takeF (i := 3) (v := ?_) rfl (by kernel_rfl) (by kernel_rfl) (by kernel_rfl) (fun _ _ _ h => h) (by decide) ⟨hF, fun _ => hG⟩ (Or.inl ⟨by rfl, ?_⟩) ?_
  rotate_left
  · intro wq hSw; obtain ⟨s0, s1, s2⟩ := hSw; go_simp; rfl
  simp only [Act.put]
  refine gate_takeF (i := 4) (v := ?_) rfl (by kernel_rfl) (by kernel_rfl) (by kernel_rfl) (fun _ _ _ h => h) (by decide) ⟨hF, fun _ => hG⟩ (Or.inl ⟨by rfl, ?_⟩) ?_
  rotate_left
  · intro wq hSw; obtain ⟨s0, s1, s2⟩ := hSw; go_simp; rfl
  simp only [Act.put]
  refine gate_takeF (i := 5) (v := ?_) rfl (by kernel_rfl) (by kernel_rfl) (by kernel_rfl) (fun _ _ _ h => h) (by decide) ⟨hF, fun _ => hG⟩ (Or.inl ⟨by rfl, ?_⟩) ?_
  rotate_left
  · intro wq hSw; obtain ⟨s0, s1, s2⟩ := hSw; go_simp; rfl
  simp only [Act.put]
  refine gate_takeF (i := 6) (v := ?_) rfl (by kernel_rfl) (by kernel_rfl) (by kernel_rfl) (fun _ _ _ h => h) (by decide) ⟨hF, fun _ => hG⟩ (Or.inl ⟨by rfl, ?_⟩) ?_
  rotate_left
  · intro wq hSw; obtain ⟨s0, s1, s2⟩ := hSw; go_simp; rfl
  simp only [Act.put]
  refine gate_takeF (i := 7) (v := ?_) rfl (by kernel_rfl) (by kernel_rfl) (by kernel_rfl) (fun _ _ _ h => h) (by decide) ⟨hF, fun _ => hG⟩ (Or.inl ⟨by rfl, ?_⟩) ?_
  rotate_left
  · intro wq hSw; obtain ⟨s0, s1, s2⟩ := hSw; go_simp; rfl
  simp only [Act.put]
  refine gate_takeF (i := 8) (v := ?_) rfl (by kernel_rfl) (by kernel_rfl) (by kernel_rfl) (fun _ _ _ h => h) (by decide) ⟨hF, fun _ => hG⟩ (Or.inl ⟨by rfl, ?_⟩) ?_
  rotate_left
  · intro wq hSw; obtain ⟨s0, s1, s2⟩ := hSw; go_simp; rfl
  simp only [Act.put]
  refine gate_takeF (i := 9) (v := ?_) rfl (by kernel_rfl) (by kernel_rfl) (by kernel_rfl) (fun _ _ _ h => h) (by decide) ⟨hF, fun _ => hG⟩ (Or.inl ⟨by rfl, ?_⟩) ?_
  rotate_left
  · intro wq hSw; obtain ⟨s0, s1, s2⟩ := hSw; go_simp; rfl
  simp only [Act.put]
  refine gate_takeF (i := 10) (v := ?_) rfl (by kernel_rfl) (by kernel_rfl) (by kernel_rfl) (fun _ _ _ h => h) (by decide) ⟨hF, fun _ => hG⟩ (Or.inl ⟨by rfl, ?_⟩) ?_
  rotate_left
  · intro wq hSw; obtain ⟨s0, s1, s2⟩ := hSw; go_simp; rfl
  simp only [Act.put]
  refine gate_takeF (i := 11) (v := ?_) rfl (by kernel_rfl) (by kernel_rfl) (by kernel_rfl) (fun _ _ _ h => h) (by decide) ⟨hF, fun _ => hG⟩ (Or.inl ⟨by rfl, ?_⟩) ?_
  rotate_left
  · intro wq hSw; obtain ⟨s0, s1, s2⟩ := hSw; go_simp; rfl
  simp only [Act.put]
  refine gate_takeF (i := 12) (v := ?_) rfl (by kernel_rfl) (by kernel_rfl) (by kernel_rfl) (fun _ _ _ h => h) (by decide) ⟨hF, fun _ => hG⟩ (Or.inl ⟨by rfl, ?_⟩) ?_
  rotate_left
  · intro wq hSw; obtain ⟨s0, s1, s2⟩ := hSw; go_simp; rfl
  simp only [Act.put]
  refine gate_one (i := 13) (by kernel_rfl) rfl (fun K hK => ?_)
  have hkn := peel_knows _ p k m _ _ _ we.drew (HEC.out.keep (Lat.drew we)).peel hk16
  rw [← HKN.out] at hkn
  go_simp
  refine hkn.mono ?_
  rintro e wk ⟨oa, oc, rfl, _, hbk⟩
  have hF' : wk.cell? ⟨x, 4, none⟩ = some (.int .i64 qn) ∧ wk.cell? ⟨x, 5, none⟩ = some (.slice (some ⟨g', 0, none⟩) (ln + 1) cap') ∧ wk.cell? ⟨x, 0, none⟩ = some (.pointer (some ⟨p, 0, none⟩)) := ⟨hbk.cell_at hF.1, hbk.cell_at hF.2.1, hbk.cell_at hF.2.2⟩
  have hG' : wk.cell? ⟨X + 1, 0, none⟩ = some (.int .i64 0) ∧ wk.cell? ⟨X + 1, 1, none⟩ = some (.int .i64 0) ∧ wk.cell? ⟨X + 1, 2, none⟩ = some (.int .i64 0) := ⟨hbk.cell_at hG.1, hbk.cell_at hG.2.1, hbk.cell_at hG.2.2⟩
  have HBK := Lib.hid ((Lat.drew we).trans hbk)
  refine hK _ _ ⟨hF', fun _ => hG'⟩ ?_
  clear hK K hF hG hkn hbk
  have hF := hF'
  have hG := hG'
  clear hF' hG'
  refine gate_takeF (i := 14) (v := ?_) rfl (by kernel_rfl) (by kernel_rfl) (by kernel_rfl) (fun _ _ _ h => h) (by decide) ⟨hF, fun _ => hG⟩ (Or.inl ⟨by rfl, ?_⟩) ?_
  rotate_left
  · intro wq hSw; obtain ⟨s0, s1, s2⟩ := hSw; go_simp; rfl
  simp only [Act.put]
  refine gate_takeF (i := 15) (v := ?_) rfl (by kernel_rfl) (by kernel_rfl) (by kernel_rfl) (fun _ _ _ h => h) (by decide) ⟨hF, fun _ => hG⟩ (Or.inl ⟨by rfl, ?_⟩) ?_
  rotate_left
  · intro wq hSw; obtain ⟨s0, s1, s2⟩ := hSw; go_simp; rfl
  simp only [Act.put]
  have hbf := HBC.out.keep HBK.out
  have e0 := hG.1
  have e1 := hG.2.1
  have e2 := hG.2.2
  have g0 := hbf.g0
  have g1 := hbf.g1
  have g2 := hbf.g2
  have HBF := Lib.hid hbf
  have hqX : ∀ i, i ≠ X + 1 → ∀ j v u1 u2 u3, wk.cell? ⟨i, j, none⟩ = some v → (((wk.setCell ⟨X + 1, 0, none⟩ u1).setCell ⟨X + 1, 1, none⟩ u2).setCell ⟨X + 1, 2, none⟩ u3).cell? ⟨i, j, none⟩ = some v := fun i hi j v u1 u2 u3 hv => by
    rw [World.cell?_setCell_other _ _ _ _ (by intro e; injection e with e _ _; exact hi e.symm), World.cell?_setCell_other _ _ _ _ (by intro e; injection e with e _ _; exact hi e.symm), World.cell?_setCell_other _ _ _ _ (by intro e; injection e with e _ _; exact hi e.symm)]; exact hv
  have hxX : x ≠ X + 1 := by have := HH.out.lt x HH.out.gx; have := HX.out; omega
  have hF9 := fun u1 u2 u3 => And.intro (hqX x hxX _ _ u1 u2 u3 hF.1) (And.intro (hqX x hxX _ _ u1 u2 u3 hF.2.1) (hqX x hxX _ _ u1 u2 u3 hF.2.2))
  have HF9 := Lib.hid hF9
  have QQ := three_put hG.1 hG.2.1 hG.2.2 (.int .i64 qn) (.int .i64 ((ln : Int) + 1)) (.int .i64 (kn : Nat))
  have HQQ := Lib.hid QQ
  refine gate_one (i := 16) (by kernel_rfl) rfl (fun K hK => ?_)
  clear hF9 hqX QQ hbf
  go_simp
  refine hK _ _ (FG.past (by kernel_rfl) (HF9.out _ _ _)) ?_
  clear hK K hF hG e0 e1 e2 g0 g1 g2
  refine gate_takeF (i := 17) (v := ?_) rfl (by kernel_rfl) (by kernel_rfl) (by kernel_rfl) (fun _ _ _ h => h) (by decide) (FG.past (by kernel_rfl) (HF9.out _ _ _)) (Or.inl ⟨by rfl, ?_⟩) ?_
  rotate_left
  · intro wq hSw; go_simp; rfl
  simp only [Act.put]
  refine gate_done (by kernel_rfl) ?_ _
  simp only [List.getElem_toArray, List.getElem_cons_succ, List.getElem_cons_zero]
  go_wp2
  have hff : Fr (fun i => i = X + 1) wk (((wk.setCell ⟨X + 1, 0, none⟩ (.int .i64 qn)).setCell ⟨X + 1, 1, none⟩ (.int .i64 ((ln : Int) + 1))).setCell ⟨X + 1, 2, none⟩ (.int .i64 (kn : Nat))) := ((Fr.set (S := fun i => i = X + 1) wk ⟨X + 1, 0, none⟩ _ rfl).then_set ⟨X + 1, 1, none⟩ _ (.inl rfl)).then_set ⟨X + 1, 2, none⟩ _ (.inl rfl)
  have hfin : EarStep G x k m n qn (lrnK k K0 (L ++ [(setZ k s.toNat, t)])) (lrnL k K0 (L ++ [(setZ k s.toNat, t)])) (ds ++ [⟨s, S t⟩]) w (((wk.setCell ⟨X + 1, 0, none⟩ (.int .i64 qn)).setCell ⟨X + 1, 1, none⟩ (.int .i64 ((ln : Int) + 1))).setCell ⟨X + 1, 2, none⟩ (.int .i64 (kn : Nat))) :=
    ⟨(HFC.out.next HBK.out).trans hff (fun i hi e => by have := HX.out; omega), ⟨_, ⟨_, _, _, _, (HEC.out.keep HBK.out).fr hff (fun i hi e => HNX.out i hi e)⟩, HGI.out⟩, ⟨((HEC.out.keep HBK.out).fr hff (fun i hi e => HNX.out i hi e)).c0.trans HH.out.c0.symm, fun p' hp' => by
      obtain rfl : p = p' := by have := HH.out.c0.symm.trans hp'; injection this with this; injection this with this; injection this with this; injection this
      exact ⟨(hff.cell_at (HBK.out.cell_at HMC.out.1) (fun e => by have e' : p = X + 1 := e; have := HPL.out; have := HX.out; omega)).trans HMP.out.1.symm, (hff.cell_at (HBK.out.cell_at HMC.out.2) (fun e => by have e' : p = X + 1 := e; have := HPL.out; have := HX.out; omega)).trans HMP.out.2.symm⟩⟩⟩
  have Q0 := HQQ.out
  refine bodyPost_ret (v := .tuple #[.agg #[.int .i64 qn, .int .i64 ((ln : Int) + 1), .int .i64 (kn : Nat)], .nilIface]) (by simp [results, Tryz.results8, go_sem, Q0.1, Q0.2.1, Q0.2.2]) rfl ⟨?_, hfin⟩
  rfl
end Go.Proofs.YtcpookgbneoilaaGreatDoor

