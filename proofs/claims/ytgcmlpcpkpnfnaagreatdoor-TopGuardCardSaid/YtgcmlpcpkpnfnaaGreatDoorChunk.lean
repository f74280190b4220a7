/- slices.Chunk at strings: what its closure yields, round for round. -/
import Derived.RangeFuncNested
import Derived.RangeFuncBound
import Derived.RangeFuncCalls
import Derived.RangeFuncLeaves
import Derived.Shelf.Abstract
import Derived.Shelf.RegionOpen
import Derived.WalkKit
import Derived.OwnWalkIn
import Derived.TacticsInMore
import Derived.LoopNIn
import Derived.LoopIn
import Derived.Test.YtgcmlpcpkpnfnaaGreatDoorGuard1
namespace Go.Proofs.YtgcmlpcpkpnfnaaGreatDoor
open Go.ChangeShapes Go.WideShapes Go.ChangeAt Go.RowKit Go.Shelf

attribute [local go_sem] Oper.semAt_some

/-- Two cells are as they were. -/
structure KC (B C : Nat) (W W' : World) : Prop where
  one : W'.cell? ⟨B, 0, none⟩ = W.cell? ⟨B, 0, none⟩
  two : W'.cell? ⟨C, 0, none⟩ = W.cell? ⟨C, 0, none⟩
theorem KC.refl (B C : Nat) (W : World) : KC B C W W := ⟨rfl, rfl⟩
theorem KC.trans {B C : Nat} {X Y Z : World} (h : KC B C X Y) (k : KC B C Y Z) : KC B C X Z := ⟨k.one.trans h.one, k.two.trans h.two⟩
theorem KC.put {B C m : Nat} (hb : B < m) (hc : C < m) (W : World) (l : Nat) (o o' : Obj) (hl : m ≤ l) (_ : W.heap[l]? = some o) (_ : o.isCells = false) (_ : o.isWalk = false) : KC B C W (W.putObj l o') :=
  ⟨World.cell?_of_block (World.putObj_heap_other (by simp only; omega)), World.cell?_of_block (World.putObj_heap_other (by simp only; omega))⟩

/-- group g of n blocks, e in a group -/
def chk1 (b off n e g : Nat) : Value := .slice (some ⟨b, off + g * e, none⟩) (min e (n - g * e)) (min e (n - g * e))

set_option maxRecDepth 100000 in
set_option maxHeartbeats 2000000 in
theorem chunk1_in (n : Nat) (hn : 1 ≤ n) (l Bs Be b off len cap e G : Nat) (hG : G = grps len e) (he : 1 ≤ e) (he2 : e ≤ 16) (hlen : len ≤ 16) (hcap : len ≤ cap) (hmax : cap ≤ maxLen) (J Jx : List (Fin G) → World → Prop) (hJd : ∀ pre W, J pre W → J pre W.drew)
    (hY : ∀ pre x W, J pre W → pre.length < G → YieldAt Fence.wide (n - 1) Tryz.prog l #[chk1 b off len e x.1] W fun e W' =>
      (e = .returned (.bool true) ∧ J (pre ++ [x]) W' ∧ KC Bs Be W W') ∨ (e = .returned (.bool false) ∧ Jx (pre ++ [x]) W'))
    (W : World) (hBs : W.cell? ⟨Bs, 0, none⟩ = some (.slice (some ⟨b, off, none⟩) len cap)) (hBe : W.cell? ⟨Be, 0, none⟩ = some (.int .i64 e)) (h0 : J [] W) :
    CallsIn Fence.wide n Tryz.prog 55 #[.func (.yield l) #[] #[], .pointer (some ⟨Bs, 0, none⟩), .pointer (some ⟨Be, 0, none⟩)] W fun e W' => (∃ v, e = .returned v) ∧
      ((∃ ys : List (Fin G), ys.map Fin.val = List.range G ∧ J ys W') ∨ (∃ pre, True ∧ Jx pre W')) := by
  unfold maxLen at hmax
  have hGm := grps_mul len e he
  have hGl := fun g => grps_lt len e g he
  rw [← hG] at hGm hGl
  have HGL := Lib.hid hGl; have HY := Lib.hid hY
  clear hGl hY hG
  refine callsIn_of_wp Tryz.func55 rfl trivial ?_ rfl
  simp only [Tryz.ntmps55, List.size_toArray, List.length_cons, List.length_nil, Nat.reduceAdd, Nat.reduceSub, Array.replicate_succ, Array.replicate_zero, List.push_toArray, List.append_toArray, List.nil_append, List.cons_append]
  gi_wp2
  gi_loopw [4] (fun i wr => ∃ (k q : Nat) (pre : List (Fin G)), k ≤ G ∧ q = k * e ∧ i = .int .i64 q ∧ pre.map Fin.val = List.range k ∧ J pre wr ∧ KC Bs Be W wr)
    (fun i _ => len + 16 - (intOf i).toNat)
  case atStart => exact ⟨0, 0, [], Nat.zero_le _, by simp, rfl, rfl, h0, KC.refl _ _ _⟩
  case round =>
    obtain ⟨k, q, pre, hk, hq, rfl, hpre, hJs, hnx⟩ := hrel
    have hBs' := hnx.one.trans hBs
    have hBe' := hnx.two.trans hBe
    have hpl : pre.length = k := by have := congrArg List.length hpre; simpa using this
    by_cases hlt : k < G
    · have hql : q < len := by rw [hq]; exact (HGL.out k).1 hlt
      obtain ⟨t, ht⟩ : ∃ t, t = min e (len - q) := ⟨_, rfl⟩
      have hchk : chk1 b off len e k = .slice (some ⟨b, off + q, none⟩) t t := by unfold chk1; rw [← hq, ← ht]
      obtain ⟨fn, tmps, assign, body, hy, hR⟩ := HY.out pre ⟨k, hlt⟩ wr.drew (hJd _ _ hJs) (by rw [hpl]; exact hlt)
      simp only [hchk] at hy
      have hkq : (k + 1) * e = q + e := by rw [Nat.succ_mul, ← hq]
      have i1 : (0 : Int) ≤ (q : Int) := by omega
      have i2 : (q : Int) < (len : Int) := by omega
      have i3 : (q : Int) ≤ (len : Int) := by omega
      have HQ := Lib.hid hkq; have HP := Lib.hid hpre; have HPL := Lib.hid hpl
      clear hq hpre hchk hkq hpl
      by_cases hle : len - q < e
      · have ht2 : t = len - q := by omega
        subst ht2
        have n1 : ((q : Int) + ((len - q : Nat) : Int)).toNat - q = len - q := by omega
        clear ht
        gi_wp2
        gi_region
        all_goals gi_wp2
        all_goals
          refine hR.mono ?_
          rintro x W3 (⟨rfl, hJ3, hk3⟩ | ⟨rfl, hJx3⟩)
          · have hBs3 := hk3.one.trans hBs'
            have hBe3 := hk3.two.trans hBe'
            gi_wp2
            go_roundw
            case rel => exact ⟨k + 1, q + e, pre ++ [⟨k, hlt⟩], by omega, HQ.out.symm, by go_num, by rw [List.map_append, HP.out, List.range_succ]; rfl, hJ3, (hnx.trans (show KC Bs Be wr wr.drew from ⟨rfl, rfl⟩)).trans hk3⟩
            case measure => simp [intOf]; omega
          · gi_wp2
            refine bodyPost_ret (results_none rfl _ _ _) rfl ?_
            exact ⟨⟨_, rfl⟩, .inr ⟨_, trivial, hJx3⟩⟩
      · have ht2 : t = e := by omega
        subst ht2
        have n1 : ((q : Int) + (t : Int)).toNat - q = t := by omega
        clear ht
        gi_wp2
        gi_region
        all_goals gi_wp2
        all_goals
          refine hR.mono ?_
          rintro x W3 (⟨rfl, hJ3, hk3⟩ | ⟨rfl, hJx3⟩)
          · have hBs3 := hk3.one.trans hBs'
            have hBe3 := hk3.two.trans hBe'
            gi_wp2
            go_roundw
            case rel => exact ⟨k + 1, q + t, pre ++ [⟨k, hlt⟩], by omega, HQ.out.symm, by go_num, by rw [List.map_append, HP.out, List.range_succ]; rfl, hJ3, (hnx.trans (show KC Bs Be wr wr.drew from ⟨rfl, rfl⟩)).trans hk3⟩
            case measure => simp [intOf]; omega
          · gi_wp2
            refine bodyPost_ret (results_none rfl _ _ _) rfl ?_
            exact ⟨⟨_, rfl⟩, .inr ⟨_, trivial, hJx3⟩⟩
    · have hql : ¬ q < len := by rw [hq]; intro h; exact hlt ((HGL.out k).2 h)
      have i2 : ¬ (q : Int) < (len : Int) := by omega
      obtain rfl : k = G := by omega
      clear hq
      gi_wp2
      go_end0
      exact ⟨⟨_, rfl⟩, .inl ⟨_, hpre, hJs⟩⟩

/-- slices.Chunk boxes both; the function value captures the boxes. -/
theorem chunk_make (a : Option Addr) (len cap e : Nat) (w : World) (he : 1 ≤ e) :
    Calls Tryz.prog 26 #[.slice a len cap, .int .i64 e] w fun x w' => x = .returned (.func (.func 55) #[] #[.pointer (some ⟨w.heap.size, 0, none⟩), .pointer (some ⟨w.heap.size + 1, 0, none⟩)])
      ∧ w' = (w.alloc (.cells #[.slice a len cap] 22)).alloc (.cells #[.int .i64 e] 3) := by
  have d0 : ¬ (e : Int) < 1 := by omega
  go_enter Tryz.func26, Tryz.ntmps26
  go_wp2
  go_ret
  exact ⟨rfl, rfl⟩

theorem chunk_stops (n : Nat) (hn : 1 ≤ n) (Bs Be b off len cap e G : Nat) (hG : G = grps len e) (he : 1 ≤ e) (he2 : e ≤ 16) (hlen : len ≤ 16) (hcap : len ≤ cap) (hmax : cap ≤ maxLen) (w : World) (hbs : Bs < w.heap.size) (hbe : Be < w.heap.size)
    (hBs : w.cell? ⟨Bs, 0, none⟩ = some (.slice (some ⟨b, off, none⟩) len cap)) (hBe : w.cell? ⟨Be, 0, none⟩ = some (.int .i64 e)) :
    SeqStopsK Fence.wide n Tryz.prog 55 #[.pointer (some ⟨Bs, 0, none⟩), .pointer (some ⟨Be, 0, none⟩)] (fun x : Fin G => #[chk1 b off len e x.1]) (KC Bs Be) (fun ys => ys.map Fin.val = List.range G) (fun _ => True) G w := fun l J Jx W hW hJ _ hY h0 => by
  have h1 := (hW.cell (p := ⟨Bs, 0, none⟩) hbs).trans hBs
  have h2 := (hW.cell (p := ⟨Be, 0, none⟩) hbe).trans hBe
  exact chunk1_in n hn l Bs Be b off len cap e G hG he he2 hlen hcap hmax J Jx (fun pre W' h => hJ pre W' W'.drew none h ⟨rfl, rfl, rfl, Nat.le_refl _, fun _ _ _ => rfl⟩ (fun r e => by cases e)) hY W h1 h2 h0
end Go.Proofs.YtgcmlpcpkpnfnaaGreatDoor
