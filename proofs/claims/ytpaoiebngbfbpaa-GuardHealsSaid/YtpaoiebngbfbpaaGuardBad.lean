/- guard.Add where it fails. -/
import Derived.Test.YtpaoiebngbfbpaaGuardAdd
namespace Go.Proofs.Ytpaoiebngbfbpaa
open Go.ChangeShapes Go.WideShapes Go.ChangeAt Go.RowKit Go.Shelf

attribute [local go_sem] Oper.semAt_some

set_option maxRecDepth 100000 in
set_option maxHeartbeats 2000000 in
theorem add_chk (a : Option Addr) (n cap : Nat) (ss : List ByteArray) (e : Int) (w : World) (h : StrsAt w a n cap ss) (hb : chk ss ≠ 0) :
    Calls Try.prog 4 #[.slice a n cap, .int .i64 e] w fun x w' => x = .returned (.tuple #[.slice none 0 0, eno (chk ss)]) ∧ Lat w w' := by
  have H := Lib.hid h; have HB := Lib.hid hb
  clear h hb
  refine (callsIn_wide (n := 3)).1 ?_
  refine callsIn_of_wp_marks Try.func4 rfl trivial ?_ rfl
  simp only [Try.ntmps4, List.size_toArray, List.length_cons, List.length_nil, Nat.reduceAdd, Nat.reduceSub, Array.replicate_succ, Array.replicate_zero, List.push_toArray, List.append_toArray, List.nil_append, List.cons_append]
  gi_wp2_with (refine ⟨trivial, ?_⟩; gi_at_call 7; refine (callsIn_wide.2 (check_bad _ n cap ss _ H.out HB.out)).mono ?_; rintro x w1 ⟨rfl, hb1⟩)
  exact ⟨_, results_tmp2 rfl _ _ _, rfl, hb1⟩

set_option maxRecDepth 100000 in
set_option maxHeartbeats 2000000 in
theorem add_range (a : Option Addr) (n cap : Nat) (ss : List ByteArray) (e : Int) (w : World) (h : StrsAt w a n cap ss) (hb : chk ss = 0) (he : e < 1 ∨ 16 < e) :
    Calls Try.prog 4 #[.slice a n cap, .int .i64 e] w fun x w' => x = .returned (.tuple #[.slice none 0 0, eno 1]) ∧ Lat w w' := by
  have H := Lib.hid h; have HB := Lib.hid hb; have HE := Lib.hid he
  clear h hb he
  refine (callsIn_wide (n := 3)).1 ?_
  refine callsIn_of_wp_marks Try.func4 rfl trivial ?_ rfl
  simp only [Try.ntmps4, List.size_toArray, List.length_cons, List.length_nil, Nat.reduceAdd, Nat.reduceSub, Array.replicate_succ, Array.replicate_zero, List.push_toArray, List.append_toArray, List.nil_append, List.cons_append]
  gi_wp2_with (first
    | (refine ⟨trivial, ?_⟩; gi_at_call 7; refine (callsIn_wide.2 (check_ok _ n cap ss _ H.out HB.out)).mono ?_; rintro x w1 ⟨rfl, hb1⟩)
    | (refine ⟨trivial, ?_⟩; gi_at_call 8; refine (callsIn_wide.2 (dblocks_no e _ HE.out)).mono ?_; rintro x w2 ⟨rfl, rfl⟩))
  exact ⟨_, results_tmp2 rfl _ _ _, rfl, hb1⟩

set_option maxRecDepth 100000 in
set_option maxHeartbeats 2000000 in
theorem add_full (a : Option Addr) (n cap : Nat) (ss : List ByteArray) (e : Nat) (w : World) (h : StrsAt w a n cap ss) (hb : chk ss = 0) (he : 1 ≤ e) (he2 : e ≤ 16) (hf : 16 < n + grps n e) :
    Calls Try.prog 4 #[.slice a n cap, .int .i64 e] w fun x w' => x = .returned (.tuple #[.slice none 0 0, eno 4]) ∧ Lat w w' := by
  have hck := chk_ok hb
  have hl := h.len
  have hn16 : n ≤ 16 := by have := hck.most; omega
  have hgr := fun W => groups_any n e W (by omega) he he2
  have hgm := (grps_mul n e he).2
  have hgk : grps n e ≤ grps n e * e := Nat.le_mul_of_pos_right _ he
  obtain ⟨G, hG⟩ : ∃ G, G = grps n e := ⟨_, rfl⟩
  rw [← hG] at hf hgr hgm hgk
  have hG2 : G ≤ 1000 := by omega
  have H := Lib.hid h; have HB := Lib.hid hb; have HGR := Lib.hid hgr
  clear h hb hck hl hgr hG hgm hgk
  refine (callsIn_wide (n := 3)).1 ?_
  refine callsIn_of_wp_marks Try.func4 rfl trivial ?_ rfl
  simp only [Try.ntmps4, List.size_toArray, List.length_cons, List.length_nil, Nat.reduceAdd, Nat.reduceSub, Array.replicate_succ, Array.replicate_zero, List.push_toArray, List.append_toArray, List.nil_append, List.cons_append]
  gi_wp2_with (first
    | (refine ⟨trivial, ?_⟩; gi_at_call 7; refine (callsIn_wide.2 (check_ok _ n cap ss _ H.out HB.out)).mono ?_; rintro x w1 ⟨rfl, hb1⟩)
    | (refine ⟨trivial, ?_⟩; gi_at_call 8; refine (callsIn_wide.2 (dblocks_yes e _ (by omega) (by omega))).mono ?_; rintro x w2 ⟨rfl, rfl⟩)
    | (refine ⟨trivial, ?_⟩; gi_at_call 9; refine (callsIn_wide.2 (HGR.out _)).mono ?_; rintro x w2 ⟨rfl, rfl⟩))
  exact ⟨_, results_tmp2 rfl _ _ _, rfl, hb1⟩

/-- The error of guard.Add. -/
def addE (ss : List ByteArray) (e : Int) : Nat := if chk ss ≠ 0 then chk ss else if e < 1 ∨ 16 < e then 1 else if 16 < ss.length + grps ss.length e.toNat then 4 else 0
theorem add_err (a : Option Addr) (n cap : Nat) (ss : List ByteArray) (e : Int) (w : World) (h : StrsAt w a n cap ss) (hb : addE ss e ≠ 0) :
    Calls Try.prog 4 #[.slice a n cap, .int .i64 e] w fun x w' => x = .returned (.tuple #[.slice none 0 0, eno (addE ss e)]) ∧ Lat w w' := by
  have hl := h.len
  unfold addE at hb ⊢
  by_cases h1 : chk ss ≠ 0
  · rw [if_pos h1]; exact add_chk a n cap ss e w h h1
  rw [if_neg h1] at hb ⊢
  by_cases h2 : e < 1 ∨ 16 < e
  · rw [if_pos h2]; exact add_range a n cap ss e w h (by omega) h2
  rw [if_neg h2] at hb ⊢
  obtain ⟨k, rfl⟩ : ∃ k : Nat, e = k := ⟨e.toNat, by omega⟩
  rw [Int.toNat_natCast, hl] at hb ⊢
  by_cases h3 : 16 < n + grps n k
  · rw [if_pos h3]; exact add_full a n cap ss k w h (by omega) (by omega) (by omega) h3
  · rw [if_neg h3] at hb; exact absurd rfl hb
end Go.Proofs.Ytpaoiebngbfbpaa
