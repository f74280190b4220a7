/- Plain laws of films: what is coded is told as it was told when it was coded; a film that ends earlier is told as the beginning. -/
import Derived.Test.YtnnjijdpenifjaaFilmLaw
namespace Go.Proofs.Ytnnjijdpenifjaa
open Go.ChangeShapes Go.WideShapes Go.ChangeAt Go.RowKit

/-- the first k pictures as they are told -/
def tds (ps : List Pt) (ev s : Int) (k : Nat) : List Pt := (List.range k).map fun i => (sht ps ev s (i + 1)).2
theorem tds_len (ps : List Pt) (ev s : Int) (k : Nat) : (tds ps ev s k).length = k := by simp [tds]
theorem tds_succ (ps : List Pt) (ev s : Int) (k : Nat) : tds ps ev s (k + 1) = tds ps ev s k ++ [(sht ps ev s (k + 1)).2] := by unfold tds; rw [List.range_succ, List.map_append]; rfl
theorem tds_get (ps : List Pt) (ev s : Int) (k i : Nat) (h : i < k) : (tds ps ev s k).getD i default = (sht ps ev s (i + 1)).2 := by
  unfold tds; rw [List.getD_eq_getElem?_getD, List.getElem?_map, List.getElem?_range h]; rfl
theorem tds_take (ps : List Pt) (ev s : Int) (k m : Nat) (h : m ≤ k) : (tds ps ev s k).take m = tds ps ev s m := by
  unfold tds; rw [← List.map_take, List.take_range, Nat.min_eq_left h]
theorem dst_told {ps : List Pt} {ev s : Int} (h : FOk ps ev s) (C : List Ct) : ∀ k, k ≤ ps.length → (∀ i, i < k → C.getD i default = cdS ev s i (sht ps ev s i).2 (ps.getD i default)) →
    dstE (ps.getD 0 default).d (ps.getD 0 default).g s C k = 0 ∧ (dst (ps.getD 0 default).d (ps.getD 0 default).g s C k).2 = (sht ps ev s k).2 ∧ (dst (ps.getD 0 default).d (ps.getD 0 default).g s C k).1 = tds ps ev s k := by
  intro k
  induction k with
  | zero => exact fun _ _ => ⟨rfl, rfl, rfl⟩
  | succ k ih =>
    intro hk hC
    obtain ⟨h1, h2, h3⟩ := ih (by omega) (fun i hi => hC i (by omega))
    have hst := (film_ok h (k + 1) hk).1 k (by omega)
    obtain ⟨_, hd, hg⟩ := h.pic k (by omega)
    have hs2 : (sht ps ev s (k + 1)).2 = tlS (ps.getD 0 default).d (ps.getD 0 default).g s (sht ps ev s k).2 (cdS ev s k (sht ps ev s k).2 (ps.getD k default)) := by rw [sht_succ, hd, hg]
    refine ⟨?_, ?_, ?_⟩
    · rw [dstE, if_neg (by rw [h1]; simp), h2, hC k (by omega)]; exact hst.tl
    · rw [dst_succ, h2, hC k (by omega), hs2]
    · rw [dst_succ, tds_succ, h3, h2, hC k (by omega), hs2]
theorem fd_told {ps : List Pt} {ev s : Int} (h : FOk ps ev s) {m : Nat} (h1 : 1 ≤ m) (hm : m ≤ ps.length) :
    fdE (ps.getD 0 default).d (ps.getD 0 default).g s ((sht ps ev s ps.length).1.take m) = 0 ∧ fdL (ps.getD 0 default).d (ps.getD 0 default).g s ((sht ps ev s ps.length).1.take m) = tds ps ev s m := by
  have hl : ((sht ps ev s ps.length).1.take m).length = m := by rw [List.length_take, sht_len]; omega
  have hC : ∀ i, i < m → ((sht ps ev s ps.length).1.take m).getD i default = cdS ev s i (sht ps ev s i).2 (ps.getD i default) := fun i hi => by
    rw [List.getD_eq_getElem?_getD, List.getElem?_take, if_pos hi, ← List.getD_eq_getElem?_getD]
    exact sht_get ps ev s ps.length i (by omega)
  obtain ⟨e1, e2, e3⟩ := dst_told h _ m hm hC
  have hp := (h.pic 0 (by have := h.n1; omega)).1
  have hE : fdE (ps.getD 0 default).d (ps.getD 0 default).g s ((sht ps ev s ps.length).1.take m) = 0 := by
    have n6 := h.n6
    unfold fdE
    rw [hl]
    have hc : fchkE m = 0 := by unfold fchkE; rw [if_neg (by omega), if_neg (by omega)]
    have a1 : sideB (ps.getD 0 default).d = true := decide_eq_true ⟨hp.w1, hp.w6⟩
    have a2 : sideB (ps.getD 0 default).g = true := decide_eq_true ⟨hp.h1, hp.h6⟩
    have a3 : stepB s = true := decide_eq_true ⟨h.s1, h.s64⟩
    have a4 : (((sht ps ev s ps.length).1.take m).getD 0 default).al = true := by
      rw [hC 0 (by omega)]; unfold cdS; rw [if_pos (show ((0 : Nat) : Int) % ev = 0 from Int.zero_emod ev)]
    rw [hc, if_neg (by simp), if_neg (by rw [a1, a2, a3]; simp), if_neg (by rw [a4]; simp), e1]
  refine ⟨hE, ?_⟩
  unfold fdL
  rw [if_pos hE, hl, e3]
/-- What is told of picture i. -/
structure ToldOk (ps : List Pt) (ev s : Int) (i : Nat) : Prop where
  d : (sht ps ev s (i + 1)).2.d = (ps.getD 0 default).d
  g : (sht ps ev s (i + 1)).2.g = (ps.getD 0 default).g
  ok : PicOk (ps.getD 0 default).d (ps.getD 0 default).g (sht ps ev s (i + 1)).2.zs
  near : unl (sht ps ev s (i + 1)).2.zs (ps.getD i default).zs (sht ps ev s (i + 1)).2.zs.length ≤ s / 2
theorem ftold_ok {ps : List Pt} {ev s : Int} (h : FOk ps ev s) {i : Nat} (hi : i < ps.length) : ToldOk ps ev s i := by
  have hf := film_ok h (i + 1) (by omega)
  obtain ⟨h1, h2, h3⟩ := hf.2 (by omega)
  have hst := hf.1 i (by omega)
  obtain ⟨hp, hd, hg⟩ := h.pic i hi
  refine ⟨h1, h2, h3, ?_⟩
  have hs2 : (sht ps ev s (i + 1)).2 = tlS (ps.getD 0 default).d (ps.getD 0 default).g s (sht ps ev s i).2 (cdS ev s i (sht ps ev s i).2 (ps.getD i default)) := by rw [sht_succ, hd, hg]
  have hl : (sht ps ev s (i + 1)).2.zs.length = (ps.getD i default).zs.length := by have a := h3.len; have b := hp.len; omega
  rw [unl_comm, hl, hs2]
  exact hst.near
end Go.Proofs.Ytnnjijdpenifjaa
