/- What holds of coded pictures that are told without a fault; what they are as bytes. No program in sight. -/
import Derived.Test.YtnnjijdpenifjaaDoorBytPlain
namespace Go.Proofs.YtnnjijdpenifjaaDoor

structure FdOk (wd hg s : Int) (cs : List Ct) : Prop where
  n1 : 1 ≤ cs.length
  n6 : cs.length ≤ 6
  w1 : 1 ≤ wd
  w6 : wd ≤ 6
  h1 : 1 ≤ hg
  h6 : hg ≤ 6
  s1 : 1 ≤ s
  s64 : s ≤ 64
  cd : ∀ k, k < cs.length → CdOk (wd * hg).toNat (cs.getD k default)
theorem tl_zero {wd hg s : Int} {L : Pt} {c : Ct} (hL : c.al = false → (L.d = wd ∧ L.g = hg)) (h : tlE wd hg s L c = 0) :
    CdOk (wd * hg).toNat c ∧ (tlS wd hg s L c).d = wd ∧ (tlS wd hg s L c).g = hg := by
  obtain ⟨al, x, y, rs⟩ := c
  obtain ⟨ld, lg, ls⟩ := L
  change tldE ld lg ls wd hg s al x y rs = 0 at h
  show CdOk _ _ ∧ tldD ld lg ls wd hg s al x y rs = wd ∧ tldG ld lg ls wd hg s al x y rs = hg
  cases al with
  | false =>
    obtain ⟨e1, e2⟩ := hL rfl
    change ld = wd at e1
    change lg = hg at e2
    subst e1 e2
    unfold tldE at h
    rw [if_pos rfl] at h
    have h0 := h
    obtain ⟨hk, _, _, _, hm, hre⟩ := behE_zero h
    obtain ⟨r1, r2⟩ := rstE_zero hre
    have oa := chkPic_ok hk
    refine ⟨⟨?_, r2, (fun e => by cases e), fun _ => hm⟩, ?_, ?_⟩
    · show rs.length = _
      have := oa.len
      omega
    · unfold tldD behD; rw [if_pos rfl, if_pos h0]
    · unfold tldG behG; rw [if_pos rfl, if_pos h0]
  | true =>
    unfold tldE at h
    rw [if_neg (by simp)] at h
    by_cases hq : x ≠ 0 ∨ y ≠ 0
    · rw [if_pos hq] at h; omega
    · rw [if_neg hq] at h
      have h0 := h
      obtain ⟨_, _, _, _, _, _, r1, r2⟩ := dcE_zero h
      refine ⟨⟨?_, r2, fun _ => ⟨show x = 0 by omega, show y = 0 by omega⟩, (fun e => by cases e)⟩, ?_, ?_⟩
      · show rs.length = _
        omega
      · unfold tldD tolD; rw [if_neg (by simp), if_neg hq, if_pos h0]
      · unfold tldG tolG; rw [if_neg (by simp), if_neg hq, if_pos h0]
theorem dst_ok {wd hg s : Int} {cs : List Ct} (h0 : (cs.getD 0 default).al = true) : ∀ k, dstE wd hg s cs k = 0 → (∀ i, i < k → CdOk (wd * hg).toNat (cs.getD i default)) ∧ (1 ≤ k → (dst wd hg s cs k).2.d = wd ∧ (dst wd hg s cs k).2.g = hg)
  | 0, _ => ⟨fun i hi => by omega, fun h => by omega⟩
  | k + 1, h => by
    have hk : dstE wd hg s cs k = 0 := by
      by_cases q : dstE wd hg s cs k = 0
      · exact q
      · rw [dstE, if_pos q] at h; exact h
    rw [dstE, if_neg (by omega)] at h
    obtain ⟨i1, i2⟩ := dst_ok h0 k hk
    have ht := tl_zero (fun hal => i2 (by
      by_cases e : k = 0
      · subst e; rw [h0] at hal; cases hal
      · omega)) h
    refine ⟨fun i hi => ?_, fun _ => ?_⟩
    · by_cases e : i = k
      · subst e; exact ht.1
      · exact i1 i (by omega)
    · rw [dst_succ]; exact ht.2
theorem fd_ok {wd hg s : Int} {cs : List Ct} (h : fdE wd hg s cs = 0) : FdOk wd hg s cs := by
  unfold fdE at h
  split at h
  · omega
  rename_i h1
  split at h
  · omega
  rename_i h2
  split at h
  · omega
  rename_i h3
  have hn : 1 ≤ cs.length ∧ cs.length ≤ 6 := by
    have hz : fchkE cs.length = 0 := by omega
    unfold fchkE at hz
    split at hz
    · omega
    split at hz
    · omega
    omega
  have a1 : sideB wd = true := by cases hq : sideB wd <;> simp_all
  have a2 : sideB hg = true := by cases hq : sideB hg <;> simp_all
  have a3 : stepB s = true := by cases hq : stepB s <;> simp_all
  have a4 : (cs.getD 0 default).al = true := by cases hq : (cs.getD 0 default).al <;> simp_all
  simp only [sideB, stepB, decide_eq_true_eq] at a1 a2 a3
  exact ⟨hn.1, hn.2, a1.1, a1.2, a2.1, a2.2, a3.1, a3.2, (dst_ok a4 _ h).1⟩
theorem FdOk.all {wd hg s : Int} {cs : List Ct} (h : FdOk wd hg s cs) : ∀ c ∈ cs, CdOk (wd * hg).toNat c := fun c hc => by
  obtain ⟨i, hi, e⟩ := List.getElem_of_mem hc
  have := h.cd i hi
  rw [List.getD_eq_getElem?_getD, List.getElem?_eq_getElem hi] at this
  simpa [e] using this
theorem FdOk.many {wd hg s : Int} {cs : List Ct} (h : FdOk wd hg s cs) : (wd * hg).toNat ≤ 36 := by
  have : wd * hg ≤ 6 * 6 := Int.mul_le_mul h.w6 h.h6 (by have := h.h1; omega) (by omega)
  omega
/-- a film as bytes -/
def pkB (wd hg s : Int) (cs : List Ct) : List UInt8 := [UInt8.ofNat wd.toNat, UInt8.ofNat hg.toNat, UInt8.ofNat s.toNat, UInt8.ofNat cs.length] ++ octs (pad8 (bcods cs)) ((pad8 (bcods cs)).length / 8)
def pkE (wd hg s : Int) (cs : List Ct) : Nat := if fdE wd hg s cs ≠ 0 then fdE wd hg s cs else if 120 < (pkB wd hg s cs).length then 4 else 0
def pkS (wd hg s : Int) (cs : List Ct) : ByteArray := if pkE wd hg s cs = 0 then S (pkB wd hg s cs) else .empty
theorem ric1_le {n : Int} (h1 : -255 ≤ n) (h2 : n ≤ 255) : (ric1 (fld n).toNat 2).length ≤ 130 := by
  have := fld_le n h1 h2
  have h0 := fld_nonneg n
  rw [ric1_length]
  have : (fld n).toNat / 2 ^ 2 ≤ 127 := by omega
  omega
theorem ricL_le : ∀ {l : List Int}, (∀ z ∈ l, -255 ≤ z ∧ z ≤ 255) → (ricL 2 l).length ≤ 130 * l.length
  | [], _ => by simp [ricL]
  | n :: l, h => by
    have h1 := h n (List.mem_cons_self ..)
    have := ric1_le h1.1 h1.2
    have ih := ricL_le (l := l) fun z hz => h z (List.mem_cons_of_mem _ hz)
    rw [ricL, List.length_append, List.length_cons]; omega
theorem bcod_le {many : Nat} {c : Ct} (h : CdOk many c) : (bcod c).length ≤ 5 + 130 * many := by
  have := ricL_le h.bd
  have hl := h.len
  unfold bcod
  rw [List.length_append]
  split
  · rw [List.length_singleton]; rw [← hl]; omega
  · rw [List.length_cons, List.length_append, lowb_length, lowb_length]; rw [← hl]; omega
theorem bcods_le {many : Nat} : ∀ {cs : List Ct}, (∀ c ∈ cs, CdOk many c) → (bcods cs).length ≤ (5 + 130 * many) * cs.length
  | [], _ => by simp [bcods]
  | c :: cs, h => by
    have h1 := bcod_le (h c (List.mem_cons_self ..))
    have ih := bcods_le (cs := cs) fun d hd => h d (List.mem_cons_of_mem _ hd)
    rw [bcods, List.length_append, List.length_cons, Nat.mul_succ]; omega
/-- the first k coded pictures' bits -/
theorem bcods_take {cs : List Ct} {k : Nat} (h : k < cs.length) : bcods (cs.take (k + 1)) = bcods (cs.take k) ++ bcod (cs.getD k default) := by
  rw [List.take_add_one, List.getElem?_eq_getElem h, bcods_append, List.getD_eq_getElem?_getD, List.getElem?_eq_getElem h]
  show _ ++ (bcod _ ++ []) = _
  rw [List.append_nil]; rfl
end Go.Proofs.YtnnjijdpenifjaaDoor
