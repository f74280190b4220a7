/- Plain laws on the document's two ways to clear lines: each leaves a table that has taken the rows. No program in sight. -/
import Derived.Test.YtcpookgbneoilaaDoorNeedPl
namespace Go.Proofs.YtcpookgbneoilaaDoor

def vzero : Vec := (0, [])
def rowG (A : List Vec) (i : Nat) : Vec := A.getD i vzero
theorem rowG_mem {A : List Vec} {i : Nat} (h : i < A.length) : rowG A i ∈ A := by
  unfold rowG; rw [List.getD_eq_getElem?_getD, List.getElem?_eq_getElem h]; exact List.getElem_mem _
theorem mem_rowG {A : List Vec} {u : Vec} (h : u ∈ A) : ∃ i, i < A.length ∧ rowG A i = u := by
  obtain ⟨i, hi, rfl⟩ := List.getElem_of_mem h
  exact ⟨i, hi, by unfold rowG; rw [List.getD_eq_getElem?_getD, List.getElem?_eq_getElem hi]; rfl⟩
/-- lines are rows of k bits that make m bytes -/
def Ln (m k : Nat) (A : List Vec) : Prop := ∀ u ∈ A, u.2.length = m ∧ u.1 < 2 ^ k
theorem Ln.wf {m k : Nat} {A : List Vec} (h : Ln m k A) : Wf m A := fun u hu => (h u hu).1
theorem Ln.row {m k : Nat} {A : List Vec} (h : Ln m k A) {i : Nat} (hi : i < A.length) : (rowG A i).2.length = m ∧ (rowG A i).1 < 2 ^ k := h _ (rowG_mem hi)

/-- the lines from s on, up to j, without line p where they have block b -/
def clrTo (A : List Vec) (p b s j : Nat) : List Vec := A.mapIdx fun i u => if (s ≤ i ∧ i < j ∧ i ≠ p) ∧ u.1.testBit b = true then vx u (rowG A p) else u
theorem clrTo_len (A : List Vec) (p b s j : Nat) : (clrTo A p b s j).length = A.length := List.length_mapIdx
theorem clrTo_row {A : List Vec} {i : Nat} (p b s j : Nat) (hi : i < A.length) : rowG (clrTo A p b s j) i = if (s ≤ i ∧ i < j ∧ i ≠ p) ∧ (rowG A i).1.testBit b = true then vx (rowG A i) (rowG A p) else rowG A i := by
  have e : rowG A i = A[i] := by unfold rowG; rw [List.getD_eq_getElem?_getD, List.getElem?_eq_getElem hi]; rfl
  have e2 : rowG (clrTo A p b s j) i = (clrTo A p b s j)[i]'(by rw [clrTo_len]; exact hi) := by unfold rowG; rw [List.getD_eq_getElem?_getD, List.getElem?_eq_getElem (by rw [clrTo_len]; exact hi)]; rfl
  rw [e2, e]
  unfold clrTo
  rw [List.getElem_mapIdx]
theorem ext_rowG {A B : List Vec} (h : A.length = B.length) (h2 : ∀ i, i < A.length → rowG A i = rowG B i) : A = B := by
  refine List.ext_getElem h fun i h1 h3 => ?_
  have := h2 i h1
  unfold rowG at this
  rw [List.getD_eq_getElem?_getD, List.getElem?_eq_getElem h1, List.getD_eq_getElem?_getD, List.getElem?_eq_getElem h3] at this
  exact this
theorem clrTo_zero {A : List Vec} {s j : Nat} (p b : Nat) (h : j ≤ s) : clrTo A p b s j = A := by
  refine ext_rowG (clrTo_len ..) fun i hi => ?_
  rw [clrTo_len] at hi
  rw [clrTo_row _ _ _ _ hi, if_neg (by omega)]
theorem rowG_set {A : List Vec} {i j : Nat} (x : Vec) (hj : j < A.length) : rowG (A.set j x) i = if i = j then x else rowG A i := by
  unfold rowG
  split
  · rename_i e
    rw [List.getD_eq_getElem?_getD, e, List.getElem?_set_self hj]; rfl
  · rename_i e
    rw [List.getD_eq_getElem?_getD, List.getElem?_set_ne (fun h => e h.symm), List.getD_eq_getElem?_getD]
theorem clrTo_succ {A : List Vec} {p b s j : Nat} (hs : s ≤ j) (hj : j < A.length) : clrTo A p b s (j + 1) = if j ≠ p ∧ (rowG A j).1.testBit b = true then (clrTo A p b s j).set j (vx (rowG A j) (rowG A p)) else clrTo A p b s j := by
  have hg : ∀ i, i ≠ j → ((s ≤ i ∧ i < j + 1 ∧ i ≠ p) ∧ (rowG A i).1.testBit b = true) = ((s ≤ i ∧ i < j ∧ i ≠ p) ∧ (rowG A i).1.testBit b = true) := fun i e => by
    rw [show (i < j + 1) = (i < j) from propext ⟨fun h => by omega, fun h => by omega⟩]
  split
  · rename_i h
    refine ext_rowG (by rw [List.length_set, clrTo_len, clrTo_len]) fun i hi => ?_
    rw [clrTo_len] at hi
    rw [rowG_set _ (by rw [clrTo_len]; exact hj), clrTo_row _ _ _ _ hi, clrTo_row _ _ _ _ hi]
    by_cases e : i = j
    · subst e
      rw [if_pos ⟨⟨hs, by omega, h.1⟩, h.2⟩, if_pos rfl]
    · rw [if_neg e]; exact ite_congr (hg i e) (fun _ => rfl) (fun _ => rfl)
  · rename_i h
    refine ext_rowG (by rw [clrTo_len, clrTo_len]) fun i hi => ?_
    rw [clrTo_len] at hi
    rw [clrTo_row _ _ _ _ hi, clrTo_row _ _ _ _ hi]
    by_cases e : i = j
    · subst e
      rw [if_neg (fun hh => h ⟨hh.1.2.2, hh.2⟩), if_neg (fun hh => h ⟨hh.1.2.2, hh.2⟩)]
    · exact ite_congr (hg i e) (fun _ => rfl) (fun _ => rfl)
theorem clr_ln {m k : Nat} {A : List Vec} (h : Ln m k A) {p : Nat} (hp : p < A.length) (b s j : Nat) : Ln m k (clrTo A p b s j) := fun u hu => by
  obtain ⟨i, hi, rfl⟩ := mem_rowG hu
  rw [clrTo_len] at hi
  rw [clrTo_row _ _ _ _ hi]
  have h1 := h.row hi
  have h2 := h.row hp
  split
  · exact ⟨vx_len h1.1 h2.1, Nat.xor_lt_two_pow h1.2 h2.2⟩
  · exact h1
/-- what is made stays the same -/
theorem clr_sp {m k : Nat} {A : List Vec} (h : Ln m k A) {p : Nat} (hp : p < A.length) (b s j : Nat) (u : Vec) : Sp m (clrTo A p b s j) u ↔ Sp m A u := by
  have h2 := clr_ln h hp b s j
  have hpp : rowG (clrTo A p b s j) p = rowG A p := by rw [clrTo_row _ _ _ _ hp, if_neg (fun e => e.1.2.2 rfl)]
  constructor
  · refine Sp.sub h.wf fun x hx => ?_
    obtain ⟨i, hi, rfl⟩ := mem_rowG hx
    rw [clrTo_len] at hi
    rw [clrTo_row _ _ _ _ hi]
    split
    · exact Sp.over h.wf (Sp.mem h.wf (rowG_mem hi)) (Sp.mem h.wf (rowG_mem hp))
    · exact Sp.mem h.wf (rowG_mem hi)
  · refine Sp.sub h2.wf fun x hx => ?_
    obtain ⟨i, hi, rfl⟩ := mem_rowG hx
    have hmi : Sp m (clrTo A p b s j) (rowG (clrTo A p b s j) i) := Sp.mem h2.wf (rowG_mem (by rw [clrTo_len]; exact hi))
    have hmp : Sp m (clrTo A p b s j) (rowG A p) := by
      have := Sp.mem h2.wf (rowG_mem (A := clrTo A p b s j) (i := p) (by rw [clrTo_len]; exact hp))
      rwa [hpp] at this
    rw [clrTo_row _ _ _ _ hi] at hmi
    split at hmi
    · have := Sp.over h2.wf hmi hmp
      rwa [vx_cancel (h.row hi).1 (h.row hp).1] at this
    · exact hmi

/-- the first of some lines, from i on, that have block b and are free -/
def pick (A : List Vec) (us : Nat → Bool) (b : Nat) : Nat → Nat → Option Nat
  | 0, _ => none
  | f + 1, i => if (rowG A i).1.testBit b = true ∧ us i = false then some i else pick A us b f (i + 1)
theorem pick_some {A : List Vec} {us : Nat → Bool} {b p : Nat} : ∀ {f i}, pick A us b f i = some p → i ≤ p ∧ p < i + f ∧ (rowG A p).1.testBit b = true ∧ us p = false
  | 0, i, h => by cases h
  | f + 1, i, h => by
    unfold pick at h
    split at h
    · rename_i hh
      cases h
      exact ⟨Nat.le_refl _, by omega, hh⟩
    · have := pick_some h
      exact ⟨by omega, by omega, this.2.2⟩
theorem pick_none {A : List Vec} {us : Nat → Bool} {b : Nat} : ∀ {f i}, pick A us b f i = none → ∀ p, i ≤ p → p < i + f → us p = false → (rowG A p).1.testBit b = false
  | 0, i, _, p, h1, h2, _ => by omega
  | f + 1, i, h, p, h1, h2, h3 => by
    unfold pick at h
    split at h
    · cases h
    · rename_i hh
      by_cases e : p = i
      · subst e
        cases hc : (rowG A p).1.testBit b with
        | false => rfl
        | true => exact absurd ⟨hc, h3⟩ hh
      · exact pick_none h p (by omega) (by omega) h3

/-- A place for some blocks below b: each line of these is led by its block alone; the free ones have none. -/
structure Cl (m k : Nat) (L A : List Vec) (at_ : Nat → Option Nat) (b : Nat) : Prop where
  len : A.length = L.length
  ln : Ln m k A
  sp : ∀ u, Sp m A u ↔ Sp m L u
  lt : ∀ c i, at_ c = some i → c < b ∧ i < A.length
  inj : ∀ c d i, at_ c = some i → at_ d = some i → c = d
  low : ∀ c i, at_ c = some i → Low (rowG A i).1 c
  one : ∀ c i j, at_ c = some i → j < A.length → j ≠ i → (rowG A j).1.testBit c = false
  free : ∀ i, i < A.length → (∀ c, at_ c ≠ some i) → ∀ j, j < b → (rowG A i).1.testBit j = false
theorem Cl.nil {m k : Nat} {L : List Vec} (h : Ln m k L) : Cl m k L L (fun _ => none) 0 :=
  ⟨rfl, h, fun _ => Iff.rfl, fun _ _ e => (by cases e), fun _ _ _ e => (by cases e), fun _ _ e => (by cases e), fun _ _ _ e => (by cases e), fun _ _ _ j hj => (by omega)⟩
/-- which lines are taken -/
def usedB (at_ : Nat → Option Nat) (b : Nat) (i : Nat) : Bool := (List.range b).any fun c => at_ c == some i
theorem usedB_false {at_ : Nat → Option Nat} {b i : Nat} (h : usedB at_ b i = false) (hlt : ∀ c i, at_ c = some i → c < b) : ∀ c, at_ c ≠ some i := fun c hc => by
  unfold usedB at h
  rw [List.any_eq_false] at h
  exact h c (List.mem_range.2 (hlt c i hc)) (by rw [hc]; simp)
theorem usedB_of {at_ : Nat → Option Nat} {b i : Nat} (h : ∀ c, at_ c ≠ some i) : usedB at_ b i = false := by
  unfold usedB
  rw [List.any_eq_false]
  intro c _ hc
  exact h c (by simpa using hc)
def updA (at_ : Nat → Option Nat) (b p : Nat) : Nat → Option Nat := fun c => if c = b then some p else at_ c
theorem Cl.skip {m k : Nat} {L A : List Vec} {at_ : Nat → Option Nat} {b : Nat} (h : Cl m k L A at_ b) (hn : pick A (usedB at_ b) b A.length 0 = none) : Cl m k L A at_ (b + 1) := by
  refine ⟨h.len, h.ln, h.sp, fun c i e => ⟨by have := (h.lt c i e).1; omega, (h.lt c i e).2⟩, h.inj, h.low, h.one, fun i hi hf j hj => ?_⟩
  by_cases e : j = b
  · subst e; exact pick_none hn i (by omega) (by omega) (usedB_of hf)
  · exact h.free i hi hf j (by omega)
theorem Cl.take {m k : Nat} {L A : List Vec} {at_ : Nat → Option Nat} {b p : Nat} (h : Cl m k L A at_ b) (hp : pick A (usedB at_ b) b A.length 0 = some p) : Cl m k L (clrTo A p b 0 A.length) (updA at_ b p) (b + 1) := by
  obtain ⟨_, hpl, hbit, hus⟩ := pick_some hp
  rw [Nat.zero_add] at hpl
  have hfree := usedB_false hus fun c i e => (h.lt c i e).1
  have hpf := h.free p hpl hfree
  have hlen := clrTo_len A p b 0 A.length
  have hr : ∀ i, i < A.length → rowG (clrTo A p b 0 A.length) i = if i ≠ p ∧ (rowG A i).1.testBit b = true then vx (rowG A i) (rowG A p) else rowG A i := fun i hi => by
    rw [clrTo_row _ _ _ _ hi]
    exact ite_congr (propext ⟨fun h => ⟨h.1.2.2, h.2⟩, fun h => ⟨⟨Nat.zero_le _, hi, h.1⟩, h.2⟩⟩) (fun _ => rfl) (fun _ => rfl)
  have hb : ∀ i j, i < A.length → j < b → (rowG (clrTo A p b 0 A.length) i).1.testBit j = (rowG A i).1.testBit j := fun i j hi hj => by
    rw [hr i hi]
    split
    · rw [vx_bit, hpf j hj, Bool.xor_false]
    · rfl
  have hbb : ∀ i, i < A.length → i ≠ p → (rowG (clrTo A p b 0 A.length) i).1.testBit b = false := fun i hi hne => by
    rw [hr i hi]
    cases hc : (rowG A i).1.testBit b with
    | false => rw [if_neg (by simp)]; exact hc
    | true => rw [if_pos ⟨hne, rfl⟩, vx_bit, hc, hbit]; rfl
  have hpp : rowG (clrTo A p b 0 A.length) p = rowG A p := by rw [hr p hpl, if_neg (fun e => e.1 rfl)]
  have hold : ∀ c i, updA at_ b p c = some i → (c = b ∧ i = p) ∨ (c ≠ b ∧ at_ c = some i ∧ i ≠ p) := fun c i e => by
    unfold updA at e
    split at e
    · rename_i ec; cases e; exact .inl ⟨ec, rfl⟩
    · rename_i ec; exact .inr ⟨ec, e, fun ei => hfree c (by rw [e, ei])⟩
  refine ⟨by rw [hlen, h.len], clr_ln h.ln hpl b _ _, fun u => (clr_sp h.ln hpl b _ _ u).trans (h.sp u), fun c i e => ?_, fun c d i e1 e2 => ?_, fun c i e => ?_, fun c i j e hj hne => ?_, fun i hi hf j hj => ?_⟩
  · rw [hlen]
    rcases hold c i e with ⟨rfl, rfl⟩ | ⟨_, e, _⟩
    · exact ⟨by omega, hpl⟩
    · exact ⟨by have := (h.lt c i e).1; omega, (h.lt c i e).2⟩
  · rcases hold c i e1 with ⟨rfl, rfl⟩ | ⟨_, f1, g1⟩
    · rcases hold d i e2 with ⟨rfl, _⟩ | ⟨_, _, g2⟩
      · rfl
      · exact absurd rfl g2
    · rcases hold d i e2 with ⟨_, rfl⟩ | ⟨_, f2, _⟩
      · exact absurd rfl g1
      · exact h.inj c d i f1 f2
  · rcases hold c i e with ⟨rfl, rfl⟩ | ⟨_, e, _⟩
    · rw [hpp]; exact ⟨hbit, hpf⟩
    · have hcl := h.lt c i e
      have hl := h.low c i e
      exact ⟨by rw [hb i c hcl.2 hcl.1]; exact hl.1, fun j hj => by rw [hb i j hcl.2 (by omega)]; exact hl.2 j hj⟩
  · rw [hlen] at hj
    rcases hold c i e with ⟨rfl, rfl⟩ | ⟨_, e, _⟩
    · exact hbb j hj hne
    · rw [hb j c hj (h.lt c i e).1]; exact h.one c i j e hj hne
  · rw [hlen] at hi
    have hip : i ≠ p := fun e => hf b (by unfold updA; rw [if_pos rfl, e])
    by_cases ej : j = b
    · subst ej; exact hbb i hi hip
    · rw [hb i j hi (by omega)]
      refine h.free i hi (fun c hc => ?_) j (by omega)
      refine hf c ?_
      unfold updA
      rw [if_neg (fun e => by have := (h.lt c i hc).1; omega)]; exact hc

/-- the lines when the first b blocks are done, and which are chosen -/
def clrF (L : List Vec) : Nat → List Vec × (Nat → Option Nat)
  | 0 => (L, fun _ => none)
  | b + 1 => match pick (clrF L b).1 (usedB (clrF L b).2 b) b (clrF L b).1.length 0 with
    | none => clrF L b
    | some p => (clrTo (clrF L b).1 p b 0 (clrF L b).1.length, updA (clrF L b).2 b p)
theorem clrF_none {L : List Vec} {b : Nat} (h : pick (clrF L b).1 (usedB (clrF L b).2 b) b (clrF L b).1.length 0 = none) : clrF L (b + 1) = clrF L b := by rw [clrF, h]
theorem clrF_some {L : List Vec} {b p : Nat} (h : pick (clrF L b).1 (usedB (clrF L b).2 b) b (clrF L b).1.length 0 = some p) : clrF L (b + 1) = (clrTo (clrF L b).1 p b 0 (clrF L b).1.length, updA (clrF L b).2 b p) := by rw [clrF, h]
theorem clrF_cl {m k : Nat} {L : List Vec} (h : Ln m k L) : ∀ b, Cl m k L (clrF L b).1 (clrF L b).2 b
  | 0 => Cl.nil h
  | b + 1 => by
    have ih := clrF_cl h b
    cases hp : pick (clrF L b).1 (usedB (clrF L b).2 b) b (clrF L b).1.length 0 with
    | none => rw [clrF_none hp]; exact ih.skip hp
    | some p => rw [clrF_some hp]; exact ih.take hp
/-- the table of the lines that are chosen -/
def clT (A : List Vec) (at_ : Nat → Option Nat) : Nat → Option Vec := fun b => (at_ b).map (rowG A)
theorem bits_zero {n k : Nat} (h : n < 2 ^ k) (h2 : ∀ j, j < k → n.testBit j = false) : n = 0 := by
  apply Nat.eq_of_testBit_eq
  intro i
  rw [Nat.zero_testBit]
  by_cases hi : i < k
  · exact h2 i hi
  · exact Nat.testBit_lt_two_pow (Nat.lt_of_lt_of_le h (Nat.pow_le_pow_right (by omega) (by omega)))
theorem Cl.ti {m k : Nat} {L A : List Vec} {at_ : Nat → Option Nat} (h : Cl m k L A at_ k) : TI m k (clT A at_) := by
  have hx : ∀ b x, clT A at_ b = some x → ∃ i, at_ b = some i ∧ x = rowG A i := fun b x e => by
    unfold clT at e
    cases ha : at_ b with
    | none => rw [ha] at e; cases e
    | some i => rw [ha] at e; cases e; exact ⟨i, rfl, rfl⟩
  refine ⟨fun b x e => ?_, fun b x e => ?_, fun b x e => ?_, fun b x e => ?_⟩ <;>
  · obtain ⟨i, hi, rfl⟩ := hx b x e
    first | exact (h.lt b i hi).1 | exact h.low b i hi | exact (h.ln.row (h.lt b i hi).2).2 | exact (h.ln.row (h.lt b i hi).2).1
/-- does a line that has no block make something? -/
def clashB (m : Nat) (A : List Vec) : Bool := A.any fun u => decide (u.1 = 0 ∧ u.2 ≠ noughts m)
theorem Cl.st {m k : Nat} {L A : List Vec} {at_ : Nat → Option Nat} (h : Cl m k L A at_ k) (hL : Wf m L) (hc : clashB m A = false) : St m k (clT A at_) L := by
  have hti := h.ti
  refine ⟨hti, hL, fun u => ?_⟩
  rw [← h.sp]
  constructor
  · refine Sp.mono fun x hx => ?_
    obtain ⟨b, hb, e⟩ := mem_rowsT.1 hx
    unfold clT at e
    cases ha : at_ b with
    | none => rw [ha] at e; cases e
    | some i => rw [ha] at e; cases e; exact rowG_mem (h.lt b i ha).2
  · refine Sp.sub hti.wf fun x hx => ?_
    obtain ⟨i, hi, rfl⟩ := mem_rowG hx
    by_cases hu : ∃ c, at_ c = some i
    · obtain ⟨c, hc⟩ := hu
      refine Sp.mem hti.wf (mem_rowsT.2 ⟨c, (h.lt c i hc).1, ?_⟩)
      unfold clT; rw [hc]; rfl
    · have h0 := bits_zero (h.ln.row hi).2 (h.free i hi fun c hc => hu ⟨c, hc⟩)
      have h1 : (rowG A i).2 = noughts m := by
        unfold clashB at hc
        rw [List.any_eq_false] at hc
        have := hc _ (rowG_mem hi)
        simp only [decide_eq_true_eq, not_and, Decidable.not_not] at this
        exact this h0
      have : rowG A i = vz m := Prod.ext h0 h1
      rw [this]; exact Sp.zero _ _
theorem Cl.clash {m k : Nat} {L A : List Vec} {at_ : Nat → Option Nat} (h : Cl m k L A at_ k) (hc : clashB m A = true) : ¬ NoClash m L := fun hn => by
  unfold clashB at hc
  rw [List.any_eq_true] at hc
  obtain ⟨u, hu, hd⟩ := hc
  simp only [decide_eq_true_eq] at hd
  exact hd.2 (hn u ((h.sp u).1 (Sp.mem h.ln.wf hu)) hd.1)

/-- Rows below n are led, each by its own block below b; the others have none of these. -/
structure Rk (m k : Nat) (L A : List Vec) (T : Nat → Option Vec) (n b : Nat) : Prop where
  len : A.length = L.length
  ln : Ln m k A
  le : n ≤ A.length
  sp : ∀ u, Sp m A u ↔ Sp m L u
  ti : TI m k T
  lt : ∀ c x, T c = some x → c < b
  of : ∀ c x, T c = some x → ∃ i, i < n ∧ rowG A i = x
  has : ∀ i, i < n → ∃ c, T c = some (rowG A i)
  cnt : rnkT T k = n
  free : ∀ i, n ≤ i → i < A.length → ∀ j, j < b → (rowG A i).1.testBit j = false
theorem Rk.nil {m k : Nat} {L : List Vec} (h : Ln m k L) : Rk m k L L (fun _ => none) 0 0 :=
  ⟨rfl, h, Nat.zero_le _, fun _ => Iff.rfl, ⟨fun _ _ e => (by cases e), fun _ _ e => (by cases e), fun _ _ e => (by cases e), fun _ _ e => (by cases e)⟩, fun _ _ e => (by cases e), fun _ _ e => (by cases e), fun _ hi => (by omega), rnkT_none k, fun _ _ _ j hj => (by omega)⟩
def noUse : Nat → Bool := fun _ => false
theorem Rk.skip {m k : Nat} {L A : List Vec} {T : Nat → Option Vec} {n b : Nat} (h : Rk m k L A T n b) (hn : pick A noUse b (A.length - n) n = none) : Rk m k L A T n (b + 1) := by
  refine ⟨h.len, h.ln, h.le, h.sp, h.ti, fun c x e => by have := h.lt c x e; omega, h.of, h.has, h.cnt, fun i h1 h2 j hj => ?_⟩
  by_cases e : j = b
  · subst e; exact pick_none hn i h1 (by omega) rfl
  · exact h.free i h1 h2 j (by omega)
/-- two lines in each other's place -/
def swp (A : List Vec) (n p : Nat) : List Vec := (A.set p (rowG A n)).set n (rowG A p)
theorem swp_len (A : List Vec) (n p : Nat) : (swp A n p).length = A.length := by unfold swp; rw [List.length_set, List.length_set]
theorem swp_row {A : List Vec} {n p : Nat} (hn : n < A.length) (hp : p < A.length) (i : Nat) : rowG (swp A n p) i = if i = n then rowG A p else if i = p then rowG A n else rowG A i := by
  unfold swp
  rw [rowG_set _ (by rw [List.length_set]; exact hn), rowG_set _ hp]
theorem swp_mem {A : List Vec} {n p : Nat} (hn : n < A.length) (hp : p < A.length) (u : Vec) : u ∈ swp A n p ↔ u ∈ A := by
  constructor
  · intro h
    obtain ⟨i, hi, rfl⟩ := mem_rowG h
    rw [swp_len] at hi
    rw [swp_row hn hp]
    split
    · exact rowG_mem hp
    · split
      · exact rowG_mem hn
      · exact rowG_mem hi
  · intro h
    obtain ⟨i, hi, rfl⟩ := mem_rowG h
    have hs : ∀ j, j < A.length → rowG (swp A n p) j ∈ swp A n p := fun j hj => rowG_mem (by rw [swp_len]; exact hj)
    by_cases e : i = n
    · have := hs p hp
      rw [swp_row hn hp] at this
      by_cases g : p = n
      · rw [if_pos g] at this
        have e2 : rowG A n = rowG A p := by rw [g]
        rw [e, e2]; exact this
      · rw [if_neg g, if_pos rfl] at this; rw [e]; exact this
    · by_cases g : i = p
      · have := hs n hn
        rw [swp_row hn hp, if_pos rfl] at this
        rw [g]; exact this
      · have := hs i hi
        rw [swp_row hn hp, if_neg e, if_neg g] at this
        exact this
theorem Rk.take {m k : Nat} {L A : List Vec} {T : Nat → Option Vec} {n b p : Nat} (h : Rk m k L A T n b) (hb : b < k) (hp : pick A noUse b (A.length - n) n = some p) :
    Rk m k L (clrTo (swp A n p) n b (n + 1) A.length) (insT T b (rowG A p)) (n + 1) (b + 1) := by
  obtain ⟨hnp, hpl, hbit, _⟩ := pick_some hp
  have hle := h.le
  have hpA : p < A.length := by omega
  have hnA : n < A.length := by omega
  have hpf := h.free p hnp hpA
  have hsw := swp_row (A := A) (n := n) (p := p) hnA hpA
  have hswl := swp_len A n p
  have hnone : T b = none := by
    cases e : T b with
    | none => rfl
    | some x => exact absurd (h.lt b x e) (by omega)
  have hlow : Low (rowG A p).1 b := ⟨hbit, hpf⟩
  have hr : ∀ i, i < A.length → rowG (clrTo (swp A n p) n b (n + 1) A.length) i = if (n + 1 ≤ i ∧ i < A.length ∧ i ≠ n) ∧ (rowG (swp A n p) i).1.testBit b = true then vx (rowG (swp A n p) i) (rowG A p) else rowG (swp A n p) i := fun i hi => by
    rw [clrTo_row _ _ _ _ (by rw [hswl]; exact hi), hsw n, if_pos rfl]
  have hlo : ∀ i, i < n → rowG (clrTo (swp A n p) n b (n + 1) A.length) i = rowG A i := fun i hi => by
    rw [hr i (by omega), if_neg (by omega), hsw i, if_neg (by omega), if_neg (by omega)]
  have hat : rowG (clrTo (swp A n p) n b (n + 1) A.length) n = rowG A p := by
    rw [hr n hnA, if_neg (by omega), hsw n, if_pos rfl]
  have hsl : Ln m k (swp A n p) := fun u hu => h.ln u ((swp_mem hnA hpA u).1 hu)
  refine ⟨by rw [clrTo_len, hswl]; exact h.len, clr_ln hsl (by rw [hswl]; exact hnA) _ _ _, by rw [clrTo_len, hswl]; omega, fun u => ?_, ?_, fun c x e => ?_, fun c x e => ?_, fun i hi => ?_, ?_, fun i h1 h2 j hj => ?_⟩
  · rw [clr_sp hsl (by rw [hswl]; exact hnA), ← h.sp]
    exact ⟨Sp.mono fun x hx => (swp_mem hnA hpA x).1 hx, Sp.mono fun x hx => (swp_mem hnA hpA x).2 hx⟩
  · have hrow := h.ln.row hpA
    refine ⟨fun c x e => ?_, fun c x e => ?_, fun c x e => ?_, fun c x e => ?_⟩ <;>
    · unfold insT at e
      by_cases ec : c = b
      · rw [if_pos ec] at e; cases e; subst ec
        first | exact hb | exact hlow | exact hrow.2 | exact hrow.1
      · rw [if_neg ec] at e
        first | exact h.ti.lt c x e | exact h.ti.low c x e | exact h.ti.bits c x e | exact h.ti.len c x e
  · unfold insT at e
    split at e
    · omega
    · have := h.lt c x e; omega
  · unfold insT at e
    split at e
    · cases e; exact ⟨n, by omega, hat⟩
    · obtain ⟨i, hi, ex⟩ := h.of c x e
      exact ⟨i, by omega, by rw [hlo i hi]; exact ex⟩
  · by_cases e : i = n
    · subst e; exact ⟨b, by unfold insT; rw [if_pos rfl, hat]⟩
    · obtain ⟨c, hc⟩ := h.has i (by omega)
      refine ⟨c, ?_⟩
      unfold insT
      rw [if_neg (fun e => by rw [e, hnone] at hc; cases hc), hlo i (by omega)]; exact hc
  · rw [rnkT_ins hnone, h.cnt, if_pos hb]
  · rw [clrTo_len, hswl] at h2
    have hfi : ∀ j, j < b → (rowG (swp A n p) i).1.testBit j = false := fun j hj => by
      rw [hsw i, if_neg (by omega)]
      split
      · exact h.free n (Nat.le_refl _) hnA j hj
      · exact h.free i (by omega) h2 j hj
    rw [hr i h2]
    cases hc : (rowG (swp A n p) i).1.testBit b with
    | false =>
      rw [if_neg (by simp)]
      by_cases ej : j = b
      · subst ej; exact hc
      · exact hfi j (by omega)
    | true =>
      rw [if_pos ⟨⟨h1, h2, by omega⟩, rfl⟩, vx_bit]
      by_cases ej : j = b
      · subst ej; rw [hc, hbit]; rfl
      · rw [hfi j (by omega), hpf j (by omega)]; rfl
/-- the lines when the first b blocks are done, and how many are led -/
def rkF (L : List Vec) : Nat → List Vec × Nat
  | 0 => (L, 0)
  | b + 1 => match pick (rkF L b).1 noUse b ((rkF L b).1.length - (rkF L b).2) (rkF L b).2 with
    | none => rkF L b
    | some p => (clrTo (swp (rkF L b).1 (rkF L b).2 p) (rkF L b).2 b ((rkF L b).2 + 1) (rkF L b).1.length, (rkF L b).2 + 1)
theorem rkF_none {L : List Vec} {b : Nat} (h : pick (rkF L b).1 noUse b ((rkF L b).1.length - (rkF L b).2) (rkF L b).2 = none) : rkF L (b + 1) = rkF L b := by rw [rkF, h]
theorem rkF_some {L : List Vec} {b p : Nat} (h : pick (rkF L b).1 noUse b ((rkF L b).1.length - (rkF L b).2) (rkF L b).2 = some p) : rkF L (b + 1) = (clrTo (swp (rkF L b).1 (rkF L b).2 p) (rkF L b).2 b ((rkF L b).2 + 1) (rkF L b).1.length, (rkF L b).2 + 1) := by rw [rkF, h]
theorem rkF_rk {m k : Nat} {L : List Vec} (h : Ln m k L) : ∀ b, b ≤ k → ∃ T, Rk m k L (rkF L b).1 T (rkF L b).2 b
  | 0, _ => ⟨_, Rk.nil h⟩
  | b + 1, hb => by
    obtain ⟨T, ih⟩ := rkF_rk h b (by omega)
    cases hp : pick (rkF L b).1 noUse b ((rkF L b).1.length - (rkF L b).2) (rkF L b).2 with
    | none => rw [rkF_none hp]; exact ⟨T, ih.skip hp⟩
    | some p => rw [rkF_some hp]; exact ⟨_, ih.take (by omega) hp⟩
theorem Rk.st {k : Nat} {L A : List Vec} {T : Nat → Option Vec} {n : Nat} (h : Rk 0 k L A T n k) (hL : Wf 0 L) : St 0 k T L := by
  refine ⟨h.ti, hL, fun u => ?_⟩
  rw [← h.sp]
  constructor
  · refine Sp.mono fun x hx => ?_
    obtain ⟨b, hb, e⟩ := mem_rowsT.1 hx
    obtain ⟨i, hi, rfl⟩ := h.of b x e
    exact rowG_mem (Nat.lt_of_lt_of_le hi h.le)
  · refine Sp.sub h.ti.wf fun x hx => ?_
    obtain ⟨i, hi, rfl⟩ := mem_rowG hx
    by_cases hu : i < n
    · obtain ⟨c, hc⟩ := h.has i hu
      exact Sp.mem h.ti.wf (mem_rowsT.2 ⟨c, h.ti.lt c _ hc, hc⟩)
    · have h0 := bits_zero (h.ln.row hi).2 (h.free i (by omega) hi)
      have h1 := len_zero (h.ln.row hi).1
      have : rowG A i = vz 0 := Prod.ext h0 h1
      rw [this]; exact Sp.zero _ _
theorem Bare.ln {k : Nat} {L : List Vec} (h : Bare k L) : Ln 0 k L := fun u hu => ⟨by rw [(h u hu).1]; rfl, (h u hu).2⟩
theorem rnk_st {k : Nat} (h64 : k ≤ 64) {L : List Vec} (hL : Bare k L) {T : Nat → Option Vec} (h : St 0 k T L) : rnkT T k = rk k L := by
  unfold rk
  refine rnkT_congr fun b _ => ?_
  have h1 := h.lead b
  have h2 := (tab_st h64 hL).lead b
  cases e1 : T b <;> cases e2 : tabT k L b <;> simp_all
/-- The document's rank, with lines changing places, is the rank. -/
theorem rkF_eq {k : Nat} (h64 : k ≤ 64) {L : List Vec} (hL : Bare k L) : (rkF L k).2 = rk k L := by
  obtain ⟨T, h⟩ := rkF_rk hL.ln k (Nat.le_refl k)
  rw [← rnk_st h64 hL (h.st hL.wf)]; exact h.cnt.symm
theorem bare_noClash {k : Nat} {A : List Vec} (h : Ln 0 k A) : clashB 0 A = false := by
  unfold clashB
  rw [List.any_eq_false]
  intro u hu hd
  simp only [decide_eq_true_eq] at hd
  exact hd.2 (len_zero (h u hu).1)
/-- how many blocks have a line -/
def cntA (at_ : Nat → Option Nat) : Nat → Nat
  | 0 => 0
  | b + 1 => cntA at_ b + (if (at_ b).isSome = true then 1 else 0)
theorem cntA_rnk (A : List Vec) (at_ : Nat → Option Nat) : ∀ k, cntA at_ k = rnkT (clT A at_) k
  | 0 => rfl
  | k + 1 => by
    have : (clT A at_ k).isSome = (at_ k).isSome := by unfold clT; rw [Option.isSome_map]
    unfold cntA rnkT; rw [cntA_rnk A at_ k, this]
/-- .. and that by lines that are chosen, too -/
theorem clrF_eq {k : Nat} (h64 : k ≤ 64) {L : List Vec} (hL : Bare k L) : cntA (clrF L k).2 k = rk k L := by
  have h := clrF_cl hL.ln k
  rw [cntA_rnk (clrF L k).1, rnk_st h64 hL (h.st hL.wf (bare_noClash h.ln))]
end Go.Proofs.YtcpookgbneoilaaDoor
