/- Laws for AirKeeps: an air beside a slice of drops of the call's own; what has been sent. -/
import Derived.Test.YtooepflfofgnnaaDoorAir3
import Derived.Test.YtooepflfofgnnaaDoorOpenRows
namespace Go.Proofs.YtooepflfofgnnaaDoor
open Go.ChangeShapes Go.WideShapes Go.ChangeAt Go.RowKit

set_option maxRecDepth 100000
/-- An air at x with drops ds, and a slice v that holds L. -/
structure KS (w : World) (x : Nat) (ds : List Dr) (v : Value) (L : List Dr) (wx : World) : Prop where
  lat : Lat w wx
  air : ∃ S, AirO S x ds wx ∧ (∀ k, S k → w.heap.size ≤ k) ∧ (∀ k, v.ownBlock = some k → ¬ S k)
  sent : OwnR wx w.heap.size 24 2 v (L.map Dr.row)
theorem KS.keep {w : World} {x : Nat} {ds L : List Dr} {v : Value} {wx wy : World} (h : KS w x ds v L wx) (hb : Lat wx wy) : KS w x ds v L wy := by
  obtain ⟨S, ho, hs, hv⟩ := h.air
  exact ⟨h.lat.trans hb, ⟨S, ho.keep hb, hs, hv⟩, h.sent.keep hb⟩
theorem KS.next {w : World} {x : Nat} {ds ds2 L : List Dr} {v : Value} {wx wy : World} {S : Nat → Prop} (h : KS w x ds v L wx) (hs : ∀ k, S k → w.heap.size ≤ k) (hv : ∀ k, v.ownBlock = some k → ¬ S k) (hst : AirStep S x ds2 wx wy) : KS w x ds2 v L wy := by
  obtain ⟨S', ho', hs'⟩ := hst.obj
  have hsz := h.lat.size
  have hl := h.sent.lt
  refine ⟨hst.lat h.lat hs, ⟨S', ho', fun k hk => ?_, fun k hk e => ?_⟩, h.sent.fr hst.fr hv⟩
  · rcases hs' k hk with e | e
    · exact hs k e
    · omega
  · rcases hs' k e with e | e
    · exact hv k hk e
    · have := (hl k hk).2; omega
theorem KS.app {w : World} {x : Nat} {ds L : List Dr} {v v' : Value} {d : Dr} {wx wy : World} (h : KS w x ds v L wx) (hown : OwnR wy w.heap.size 24 2 v' (L.map Dr.row ++ [d.row])) (hb : Below w.heap.size wx wy) (hst : AppStep wx wy v v') : KS w x ds v' (L ++ [d]) wy := by
  obtain ⟨S, ho, hs, hv⟩ := h.air
  refine ⟨Below.trans h.lat hb, ⟨S, ho.fr (Fr.app hst ⟨hb.os, hb.tape, hb.output⟩) (fun k hk e => hv k e hk), hs, fun k hk e => ?_⟩, by rw [List.map_append]; exact hown⟩
  rcases hst.loc with hl | ⟨g, hl, hg⟩
  · rw [hl] at hk; exact hv k hk e
  · rw [hl] at hk
    have e1 : g = k := Option.some.inj hk
    have := ho.lt k e
    omega
theorem KS.start {w w1 : World} {x : Nat} (hb : Lat w w1) (hx : w.heap.size ≤ x) (h : AirO (fun k => k = x) x [] w1) : KS w x [] (.slice none 0 0) [] w1 :=
  ⟨hb, ⟨_, h, fun k hk => by omega, fun k hk => by cases hk⟩, OwnR.nil _ _ _ _⟩

/-- what has been sent of the first ones -/
def sentL (ls : List Dr) : Nat → List Dr
  | 0 => []
  | k + 1 => snD (sentL ls k) (ls.getD k ⟨0, .empty⟩)
theorem snD_len (L : List Dr) (d : Dr) (h : L.length ≤ 60) : (snD L d).length ≤ 60 := by
  unfold snD
  split
  · rename_i h0
    unfold snE at h0
    repeat' split at h0
    all_goals first | omega | skip
    rw [List.length_append, List.length_singleton]; omega
  · exact h
theorem sentL_len (ls : List Dr) : ∀ k, (sentL ls k).length ≤ 60
  | 0 => by simp [sentL]
  | k + 1 => snD_len _ _ (sentL_len ls k)
theorem sentL_mem {ls : List Dr} : ∀ k, k ≤ ls.length → ∀ d ∈ sentL ls k, d ∈ ls
  | 0, _, d, h => by simp [sentL] at h
  | k + 1, hk, d, h => by
    unfold sentL snD at h
    split at h
    · rcases List.mem_append.1 h with h | h
      · exact sentL_mem k (by omega) d h
      · rw [List.mem_singleton.1 h, List.getD_eq_getElem?_getD, List.getElem?_eq_getElem (by omega)]
        exact List.getElem_mem (by omega)
    · exact sentL_mem k (by omega) d h
theorem giD_len (ds : List Dr) (i : Int) : (giD ds i).length ≤ ds.length := by
  unfold giD; split
  · exact List.length_eraseIdx_le ..
  · exact Nat.le_refl _
theorem giD_mem {ds : List Dr} {i : Int} {d : Dr} (h : d ∈ giD ds i) : d ∈ ds := by
  unfold giD at h; split at h
  · exact List.mem_of_mem_eraseIdx h
  · exact h
theorem giD_no {ds : List Dr} {i : Int} (h : giE ds i ≠ 0) : giD ds i = ds := by
  unfold giE at h; unfold giD
  split at h
  · omega
  · rename_i h1; rw [if_neg h1]
theorem giV_mem {ds : List Dr} {i : Int} (h : inA ds i = true) : giV ds i ∈ ds := by
  obtain ⟨k, rfl, hk⟩ := inA_yes h
  have : giV ds k = ds[k] := by
    unfold giV; rw [if_pos h, Int.toNat_natCast, List.getD_eq_getElem?_getD, List.getElem?_eq_getElem hk]; rfl
  rw [this]; exact List.getElem_mem hk
theorem twD_len (ds : List Dr) (i : Int) (h : ds.length ≤ 60) : (twD ds i).length ≤ 60 := by
  unfold twD; split
  · exact snD_len _ _ h
  · exact h
theorem twD_mem {ds : List Dr} {i : Int} {d : Dr} (h : d ∈ twD ds i) : d ∈ ds := by
  unfold twD at h; split at h
  · rename_i hi
    unfold snD at h; split at h
    · rcases List.mem_append.1 h with h | h
      · exact h
      · rw [List.mem_singleton.1 h]; exact giV_mem hi
    · exact h
  · exact h
theorem twD_no {ds : List Dr} {i : Int} (h : twE ds i ≠ 0) : twD ds i = ds := by
  unfold twE at h; unfold twD
  split at h
  · rename_i hi; rw [if_pos hi, snD, if_neg h]
  · rename_i hi; rw [if_neg hi]
/-- Where the drops stand once the steps have begun. -/
structure KB (ds L : List Dr) (bent : Bool) : Prop where
  len : ds.length ≤ 60
  mem : ∀ d ∈ ds, d ∈ L
  same : bent = false → ds = L
theorem KB.lose {ds L : List Dr} {b : Bool} (h : KB ds L b) (i : Int) : KB (giD ds i) L (b || decide (giE ds i = 0)) := by
  refine ⟨Nat.le_trans (giD_len ds i) h.len, fun d hd => h.mem d (giD_mem hd), fun hb => ?_⟩
  rw [Bool.or_eq_false_iff, decide_eq_false_iff_not] at hb
  rw [giD_no hb.2]; exact h.same hb.1
theorem KB.twice {ds L : List Dr} {b : Bool} (h : KB ds L b) (i : Int) : KB (twD ds i) L (b || decide (twE ds i = 0)) := by
  refine ⟨twD_len ds i h.len, fun d hd => h.mem d (twD_mem hd), fun hb => ?_⟩
  rw [Bool.or_eq_false_iff, decide_eq_false_iff_not] at hb
  rw [twD_no hb.2]; exact h.same hb.1
/-- Where they stand once they have begun to come. -/
structure KC (ds L : List Dr) (bent : Bool) (i : Nat) : Prop where
  len : ds.length + i ≤ 60
  mem : ∀ d ∈ ds, d ∈ L
  same : bent = false → ds = L.drop i
theorem KC.tail {d : Dr} {ds L : List Dr} {b : Bool} {i : Nat} (h : KC (d :: ds) L b i) : KC ds L b (i + 1) :=
  ⟨by have := h.len; rw [List.length_cons] at this; omega, fun x hx => h.mem x (List.mem_cons_of_mem _ hx), fun hb => by
    have := congrArg List.tail (h.same hb)
    rwa [List.tail_cons, List.tail_drop] at this⟩
theorem KC.head {d : Dr} {ds L : List Dr} {b : Bool} {i : Nat} (h : KC (d :: ds) L b i) (hb : b = false) : L[i]? = some d := by
  have e := h.same hb
  have : (L.drop i)[0]? = some d := by rw [← e]; rfl
  rwa [List.getElem?_drop, Nat.add_zero] at this
theorem Dr.eq_of {a b : Dr} (h1 : a.s = b.s) (h2 : a.t = b.t) : a = b := by cases a; cases b; cases h1; cases h2; rfl
instance : DecidableEq Dr := fun a b => if h : a.s = b.s ∧ a.t = b.t then isTrue (Dr.eq_of h.1 h.2) else isFalse (fun e => h ⟨congrArg Dr.s e, congrArg Dr.t e⟩)
/-- was it among the first ones? -/
def wasB (L : List Dr) (d : Dr) : Nat → Bool
  | 0 => false
  | j + 1 => wasB L d j || decide (L.getD j ⟨0, .empty⟩ = d)
theorem wasB_yes {L : List Dr} {d : Dr} {j : Nat} (h : L.getD j ⟨0, .empty⟩ = d) : wasB L d (j + 1) = true := by
  show (wasB L d j || decide (L.getD j ⟨0, .empty⟩ = d)) = true
  rw [decide_eq_true h, Bool.or_true]
theorem wasB_no {L : List Dr} {d : Dr} {j : Nat} (h : L.getD j ⟨0, .empty⟩ ≠ d) : wasB L d (j + 1) = wasB L d j := by
  show (wasB L d j || decide (L.getD j ⟨0, .empty⟩ = d)) = _
  rw [decide_eq_false h, Bool.or_false]
theorem wasB_mono {L : List Dr} {d : Dr} {i : Nat} (h : wasB L d i = true) : ∀ j, i ≤ j → wasB L d j = true
  | 0, hj => by rw [show 0 = i by omega]; exact h
  | j + 1, hj => by
    by_cases e : i = j + 1
    · rw [← e]; exact h
    · show (wasB L d j || decide (L.getD j ⟨0, .empty⟩ = d)) = true
      rw [wasB_mono h j (by omega), Bool.true_or]
theorem wasB_all {L : List Dr} {d : Dr} (h : d ∈ L) : wasB L d L.length = true := by
  obtain ⟨i, hi, e⟩ := List.getElem_of_mem h
  exact wasB_mono (i := i + 1) (wasB_yes (by rw [List.getD_eq_getElem?_getD, List.getElem?_eq_getElem hi]; exact e)) _ hi
end Go.Proofs.YtooepflfofgnnaaDoor
