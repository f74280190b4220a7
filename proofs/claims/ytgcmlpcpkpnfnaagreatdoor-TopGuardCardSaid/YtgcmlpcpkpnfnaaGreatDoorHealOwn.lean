/- Rows of one element, what is appended to a row, a row as a block: words for guard.Heal. -/
import Derived.Test.YtgcmlpcpkpnfnaaGreatDoorHealAny
import Derived.Test.YtgcmlpcpkpnfnaaGreatDoorCloneB
import Derived.Test.YtgcmlpcpkpnfnaaGreatDoorAppOne
import Derived.IntWalk
namespace Go.Proofs.YtgcmlpcpkpnfnaaGreatDoor
open Go.ChangeShapes Go.WideShapes Go.ChangeAt Go.RowKit

theorem wrap_q (g e q : Nat) (hq : q = g * e) (h : q ≤ 16) : wrap64 ((g : Int) * (e : Int)) = (q : Int) := by
  have h2 : (g : Int) * (e : Int) = (q : Int) := by rw [hq]; exact (Int.natCast_mul g e).symm
  rw [h2]; exact IntWalk.wrap64_in _ (by omega)
theorem wrap_tq (g e q n t tq : Nat) (hq : q = g * e) (ht : t = min e (n - q)) (hto : tq = q + t) (hge : q < n) (hn : n ≤ 16) (he : e ≤ 16) :
    (if wrap64 (((g : Int) + 1) * (e : Int)) < (n : Int) then wrap64 (((g : Int) + 1) * (e : Int)) else (n : Int)) = (tq : Int) := by
  have h2 : ((g : Int) + 1) * (e : Int) = (q : Int) + (e : Int) := by rw [Int.add_mul, Int.one_mul, hq, Int.natCast_mul]
  have h3 : wrap64 ((q : Int) + (e : Int)) = (q : Int) + (e : Int) := IntWalk.wrap64_in _ (by omega)
  rw [h2, h3]
  clear h3 h2
  split <;> omega
theorem own_one (w : World) (B : Nat) (e : TypeId) (u : Value) (hB : B ≤ w.heap.size) : Own (w.alloc (.cells #[u] e)) B e (.slice (some ⟨w.heap.size, 0, none⟩) 1 1) [u] :=
  ⟨by simp, .inr ⟨w.heap.size, 1, #[u], rfl, hB, heap_alloc_new w _, Nat.le_refl _, by unfold maxLen; omega, by simp, by simp⟩⟩
theorem own_len {w : World} {B t : Nat} {e : TypeId} {v : Value} {xs : List Value} (h : Own w B e v xs) (hn : xs.length = t) : ∃ a c, v = .slice a t c := by
  subst hn
  obtain ⟨a, c, hv, _⟩ := Own.slice h
  exact ⟨a, c, hv⟩
theorem app_own {P : Program} (w : World) (B : Nat) (t ty e : TypeId) (z : Value) (bytes : Nat) (ht : P.underlying t = some (.slice e)) (hinfo : (P.info? e).map (fun i => (i.zero, i.size, i.bytes)) = some (some z, 1, bytes)) (hz : z.cells.size = 1) (hby : bytes ≤ 16)
    {v : Value} {xs : List Value} (hown : Own w B e v xs) {g : Nat} {u : Value} (h1 : Own w B e (.slice (some ⟨g, 0, none⟩) 1 1) [u]) (hu : u.oneCell' = true) {n : Nat} (hl : xs.length = n) (hn : n < 1000000000) (hB : B ≤ w.heap.size) :
    ∃ a' c' w', (Builtin.append_ #[t, t] ty #[v, .slice (some ⟨g, 0, none⟩) 1 1]).run P w = .ok (.slice a' (n + 1) c') w' ∧ Own w' B e (.slice a' (n + 1) c') (xs ++ [u]) ∧ w.grownBy w' v.ownBlock := by
  subst hl
  obtain ⟨a, cap, hv, hr⟩ := Own.slice h1
  injection hv with e1 e2 e3
  obtain ⟨b, o, ha, hc⟩ := hr.at_ (by simp)
  rw [← e1] at ha
  injection ha with ha
  injection ha with ha1 ha2 _
  subst ha1
  subst ha2
  obtain ⟨a', c', w', h2, h3, h4, _⟩ := app_cell (P := P) w B t ty e z bytes ht hinfo hz hby v xs hown g u (hc 0 (by simp)) hu hn hB
  exact ⟨a', c', w', h2, h3, h4⟩
theorem blk_strs {w : World} {B L cap : Nat} {a : Option Addr} {ss : List ByteArray} (h : Own w B 9 (.slice a L cap) (ss.map Value.string)) (hn : 1 ≤ ss.length) :
    ∃ g, a = some ⟨g, 0, none⟩ ∧ B ≤ g ∧ L = ss.length ∧ L ≤ cap ∧ cap ≤ maxLen ∧ Blk w g ss.length (fun j => .string (ss.getD j ByteArray.empty)) := by
  obtain ⟨g, h1, h2, h3, h4, h5, h6⟩ := Own.blk h (by rw [List.length_map]; exact hn)
  rw [List.length_map] at h3
  subst h3
  refine ⟨g, h1, h2, rfl, h4, h5, h6.congr fun j hj => ?_⟩
  rw [List.getD_eq_getElem?_getD, List.getElem?_map, List.getD_eq_getElem?_getD, List.getElem?_eq_getElem hj]; rfl
theorem bools_at {w : World} {B L cap : Nat} {a : Option Addr} {bs : List Bool} (h : OwnBools w B (.slice a L cap) bs) : L = bs.length ∧ BoolsAt w a bs.length cap bs := by
  obtain ⟨a2, c2, hv, hb⟩ := OwnBools.slice h
  injection hv with e1 e2 e3
  subst e1
  subst e2
  subst e3
  exact ⟨rfl, hb⟩
/-- what stands behind guard.heal -/
def HealEnd (wr wx : World) (x er : Value) (E t : Nat) (hs : List ByteArray) : Prop :=
  er = errv E ∧ Lat wr wx ∧ ∃ a k cap, x = .slice a k cap ∧ (E = 0 → k = t ∧ RowAt wx a k cap (fun j => ((hs.take t).map Value.string).getD j undef))
theorem heal_end {wr w' : World} {bk t cap E : Nat} {hs : List ByteArray} (hl : hs.length = t + 1) (hkc : t + 1 ≤ cap) (hcap : cap ≤ maxLen) (hb : Blk w' bk (t + 1) (fun j => .string (hs.getD j ByteArray.empty))) (hL : Lat wr w') :
    HealEnd wr w' (if E = 0 then .slice (some ⟨bk, 0, none⟩) (t + 1 - 1) cap else .slice none 0 0) (errv E) E t hs := by
  refine ⟨rfl, hL, ?_⟩
  by_cases hE : E = 0
  · rw [if_pos hE]
    refine ⟨_, _, _, rfl, fun _ => ⟨rfl, by omega, hcap, fun _ => ⟨bk, 0, rfl, fun j hj => ?_⟩⟩⟩
    rw [Nat.zero_add, hb.cell j (by omega), List.getD_eq_getElem?_getD, List.getD_eq_getElem?_getD, List.getElem?_map, List.getElem?_take_of_lt (by omega), List.getElem?_eq_getElem (by omega)]
    rfl
  · rw [if_neg hE]
    exact ⟨_, _, _, rfl, fun h => absurd h hE⟩
/-- a group of a slice -/
theorem grp_strs {w : World} {b off n N cap q t : Nat} {ss : List ByteArray} (h : StrsAt w (some ⟨b, off, none⟩) N cap ss) (hnN : n ≤ N) (e g : Nat) (hq : q = g * e) (ht : t = min e (n - q)) (hq2 : q < n) :
    StrsAt w (some ⟨b, off + q, none⟩) t (cap - q) (grpAt ss n e g) := by
  have hl := h.len
  have hle := h.row.le
  have hcm := h.row.cap
  refine ⟨by unfold grpAt; rw [List.length_take, List.length_drop, List.length_take, hl]; omega, ⟨by omega, by omega, fun _ => ⟨b, off + q, rfl, fun j hj => ?_⟩⟩, fun s hs => h.sz s (List.mem_of_mem_take (List.mem_of_mem_drop (List.mem_of_mem_take hs)))⟩
  obtain ⟨b2, o2, ha, hc⟩ := h.row.at_ (by omega)
  injection ha with ha
  injection ha with ha1 ha2 _
  subst ha1
  subst ha2
  rw [Nat.add_assoc, hc (q + j) (by omega)]
  unfold grpAt
  congr 2
  rw [List.getD_eq_getElem?_getD, List.getD_eq_getElem?_getD, List.getElem?_take_of_lt (by omega), List.getElem?_drop, List.getElem?_take_of_lt (by omega), ← hq]
theorem grp_bools {w : World} {b off n N cap q t : Nat} {ss : List Bool} (h : BoolsAt w (some ⟨b, off, none⟩) N cap ss) (hnN : n ≤ N) (e g : Nat) (hq : q = g * e) (ht : t = min e (n - q)) (hq2 : q < n) :
    BoolsAt w (some ⟨b, off + q, none⟩) t (cap - q) (grpAt ss n e g) := by
  have hl := h.len
  have hle := h.row.le
  have hcm := h.row.cap
  refine ⟨by unfold grpAt; rw [List.length_take, List.length_drop, List.length_take, hl]; omega, ⟨by omega, by omega, fun _ => ⟨b, off + q, rfl, fun j hj => ?_⟩⟩⟩
  obtain ⟨b2, o2, ha, hc⟩ := h.row.at_ (by omega)
  injection ha with ha
  injection ha with ha1 ha2 _
  subst ha1
  subst ha2
  rw [Nat.add_assoc, hc (q + j) (by omega)]
  unfold grpAt
  congr 2
  rw [List.getD_eq_getElem?_getD, List.getD_eq_getElem?_getD, List.getElem?_take_of_lt (by omega), List.getElem?_drop, List.getElem?_take_of_lt (by omega), ← hq]
end Go.Proofs.YtgcmlpcpkpnfnaaGreatDoor
