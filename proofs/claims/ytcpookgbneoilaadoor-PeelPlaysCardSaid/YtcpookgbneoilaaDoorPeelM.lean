/- The peeler in memory: its cells, its two maps, the drops that wait. -/
import Derived.Test.YtcpookgbneoilaaDoorMapF
import Derived.Test.YtcpookgbneoilaaDoorPeelPl
namespace Go.Proofs.YtcpookgbneoilaaDoor
open Go.ChangeShapes Go.WideShapes Go.ChangeAt Go.RowKit Go.Maps

/-- how a string, a bool reads in a map -/
def strE : Value → Option (DataW Unit × List MemPlace)
  | .string s => some (.lit (.string s.data.toList), [])
  | _ => none
def boolE : Value → Option (DataW Unit × List MemPlace)
  | .bool b => some (.lit (.bool b), [])
  | _ => none
theorem strCodec : Codec strE := ⟨fun u v d p q h1 h2 => by
  unfold strE at h1 h2
  split at h1
  · rename_i s
    split at h2
    · rename_i t
      injection h1 with h1
      injection h2 with h2
      injection h1 with h1 _
      injection h2 with h2 _
      rw [← h1] at h2
      injection h2 with h2
      injection h2 with h2
      have : s = t := by
        cases s with | mk a => cases t with | mk b => exact congrArg ByteArray.mk (Array.ext' h2.symm)
      rw [this]
    · cases h2
  · cases h1⟩
theorem boolCodec : Codec boolE := ⟨fun u v d p q h1 h2 => by
  unfold boolE at h1 h2
  split at h1
  · rename_i s
    split at h2
    · rename_i t
      injection h1 with h1
      injection h2 with h2
      injection h1 with h1 _
      injection h2 with h2 _
      rw [← h1] at h2
      injection h2 with h2
      injection h2 with h2
      rw [h2]
    · cases h2
  · cases h1⟩
theorem wf_i64 {z : Int} (h : -9223372036854775808 ≤ z ∧ z ≤ 9223372036854775807) : (Lit.int .i64 z).wf = true := by
  simp [Lit.wf, IntKind.min, IntKind.max, IntKind.signed, IntKind.bits]
  omega
theorem u_int : Tryd.prog.underlying 3 = some (.int .i64) := by kernel_rfl
theorem u_mstr : Tryd.prog.underlying 63 = some (.map 3 9) := by kernel_rfl
theorem u_mbool : Tryd.prog.underlying 64 = some (.map 3 4) := by kernel_rfl
theorem zero_strV (w : World) : (zeroValue 9).run Tryd.prog w = .ok (.string { data := #[] }) w := by kernel_rfl
theorem zero_boolV (w : World) : (zeroValue 4).run Tryd.prog w = .ok (.bool false) w := by kernel_rfl

/-- what is known, in the map of block b -/
structure KnAt (w : World) (b k : Nat) (K : Kn) : Prop where
  map : ∃ n f, n + unkC K k ≤ k ∧ MapF Tryd.prog 3 .i64 strE b n f w ∧ ∀ z : Int, 0 ≤ z → z < (k : Int) → f z = (K z).map (fun b => Value.string (S b))
theorem KnAt.lt {w : World} {b k : Nat} {K : Kn} (h : KnAt w b k K) : b < w.heap.size := by
  obtain ⟨n, f, _, hm, _⟩ := h.map
  exact hm.lt
theorem KnAt.fr {w w' : World} {G : Nat → Prop} {b k : Nat} {K : Kn} (h : KnAt w b k K) (hf : Fr G w w') (hb : ¬ G b) : KnAt w' b k K := by
  obtain ⟨n, f, h1, hm, h2⟩ := h.map
  exact ⟨n, f, h1, hm.fr hf hb, h2⟩
theorem KnAt.keep {w w' : World} {b k : Nat} {K : Kn} (h : KnAt w b k K) (hb : Lat w w') : KnAt w' b k K := h.fr (G := fun _ => False) (Fr.lat hb) (fun e => e)
theorem KnAt.look_ok {w : World} {b k : Nat} {K : Kn} (h : KnAt w b k K) (hk : k ≤ 16) (z : Int) (h0 : 0 ≤ z) (h1 : z < (k : Int)) :
    (Instr.lookup 63 (.map (some b)) (.int .i64 z) true).run Tryd.prog w = .ok (.tuple #[.string (S ((K z).getD [])), .bool (K z).isSome]) w := by
  obtain ⟨n, f, _, hm, h2⟩ := h.map
  have := hm.look_ok strCodec u_int u_mstr (zero_strV w) (show strE (.string { data := #[] }) = some (_, _) from rfl) z (wf_i64 (by omega))
  rw [h2 z h0 h1] at this
  rw [this]
  cases K z <;> rfl
theorem KnAt.store {w : World} {b k : Nat} {K : Kn} (h : KnAt w b k K) (hk : k ≤ 16) (z : Int) (h0 : 0 ≤ z) (h1 : z < (k : Int)) (hn : K z = none) (x : Bts) :
    ∃ w', (Instr.mapUpdate 63 (.map (some b)) (.int .i64 z) (.string (S x))).run Tryd.prog w = .ok () w' ∧ KnAt w' b k (updK K z x) ∧ Fr (fun j => j = b) w w' := by
  obtain ⟨n, f, hc, hm, h2⟩ := h.map
  obtain ⟨w', hrun, hm2, hf⟩ := hm.store u_int u_mstr (by omega) z (wf_i64 (by omega)) (val := .string (S x)) (d := .lit (.string (S x).data.toList)) (ps := []) rfl
  have hfz := h2 z h0 h1
  rw [hn] at hfz
  rw [hfz] at hm2
  have hu := unkC_upd (k := k) (K := K) x ⟨h0, h1⟩ hn
  refine ⟨w', hrun, ⟨n + 1, _, by omega, by simpa using hm2, fun y g0 g1 => ?_⟩, hf⟩
  unfold updF updK
  by_cases e : y = z
  · subst e; rw [if_pos rfl, if_pos rfl]; rfl
  · rw [if_neg e, if_neg e]; exact h2 y g0 g1
theorem KnAt.made (w : World) (k : Nat) : KnAt (w.alloc (.map #[] 0)) w.heap.size k (fun _ => none) :=
  ⟨0, fun _ => none, by have := unkC_le (fun _ => none) k; omega, MapF.made w _ _ _ _, fun _ _ _ => rfl⟩

/-- which seeds were taken, in the map of block b -/
structure TkAt (w : World) (b : Nat) (T : List Int) : Prop where
  most : T.length ≤ 60
  map : ∃ f, MapF Tryd.prog 3 .i64 boolE b T.length f w ∧ ∀ z : Int, f z = if z ∈ T then some (Value.bool true) else none
theorem TkAt.lt {w : World} {b : Nat} {T : List Int} (h : TkAt w b T) : b < w.heap.size := by
  obtain ⟨f, hm, _⟩ := h.map
  exact hm.lt
theorem TkAt.fr {w w' : World} {G : Nat → Prop} {b : Nat} {T : List Int} (h : TkAt w b T) (hf : Fr G w w') (hb : ¬ G b) : TkAt w' b T := by
  obtain ⟨f, hm, h2⟩ := h.map
  exact ⟨h.most, f, hm.fr hf hb, h2⟩
theorem TkAt.keep {w w' : World} {b : Nat} {T : List Int} (h : TkAt w b T) (hb : Lat w w') : TkAt w' b T := h.fr (G := fun _ => False) (Fr.lat hb) (fun e => e)
theorem TkAt.look {w : World} {b : Nat} {T : List Int} (h : TkAt w b T) (z : Int) (h0 : 1 ≤ z) (h1 : z ≤ 10000) :
    (Instr.lookup 64 (.map (some b)) (.int .i64 z) false).run Tryd.prog w = .ok (.bool (decide (z ∈ T))) w := by
  obtain ⟨f, hm, h2⟩ := h.map
  have := hm.look boolCodec u_int u_mbool (zero_boolV w) (show boolE (.bool false) = some (_, _) from rfl) z (wf_i64 (by omega))
  rw [h2 z] at this
  rw [this]
  by_cases e : z ∈ T
  · rw [if_pos e, decide_eq_true e]; rfl
  · rw [if_neg e, decide_eq_false e]; rfl
theorem TkAt.len {w : World} {b : Nat} {T : List Int} (h : TkAt w b T) (ty : TypeId) : (Builtin.len_ #[64] ty #[.map (some b)]).run Tryd.prog w = .ok (.int .i64 T.length) w := by
  obtain ⟨f, hm, _⟩ := h.map
  exact hm.len u_mbool ty
theorem TkAt.store {w : World} {b : Nat} {T : List Int} (h : TkAt w b T) (z : Int) (h0 : 1 ≤ z) (h1 : z ≤ 10000) (hn : z ∉ T) (hl : T.length < 60) :
    ∃ w', (Instr.mapUpdate 64 (.map (some b)) (.int .i64 z) (.bool true)).run Tryd.prog w = .ok () w' ∧ TkAt w' b (T ++ [z]) ∧ Fr (fun j => j = b) w w' := by
  obtain ⟨f, hm, h2⟩ := h.map
  obtain ⟨w', hrun, hm2, hf⟩ := hm.store u_int u_mbool (by omega) z (wf_i64 (by omega)) (val := .bool true) (d := .lit (.bool true)) (ps := []) rfl
  rw [h2 z, if_neg hn] at hm2
  refine ⟨w', hrun, ⟨by rw [List.length_append, List.length_singleton]; omega, _, by rw [List.length_append, List.length_singleton]; simpa using hm2, fun y => ?_⟩, hf⟩
  unfold updF
  by_cases e : y = z
  · subst e; rw [if_pos rfl, if_pos (by simp)]
  · rw [if_neg e, h2 y]
    by_cases g : y ∈ T
    · rw [if_pos g, if_pos (List.mem_append_left _ g)]
    · rw [if_neg g, if_neg (fun h => (List.mem_append.1 h).elim g (fun h => e (List.mem_singleton.1 h)))]
theorem TkAt.made (w : World) : TkAt (w.alloc (.map #[] 0)) w.heap.size [] :=
  ⟨by simp, fun _ => none, MapF.made w _ _ _ _, fun z => by simp⟩

/-- a slice of ints that stands in none of some blocks -/
def OffG (G : Nat → Prop) (a : Option Addr) (n : Nat) : Prop := n ≠ 0 → ∀ b o, a = some ⟨b, o, none⟩ → ¬ G b
theorem IntsAt.fr {w w' : World} {G : Nat → Prop} {a : Option Addr} {n cap : Nat} {zs : List Int} (h : IntsAt w a n cap zs) (hf : Fr G w w') (ho : OffG G a n) : IntsAt w' a n cap zs :=
  ⟨h.len, ⟨h.row.le, h.row.cap, fun hn => by
    obtain ⟨b, o, ha, hc⟩ := h.row.at_ hn
    exact ⟨b, o, ha, fun j hj => hf.cell_at (hc j hj) (ho hn b o ha)⟩⟩, h.wf⟩
theorem IntsAt.blk {w : World} {a : Option Addr} {n cap : Nat} {zs : List Int} (h : IntsAt w a n cap zs) (hn : n ≠ 0) {b o : Nat} (ha : a = some ⟨b, o, none⟩) : b < w.heap.size := by
  obtain ⟨b', o', ha', hc⟩ := h.row.at_ hn
  have := hc 0 (by omega)
  have e := ha.symm.trans ha'
  injection e with e
  injection e with e1 _ _
  subst e1
  exact World.block_lt_of_cell? _ _ this

/-- it stands in some of these blocks -/
def InG (G : Nat → Prop) (a : Option Addr) (n : Nat) : Prop := n ≠ 0 → ∀ b o, a = some ⟨b, o, none⟩ → G b
/-- One waiting drop: its row of two cells; its ints lie in none of N, in one of G. -/
structure WtAt (w : World) (N G : Nat → Prop) (r : List Value) (x : Wt) : Prop where
  ex : ∃ a c, r = [.slice a x.1.length c, .string (S x.2)] ∧ IntsAt w a x.1.length c x.1 ∧ OffG N a x.1.length ∧ InG G a x.1.length
theorem WtAt.fr {w w' : World} {N G H : Nat → Prop} {r : List Value} {x : Wt} (h : WtAt w N G r x) (hf : Fr H w w') (hs : ∀ i, i < w.heap.size → H i → G i → N i) : WtAt w' N G r x := by
  obtain ⟨a, c, h1, h2, h3, h4⟩ := h.ex
  exact ⟨a, c, h1, h2.fr hf (fun hn b o ha e => h3 hn b o ha (hs b (h2.blk hn ha) e (h4 hn b o ha))), h3, h4⟩
/-- All that wait. -/
def WtsAt (w : World) (N G : Nat → Prop) (rows : List (List Value)) (L : List Wt) : Prop := rows.length = L.length ∧ ∀ (j : Nat) (x : Wt), L[j]? = some x → ∃ r, rows[j]? = some r ∧ WtAt w N G r x
theorem WtsAt.nil (w : World) (N G : Nat → Prop) : WtsAt w N G [] [] := ⟨rfl, fun j x h => by simp at h⟩
theorem WtsAt.map {w w' : World} {N N' G G' : Nat → Prop} {rows : List (List Value)} {L : List Wt} (h : WtsAt w N G rows L) (hm : ∀ r x, WtAt w N G r x → WtAt w' N' G' r x) : WtsAt w' N' G' rows L :=
  ⟨h.1, fun j x hx => by
    obtain ⟨r, h1, h2⟩ := h.2 j x hx
    exact ⟨r, h1, hm r x h2⟩⟩
theorem WtsAt.fr {w w' : World} {N G H : Nat → Prop} {rows : List (List Value)} {L : List Wt} (h : WtsAt w N G rows L) (hf : Fr H w w') (hs : ∀ i, i < w.heap.size → H i → G i → N i) : WtsAt w' N G rows L := h.map fun _ _ e => e.fr hf hs
theorem WtsAt.keep {w w' : World} {N G : Nat → Prop} {rows : List (List Value)} {L : List Wt} (h : WtsAt w N G rows L) (hb : Lat w w') : WtsAt w' N G rows L := h.fr (H := fun _ => False) (Fr.lat hb) (fun _ _ e => e.elim)
/-- other blocks -/
theorem WtAt.off {w : World} {N N' G G' : Nat → Prop} {r : List Value} {x : Wt} (e : WtAt w N G r x) (hs : ∀ i, i < w.heap.size → G i → N' i → N i) (hg : ∀ i, i < w.heap.size → G i → ¬ N i → G' i) : WtAt w N' G' r x := by
  obtain ⟨a, c, h1, h2, h3, h4⟩ := e.ex
  exact ⟨a, c, h1, h2, fun hn b o ha e => h3 hn b o ha (hs b (h2.blk hn ha) (h4 hn b o ha) e), fun hn b o ha => hg b (h2.blk hn ha) (h4 hn b o ha) (h3 hn b o ha)⟩
theorem WtsAt.off {w : World} {N N' G G' : Nat → Prop} {rows : List (List Value)} {L : List Wt} (h : WtsAt w N G rows L) (hs : ∀ i, i < w.heap.size → G i → N' i → N i) (hg : ∀ i, i < w.heap.size → G i → ¬ N i → G' i) : WtsAt w N' G' rows L := h.map fun _ _ e => e.off hs hg
theorem WtsAt.push {w : World} {N G : Nat → Prop} {rows : List (List Value)} {L : List Wt} (h : WtsAt w N G rows L) {r : List Value} {x : Wt} (hx : WtAt w N G r x) : WtsAt w N G (rows ++ [r]) (L ++ [x]) := by
  refine ⟨by rw [List.length_append, List.length_append, h.1]; rfl, fun j y hy => ?_⟩
  by_cases hj : j < L.length
  · rw [List.getElem?_append_left hj] at hy
    obtain ⟨r2, h1, h2⟩ := h.2 j y hy
    exact ⟨r2, by rw [List.getElem?_append_left (by rw [h.1]; exact hj)]; exact h1, h2⟩
  · rw [List.getElem?_append_right (by omega)] at hy
    have hj2 : j - L.length = 0 := by
      rcases Nat.eq_zero_or_pos (j - L.length) with h | h
      · exact h
      · rw [List.getElem?_eq_none (by rw [List.length_singleton]; omega)] at hy; cases hy
    rw [hj2] at hy
    simp at hy
    subst hy
    exact ⟨r, by rw [List.getElem?_append_right (by rw [h.1]; omega), h.1, hj2]; rfl, hx⟩

/-- the blocks that a call may write to -/
def Nb (p kb tb : Nat) (v : Value) (i : Nat) : Prop := i = p ∨ i = kb ∨ i = tb ∨ v.ownBlock = some i
/-- The peeler at block p: its maps are blocks kb and tb, its waiting drops the slice a; G: the blocks of it all. -/
structure PeelIn (G : Nat → Prop) (p kb tb k m : Nat) (K : Kn) (T : List Int) (L : List Wt) (a : Option Addr) (cap : Nat) (w : World) : Prop where
  lt : ∀ i, G i → i < w.heap.size
  gp : G p
  gk : G kb
  gt : G tb
  nk : p ≠ kb
  nt : p ≠ tb
  nkt : kb ≠ tb
  c0 : w.cell? ⟨p, 0, none⟩ = some (.int .i64 k)
  c1 : w.cell? ⟨p, 1, none⟩ = some (.int .i64 m)
  c2 : w.cell? ⟨p, 2, none⟩ = some (.map (some kb))
  c3 : w.cell? ⟨p, 3, none⟩ = some (.map (some tb))
  c4 : w.cell? ⟨p, 4, none⟩ = some (.slice a L.length cap)
  free : w.frozen? ⟨p, 4, none⟩ = false
  kn : KnAt w kb k K
  tk : TkAt w tb T
  row : ∃ rows, OwnR w 0 74 2 (.slice a L.length cap) rows ∧ WtsAt w (Nb p kb tb (.slice a L.length cap)) G rows L
  own : ∀ i, (Value.slice a L.length cap).ownBlock = some i → G i ∧ i ≠ p ∧ i ≠ kb ∧ i ≠ tb
  ok : WOk k m K L
  most : L.length ≤ T.length
/-- The peeler at block p. -/
def PeelO (G : Nat → Prop) (p k m : Nat) (K : Kn) (T : List Int) (L : List Wt) (w : World) : Prop := ∃ kb tb a cap, PeelIn G p kb tb k m K T L a cap w
theorem PeelIn.fr {G H : Nat → Prop} {p kb tb k m : Nat} {K : Kn} {T : List Int} {L : List Wt} {a : Option Addr} {cap : Nat} {w w' : World} (h : PeelIn G p kb tb k m K T L a cap w) (hf : Fr H w w') (hd : ∀ i, G i → ¬ H i) : PeelIn G p kb tb k m K T L a cap w' := by
  have dp := hd _ h.gp
  obtain ⟨rows, ho, hw⟩ := h.row
  exact ⟨fun i hi => Nat.lt_of_lt_of_le (h.lt i hi) hf.size, h.gp, h.gk, h.gt, h.nk, h.nt, h.nkt, hf.cell_at h.c0 dp, hf.cell_at h.c1 dp, hf.cell_at h.c2 dp, hf.cell_at h.c3 dp, hf.cell_at h.c4 dp, hf.free_at (h.lt _ h.gp) h.free dp,
    h.kn.fr hf (hd _ h.gk), h.tk.fr hf (hd _ h.gt), ⟨rows, ho.fr hf (fun i hi => hd _ (h.own i hi).1), hw.fr hf (fun i _ h1 h2 => absurd h1 (hd i h2))⟩, h.own, h.ok, h.most⟩
theorem PeelIn.keep {G : Nat → Prop} {p kb tb k m : Nat} {K : Kn} {T : List Int} {L : List Wt} {a : Option Addr} {cap : Nat} {w w' : World} (h : PeelIn G p kb tb k m K T L a cap w) (hb : Lat w w') : PeelIn G p kb tb k m K T L a cap w' :=
  h.fr (H := fun _ => False) (Fr.lat hb) (fun _ _ e => e)
theorem PeelIn.grow {G G' : Nat → Prop} {p kb tb k m : Nat} {K : Kn} {T : List Int} {L : List Wt} {a : Option Addr} {cap : Nat} {w : World} (h : PeelIn G p kb tb k m K T L a cap w) (hs : ∀ i, G i → G' i) (hl : ∀ i, G' i → i < w.heap.size) : PeelIn G' p kb tb k m K T L a cap w := by
  obtain ⟨rows, ho, hw⟩ := h.row
  exact ⟨hl, hs _ h.gp, hs _ h.gk, hs _ h.gt, h.nk, h.nt, h.nkt, h.c0, h.c1, h.c2, h.c3, h.c4, h.free, h.kn, h.tk, ⟨rows, ho, hw.off (fun _ _ _ e => e) (fun i _ e _ => hs i e)⟩, fun i hi => ⟨hs _ (h.own i hi).1, (h.own i hi).2⟩, h.ok, h.most⟩
theorem PeelO.fr {G H : Nat → Prop} {p k m : Nat} {K : Kn} {T : List Int} {L : List Wt} {w w' : World} (h : PeelO G p k m K T L w) (hf : Fr H w w') (hd : ∀ i, G i → ¬ H i) : PeelO G p k m K T L w' := by
  obtain ⟨kb, tb, a, cap, h⟩ := h
  exact ⟨kb, tb, a, cap, h.fr hf hd⟩
theorem PeelO.keep {G : Nat → Prop} {p k m : Nat} {K : Kn} {T : List Int} {L : List Wt} {w w' : World} (h : PeelO G p k m K T L w) (hb : Lat w w') : PeelO G p k m K T L w' := by
  obtain ⟨kb, tb, a, cap, h⟩ := h
  exact ⟨kb, tb, a, cap, h.keep hb⟩
/-- What a call on it leaves. -/
structure PeelStep (G : Nat → Prop) (p k m : Nat) (K : Kn) (T : List Int) (L : List Wt) (w w' : World) : Prop where
  fr : Fr G w w'
  obj : ∃ G', PeelO G' p k m K T L w' ∧ ∀ i, G' i → G i ∨ w.heap.size ≤ i
  maps : w'.cell? ⟨p, 2, none⟩ = w.cell? ⟨p, 2, none⟩ ∧ w'.cell? ⟨p, 3, none⟩ = w.cell? ⟨p, 3, none⟩
end Go.Proofs.YtcpookgbneoilaaDoor
