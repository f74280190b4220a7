import Derived.Test.YtheimfdbadjpoaaGreatDoorTopFilmT
import Derived.Test.YtheimfdbadjpoaaGreatDoorOwnC
import Derived.Shelf.Abstract
import Derived.Lib.Hide
import Derived.Deep.DeepCutAuto
import Derived.Deep.CutBlock
import Derived.Deep.RegionHeld3
import Derived.Deep.DrawnRows
import Derived.StillTailTactics
import Derived.IntWalk
import Derived.Test.YtheimfdbadjpoaaGreatDoorBase
import Derived.BigQuiet
namespace Go.Proofs.YtheimfdbadjpoaaGreatDoor
open Go.ChangeShapes Go.WideShapes Go.ChangeAt Go.RowKit

structure AccInv (b0 : Nat) (w0 wr : World) (g k : Nat) (v : Value) (L : List Int) : Prop where
  bel : Below b0 w0 wr
  lo : b0 ≤ g
  hi : g < w0.heap.size
  same : ∀ p x, p ≠ ⟨g, k, none⟩ → w0.cell? p = some x → wr.cell? p = some x
  free : ∀ p, p.block < w0.heap.size → w0.frozen? p = false → wr.frozen? p = false
  at_ : wr.cell? ⟨g, k, none⟩ = some v
  own : OwnInts wr w0.heap.size v L
theorem AccInv.start {b0 : Nat} {w0 : World} {g k : Nat} (lo : b0 ≤ g) (h : w0.cell? ⟨g, k, none⟩ = some (.slice none 0 0)) : AccInv b0 w0 w0 g k (.slice none 0 0) [] :=
  ⟨Below.refl _ _, lo, World.block_lt_of_cell? _ _ h, fun _ _ _ h => h, fun _ _ h => h, h, Own.nil _ _ _⟩
theorem AccInv.drewN {b0 : Nat} {w0 wr : World} {g k : Nat} {v : Value} {L : List Int} (h : AccInv b0 w0 wr g k v L) (n : Nat) : AccInv b0 w0 (wr.drewN n) g k v L :=
  ⟨Below.trans h.bel ⟨rfl, rfl, rfl, Nat.le_refl _, fun _ _ => rfl⟩, h.lo, h.hi, h.same, h.free, h.at_, h.own⟩
theorem AccInv.size {b0 : Nat} {w0 wr : World} {g k : Nat} {v : Value} {L : List Int} (h : AccInv b0 w0 wr g k v L) : w0.heap.size ≤ wr.heap.size := h.bel.size
theorem AccInv.lat {w : World} {w0 wr : World} {g k : Nat} {v : Value} {L : List Int} (h : AccInv w.heap.size w0 wr g k v L) (hl : Lat w w0) : Lat w wr := Below.trans hl h.bel
theorem AccInv.ints {b0 : Nat} {w0 wr : World} {g k : Nat} {v : Value} {L : List Int} (h : AccInv b0 w0 wr g k v L) {a : Option Addr} {n cap : Nat} {zs : List Int} (hat : IntsAt w0 a n cap zs) (hne : ∀ b o, a = some ⟨b, o, none⟩ → n ≠ 0 → b ≠ g) : IntsAt wr a n cap zs :=
  ⟨hat.len, ⟨hat.row.le, hat.row.cap, fun hn => by
    obtain ⟨b, o, ha, hc⟩ := hat.row.at_ hn
    exact ⟨b, o, ha, fun j hj => h.same _ _ (fun e => hne b o ha hn (by injection e)) (hc j hj)⟩⟩, hat.wf⟩
theorem AccInv.step {b0 : Nat} {w0 wr w1 : World} {g k : Nat} {v : Value} {L : List Int} {z : Int} {o : Obj} {q c : Nat} (h : AccInv b0 w0 wr g k v L)
    (hgrow : (wr.alloc o).grownBy w1 v.ownBlock) (hown : w1.ownsRow w0.heap.size 3 1 (.slice (some ⟨q, 0, none⟩) (L.length + 1) c) (L.length + 1) (L.map (Value.int .i64) ++ [.int .i64 z])) :
    AccInv b0 w0 (w1.setCell ⟨g, k, none⟩ (.slice (some ⟨q, 0, none⟩) (L.length + 1) c)) g k (.slice (some ⟨q, 0, none⟩) (L.length + 1) c) (L ++ [z]) := by
  have hne : ∀ j, j < w0.heap.size → v.ownBlock ≠ some j := fun j hj => Own.not h.own hj
  have hsz := h.size
  have hgw : g < wr.heap.size := Nat.lt_of_lt_of_le h.hi hsz
  have cc : ∀ p x, p.block < w0.heap.size → wr.cell? p = some x → w1.cell? p = some x := fun p x hp hx => grown_cell hgrow ((Lat.alloc _ _).cell_at hx) (hne _ hp)
  have ff : ∀ p, p.block < w0.heap.size → wr.frozen? p = false → w1.frozen? p = false := fun p hp hx => grown_free hgrow (by simp; omega) ((Lat.alloc _ _).free_at (by omega) hx) (hne _ hp)
  have hb : Below b0 w0 w1 := Below.grown (Below.alloc h.bel (by have := h.lo; omega) o) hgrow (by have := h.lo; simp; omega) (fun j hj => by
    rcases Nat.lt_or_ge j w0.heap.size with hlt | hge
    · exact absurd hj (hne j hlt)
    · have := h.lo; have := h.hi; omega)
  refine ⟨Below.setCell hb h.lo _, h.lo, h.hi, fun p x hp hx => ?_, fun p hp hx => ?_, ?_, ?_⟩
  · rw [World.cell?_setCell_other _ _ _ _ (fun e => hp e.symm)]
    exact cc p x (World.block_lt_of_cell? _ _ hx) (h.same p x hp hx)
  · rw [World.frozen?_setCell]
    exact ff p hp (h.free p hp hx)
  · exact World.cell?_setCell_same _ _ _ (cc _ _ h.hi h.at_)
  · refine Own.set (p := ⟨g, k, none⟩) (B := w0.heap.size) ?_ h.hi _
    unfold Own
    rw [List.length_map, List.length_append, List.length_singleton, List.map_append]
    exact hown
theorem app_acc {b0 : Nat} {w0 wr : World} {g k : Nat} {v : Value} {L : List Int} (h : AccInv b0 w0 wr g k v L) (hfr : w0.frozen? ⟨g, k, none⟩ = false) (hlen : L.length ≤ 1000000000)
    {ops : Array Oper} {rest : List Oper} {o : Oper} {a : Act} {Q : Exit → Act → World → Prop}
    (hg : o.guard = none) (s x : Operand) (ho : o.op = .call { callee := .builtin .append, args := #[s, x], argTypes := #[23, 23] }) (z : Int) (hs : a.eval s = v) (hx : a.eval x = .slice (some ⟨wr.heap.size, 0, none⟩) 1 1)
    (K : ∀ q c w1, AccInv b0 w0 (w1.setCell ⟨g, k, none⟩ (.slice (some ⟨q, 0, none⟩) (L.length + 1) c)) g k (.slice (some ⟨q, 0, none⟩) (L.length + 1) c) (L ++ [z]) → w1.cell? ⟨g, k, none⟩ = some v → w1.frozen? ⟨g, k, none⟩ = false →
      (∀ p y, p.block < w0.heap.size → wr.cell? p = some y → w1.cell? p = some y) → wpList Tryz.prog ops Q rest (a.put o.dst (.slice (some ⟨q, 0, none⟩) (L.length + 1) c)) w1) :
    wpList Tryz.prog ops Q (o :: rest) a (wr.alloc (.cells #[.int .i64 z] 3)) := by
  obtain ⟨i0, hi0, hz0, hz1, hz2⟩ := info_int_parts
  have hsz := h.size
  refine wpList_append_lies (wr.alloc (.cells #[.int .i64 z] 3)) hg s x 23 ho w0.heap.size 3 i0 (.int .i64 0) 1 8 Tryz.underlying23 hi0 hz0 hz1 hz2 rfl (by decide) v L.length (L.map (Value.int .i64)) hs
    (by have := Own.alloc h.own (.cells #[.int .i64 z] 3); unfold Own at this; rwa [List.length_map] at this) ⟨wr.heap.size, 0, none⟩ 1 1 [.int .i64 z] hx rfl ?_ ?_ (by decide) ?_ ?_ ?_ _ rfl ?_
  · intro q u' hq
    match q, hq with
    | 0, hq =>
      simp at hq; subst hq
      rw [Addr.add_lit, World.cell?_alloc_at _ _ _ _ rfl]; rfl
  · intro u' hu'; simp at hu'; subst hu'; rfl
  · unfold maxLen; omega
  · omega
  · simp; omega
  intro q c w1 hown hgrow hat hlt
  have hstep := h.step (o := .cells #[.int .i64 z] 3) hgrow hown
  have cc : ∀ p y, p.block < w0.heap.size → wr.cell? p = some y → w1.cell? p = some y := fun p y hp hy => grown_cell hgrow ((Lat.alloc _ _).cell_at hy) (Own.not h.own hp)
  exact K q c w1 hstep (cc _ _ h.hi h.at_) (grown_free hgrow (Nat.lt_of_lt_of_le h.hi (Nat.le_trans hsz (Lat.alloc _ _).size)) ((Lat.alloc _ _).free_at (Nat.lt_of_lt_of_le h.hi hsz) (h.free _ h.hi hfr)) (Own.not h.own h.hi)) cc
def AccSome (b0 : Nat) (w0 wr : World) (g k : Nat) (L : List Int) : Prop := ∃ v, AccInv b0 w0 wr g k v L
end Go.Proofs.YtheimfdbadjpoaaGreatDoor

namespace Go.Proofs.YtheimfdbadjpoaaGreatDoor
open Go.ChangeShapes Go.WideShapes Go.ChangeAt Go.RowKit

theorem mem_getD (zs : List Int) (k : Nat) (h : k < zs.length) : zs.getD k 0 ∈ zs := by
  rw [List.getD_eq_getElem?_getD, List.getElem?_eq_getElem h]; exact List.getElem_mem h
def TestI (F : Nat) (p : Int → Bool) (zs : List Int) : Prop := ∀ z ∈ zs, ∀ w : World, Calls Tryz.prog F #[.int .i64 z] w fun e w' => e = .returned (.bool (p z)) ∧ w = w'
def IdxI (p : Int → Bool) (zs : List Int) (w : World) (e : Ending) (w' : World) : Prop := ∃ r : Int, e = .returned (.int .i64 r) ∧ decide (0 ≤ r) = zs.any p ∧ w = w'

set_option maxHeartbeats 400000 in
theorem indexFuncI (F : Nat) (eF : ∀ args w, (callFunc F args).run Tryz.prog w = .ok (.enter F args) w) (p : Int → Bool) (a : Option Addr) (n cap : Nat) (zs : List Int) (w : World) (h : IntsAt w a n cap zs) (hF : TestI F p zs) :
    Calls Tryz.prog 152 #[.slice a n cap, .func (.func F) #[] #[]] w (IdxI p zs w) := by
  have hcap2 := h.row.cap
  have hle2 := h.row.le
  unfold maxLen at hcap2
  have H := Lib.hid h
  have HF := Lib.hid hF
  clear h hF
  go_enter Tryz.func152, Tryz.ntmps152
  go_wp2
  go_loop [8] (fun i => ∃ k : Nat, k ≤ n ∧ i = .int .i64 k ∧ Hid (∀ j, j < k → p (zs.getD j 0) = false)) (fun i => n - (intOf i).toNat)
  case atStart => exact ⟨0, Nat.zero_le _, rfl, fun j hj => absurd hj (Nat.not_lt_zero _)⟩
  case round =>
    obtain ⟨k, hk, rfl, hrel⟩ := hrel
    by_cases hlt : k < n
    · obtain ⟨b, o, rfl, hc⟩ := H.out.row.at_ (by omega)
      have c1 := hc k hlt
      have hm := mem_getD zs k (by rw [H.out.len]; exact hlt)
      have hcall := HF.out _ hm
      obtain ⟨z, hz⟩ : ∃ z, z = zs.getD k 0 := ⟨_, rfl⟩
      rw [← hz] at c1 hm hcall
      have HZ := Lib.hid hz
      have HM := Lib.hid hm
      clear hc hz hm
      cases hq : p z with
      | true =>
        have HQ := Lib.hid hq
        simp only [hq] at hcall
        clear hq
        go_wp2_with (go_at_fn F; refine (hcall _).mono ?_; rintro e w' ⟨rfl, rfl⟩)
        go_ret
        exact ⟨k, rfl, by rw [List.any_eq_true.2 ⟨z, HM.out, HQ.out⟩]; exact decide_eq_true (by omega), rfl⟩
      | false =>
        have HQ := Lib.hid hq
        simp only [hq] at hcall
        clear hq
        go_wp2_with (go_at_fn F; refine (hcall _).mono ?_; rintro e w' ⟨rfl, rfl⟩)
        go_round
        case rel => exact ⟨k + 1, by omega, by go_num, fun j hj => by
          by_cases e : j = k
          · subst e; rw [← HZ.out]; exact HQ.out
          · exact hrel.out j (by omega)⟩
        case measure => simp [intOf]; omega
    · obtain rfl : k = n := by omega
      go_wp2
      go_ret
      refine ⟨-1, rfl, ?_, rfl⟩
      have : zs.any p = false := by
        rw [List.any_eq_false]
        intro x hx
        obtain ⟨j, hj, e⟩ := List.getElem_of_mem hx
        have := hrel.out j (by rw [← H.out.len]; exact hj)
        rw [List.getD_eq_getElem?_getD, List.getElem?_eq_getElem hj, Option.getD_some, e] at this
        rw [this]; simp
      rw [this]; rfl
theorem containsFuncI (F : Nat) (eF : ∀ args w, (callFunc F args).run Tryz.prog w = .ok (.enter F args) w) (p : Int → Bool) (a : Option Addr) (n cap : Nat) (zs : List Int) (w : World) (h : IntsAt w a n cap zs) (hF : TestI F p zs) :
    Calls Tryz.prog 119 #[.slice a n cap, .func (.func F) #[] #[]] w fun e w' => e = .returned (.bool (zs.any p)) ∧ w = w' := by
  have H := Lib.hid h
  have HF := Lib.hid hF
  clear h hF
  obtain ⟨Y, hY⟩ : ∃ Y, Y = zs.any p := ⟨_, rfl⟩
  rw [← hY]
  have HY := Lib.hid hY
  clear hY
  go_enter Tryz.func119, Tryz.ntmps119
  go_wp2_with fail
  refine (indexFuncI F eF p a n cap zs _ H.out HF.out).mono ?_
  rintro e w' ⟨r, rfl, hr, rfl⟩
  rw [← HY.out] at hr
  have HR := Lib.hid hr
  clear hr
  go_wp2
  go_ret
  exact ⟨congrArg (fun b => Ending.returned (.bool b)) HR.out, rfl⟩
end Go.Proofs.YtheimfdbadjpoaaGreatDoor

namespace Go.Proofs.YtheimfdbadjpoaaGreatDoor

def sideB (n : Int) : Bool := decide (1 ≤ n ∧ n ≤ 6)
def pixB (n : Int) : Bool := decide (0 ≤ n ∧ n ≤ 255)
def chkPic (wd hg : Int) (zs : List Int) : Nat :=
  if sideB wd = false ∨ sideB hg = false then 1 else if (zs.length : Int) ≠ wd * hg then 3 else if zs.any (fun z => !pixB z) = true then 1 else 0
structure PicOk (wd hg : Int) (zs : List Int) : Prop where
  w1 : 1 ≤ wd
  w6 : wd ≤ 6
  h1 : 1 ≤ hg
  h6 : hg ≤ 6
  len : (zs.length : Int) = wd * hg
  pix : ∀ z ∈ zs, 0 ≤ z ∧ z ≤ 255
theorem chkPic_ok {wd hg : Int} {zs : List Int} (h : chkPic wd hg zs = 0) : PicOk wd hg zs := by
  unfold chkPic at h
  repeat' split at h
  all_goals first | omega | skip
  rename_i h1 h2 h3
  have h1a : sideB wd = true := by cases hq : sideB wd <;> simp_all
  have h1b : sideB hg = true := by cases hq : sideB hg <;> simp_all
  simp only [sideB, decide_eq_true_eq] at h1a h1b
  refine ⟨h1a.1, h1a.2, h1b.1, h1b.2, by omega, fun z hz => ?_⟩
  have h4 : pixB z = true := by
    cases hq : pixB z
    · exact absurd (List.any_eq_true.2 ⟨z, hz, by rw [hq]; rfl⟩) h3
    · rfl
  simpa [pixB] using h4
theorem chkPic_of {wd hg : Int} {zs : List Int} (h : PicOk wd hg zs) : chkPic wd hg zs = 0 := by
  obtain ⟨h1, h2, h3, h4, h5, h6⟩ := h
  have e1 : sideB wd = true := decide_eq_true ⟨h1, h2⟩
  have e2 : sideB hg = true := decide_eq_true ⟨h3, h4⟩
  unfold chkPic
  rw [if_neg (by simp [e1, e2]), if_neg (by omega), if_neg]
  intro hc
  obtain ⟨z, hz, hq⟩ := List.any_eq_true.1 hc
  have : pixB z = true := decide_eq_true (h6 z hz)
  rw [this] at hq; cases hq
theorem PicOk.len_le {wd hg : Int} {zs : List Int} (h : PicOk wd hg zs) : 1 ≤ zs.length ∧ zs.length ≤ 36 := by
  obtain ⟨h1, h2, h3, h4, h5, _⟩ := h
  have a1 : wd * hg ≤ 6 * 6 := Int.mul_le_mul h2 h4 (by omega) (by omega)
  have a2 : 1 * 1 ≤ wd * hg := Int.mul_le_mul h1 h3 (by omega) (by omega)
  omega

def apt (a b : Int) : Int := max (a - b) (b - a)
theorem apt_self (a : Int) : apt a a = 0 := by unfold apt; omega
theorem apt_comm (a b : Int) : apt a b = apt b a := by unfold apt; omega
theorem apt_nonneg (a b : Int) : 0 ≤ apt a b := by unfold apt; omega
theorem apt_zero {a b : Int} (h : apt a b ≤ 0) : a = b := by unfold apt at h; omega
theorem apt_tri (a b c : Int) : apt a b ≤ apt a c + apt c b := by unfold apt; omega
def unl (zs ys : List Int) : Nat → Int
  | 0 => 0
  | k + 1 => max (unl zs ys k) (apt (zs.getD k 0) (ys.getD k 0))
theorem unl_nonneg (zs ys : List Int) : ∀ k, 0 ≤ unl zs ys k
  | 0 => Int.le_refl _
  | k + 1 => by have := unl_nonneg zs ys k; unfold unl; omega
theorem unl_le {zs ys : List Int} {c : Int} : ∀ {k}, unl zs ys k ≤ c ↔ 0 ≤ c ∧ ∀ j, j < k → apt (zs.getD j 0) (ys.getD j 0) ≤ c
  | 0 => by simp [unl]
  | k + 1 => by
    unfold unl
    have ih := unl_le (zs := zs) (ys := ys) (c := c) (k := k)
    constructor
    · intro h
      have h1 := ih.1 (by omega)
      refine ⟨h1.1, fun j hj => ?_⟩
      by_cases e : j = k
      · subst e; omega
      · exact h1.2 j (by omega)
    · intro ⟨h0, h⟩
      have h1 := ih.2 ⟨h0, fun j hj => h j (by omega)⟩
      have h2 := h k (by omega)
      omega
theorem unl_at (zs ys : List Int) (k j : Nat) (h : j < k) : apt (zs.getD j 0) (ys.getD j 0) ≤ unl zs ys k := (unl_le.1 (Int.le_refl _)).2 j h
theorem unl_comm (zs ys : List Int) : ∀ k, unl zs ys k = unl ys zs k
  | 0 => rfl
  | k + 1 => by unfold unl; rw [unl_comm zs ys k, apt_comm]
theorem unl_tri (zs ys xs : List Int) (k : Nat) : unl zs ys k ≤ unl zs xs k + unl xs ys k := by
  rw [unl_le]
  have h1 := unl_nonneg zs xs k
  have h2 := unl_nonneg xs ys k
  refine ⟨by omega, fun j hj => ?_⟩
  have a1 := unl_at zs xs k j hj
  have a2 := unl_at xs ys k j hj
  have a3 := apt_tri (zs.getD j 0) (ys.getD j 0) (xs.getD j 0)
  omega
theorem getD_ext {zs ys : List Int} (hl : zs.length = ys.length) (h : ∀ j, j < zs.length → zs.getD j 0 = ys.getD j 0) : zs = ys := by
  apply List.ext_getElem hl
  intro j h1 h2
  have := h j h1
  rw [List.getD_eq_getElem?_getD, List.getD_eq_getElem?_getD, List.getElem?_eq_getElem h1, List.getElem?_eq_getElem h2] at this
  exact this
theorem unl_zero (zs ys : List Int) (hl : zs.length = ys.length) : unl zs ys zs.length = 0 ↔ zs = ys := by
  constructor
  · intro h
    refine getD_ext hl fun j hj => apt_zero ?_
    have := unl_at zs ys zs.length j hj
    omega
  · rintro rfl
    have h1 := unl_nonneg zs zs zs.length
    have h2 : unl zs zs zs.length ≤ 0 := unl_le.2 ⟨Int.le_refl _, fun j _ => by rw [apt_self]; exact Int.le_refl _⟩
    omega
theorem getD_pix {zs : List Int} (h : ∀ z ∈ zs, 0 ≤ z ∧ z ≤ 255) (j : Nat) : 0 ≤ zs.getD j 0 ∧ zs.getD j 0 ≤ 255 := by
  rw [List.getD_eq_getElem?_getD]
  by_cases hj : j < zs.length
  · rw [List.getElem?_eq_getElem hj]; exact h _ (List.getElem_mem hj)
  · rw [List.getElem?_eq_none (by omega)]; simp
theorem unl_bd {zs ys : List Int} (h1 : ∀ z ∈ zs, 0 ≤ z ∧ z ≤ 255) (h2 : ∀ z ∈ ys, 0 ≤ z ∧ z ≤ 255) (k : Nat) : 0 ≤ unl zs ys k ∧ unl zs ys k ≤ 255 :=
  ⟨unl_nonneg _ _ _, unl_le.2 ⟨by omega, fun j _ => by have := getD_pix h1 j; have := getD_pix h2 j; unfold apt; omega⟩⟩

def insd (n side : Int) : Int := max 0 (min (side - 1) n)
theorem insd_bd (n side : Int) (h : 1 ≤ side) : 0 ≤ insd n side ∧ insd n side < side := by unfold insd; omega
def srcI (wd hg mx my : Int) (x y : Nat) : Int := insd (y - my) hg * wd + insd (x - mx) wd
theorem srcI_bd (wd hg mx my : Int) (x y : Nat) (h1 : 1 ≤ wd) (h2 : 1 ≤ hg) : 0 ≤ srcI wd hg mx my x y ∧ srcI wd hg mx my x y < wd * hg := by
  have a := insd_bd (y - my) hg h2
  have b := insd_bd (x - mx) wd h1
  unfold srcI
  have p0 : 0 ≤ insd (y - my) hg * wd := Int.mul_nonneg a.1 (by omega)
  have p1 : insd (y - my) hg * wd ≤ (hg - 1) * wd := Int.mul_le_mul_of_nonneg_right (by omega) (by omega)
  have p2 : (hg - 1) * wd = wd * hg - wd := by rw [Int.sub_mul, Int.one_mul, Int.mul_comm]
  omega
def shf (wd hg : Nat) (zs : List Int) (mx my : Int) (k : Nat) : List Int :=
  (List.range k).map fun i => zs.getD (srcI wd hg mx my (i % wd) (i / wd)).toNat 0
theorem shf_length (wd hg : Nat) (zs : List Int) (mx my : Int) (k : Nat) : (shf wd hg zs mx my k).length = k := by simp [shf]
theorem shf_getD (wd hg : Nat) (zs : List Int) (mx my : Int) (k j : Nat) (h : j < k) : (shf wd hg zs mx my k).getD j 0 = zs.getD (srcI wd hg mx my (j % wd) (j / wd)).toNat 0 := by
  rw [List.getD_eq_getElem?_getD, List.getElem?_eq_getElem (by rw [shf_length]; exact h)]
  simp [shf]
theorem shf_succ (wd hg : Nat) (zs : List Int) (mx my : Int) (y x : Nat) (hx : x < wd) :
    shf wd hg zs mx my (y * wd + x + 1) = shf wd hg zs mx my (y * wd + x) ++ [zs.getD (srcI wd hg mx my x y).toNat 0] := by
  unfold shf
  rw [List.range_succ, List.map_append]
  have e1 : (y * wd + x) % wd = x := by rw [Nat.mul_comm, Nat.mul_add_mod, Nat.mod_eq_of_lt hx]
  have e2 : (y * wd + x) / wd = y := by rw [Nat.mul_comm, Nat.mul_add_div (by omega), Nat.div_eq_of_lt hx, Nat.add_zero]
  simp [e1, e2]
theorem shf_mem {wd hg : Nat} {zs : List Int} {mx my : Int} {k : Nat} (h : ∀ z ∈ zs, 0 ≤ z ∧ z ≤ 255) : ∀ z ∈ shf wd hg zs mx my k, 0 ≤ z ∧ z ≤ 255 := by
  intro z hz
  obtain ⟨i, _, rfl⟩ := List.mem_map.1 hz
  exact getD_pix h _
theorem shf_unl (wd hg : Nat) (zs ys : List Int) (mx my : Int) (k m : Nat) (hw : 1 ≤ wd) (hh : 1 ≤ hg) (hm : wd * hg = m) : unl (shf wd hg zs mx my k) (shf wd hg ys mx my k) k ≤ unl zs ys m := by
  rw [unl_le]
  refine ⟨unl_nonneg _ _ _, fun j hj => ?_⟩
  rw [shf_getD _ _ _ _ _ _ _ hj, shf_getD _ _ _ _ _ _ _ hj]
  have hs := srcI_bd wd hg mx my (j % wd) (j / wd) (by omega) (by omega)
  refine unl_at _ _ _ _ ?_
  rw [← Int.natCast_mul, hm] at hs
  omega
theorem insd_id (n side : Nat) (h : n < side) : insd ((n : Int) - 0) side = n := by unfold insd; omega
theorem srcI_none (wd hg : Nat) (j : Nat) (hw : 1 ≤ wd) (hj : j < wd * hg) : (srcI wd hg 0 0 (j % wd) (j / wd)).toNat = j := by
  have h1 := Nat.mod_lt j hw
  have h2 : j / wd < hg := Nat.div_lt_of_lt_mul hj
  unfold srcI
  rw [insd_id _ _ h1, insd_id _ _ h2]
  have h3 := Nat.div_add_mod j wd
  rw [← Int.natCast_mul, Nat.mul_comm, ← Int.natCast_add, h3]
  rfl
theorem shf_none (wd hg : Nat) (zs : List Int) (hw : 1 ≤ wd) (hl : zs.length = wd * hg) : shf wd hg zs 0 0 zs.length = zs := by
  refine getD_ext (shf_length _ _ _ _ _ _) fun j hj => ?_
  rw [shf_length] at hj
  rw [shf_getD _ _ _ _ _ _ _ hj, srcI_none _ _ _ hw (by omega)]
theorem shf_flat (wd hg : Nat) (c : Int) (m : Nat) (mx my : Int) (k : Nat) (hw : 1 ≤ wd) (hh : 1 ≤ hg) (hm : wd * hg = m) : shf wd hg (List.replicate m c) mx my k = List.replicate k c := by
  refine getD_ext (by rw [shf_length, List.length_replicate]) fun j hj => ?_
  rw [shf_length] at hj
  have hs := srcI_bd wd hg mx my (j % wd) (j / wd) (by omega) (by omega)
  rw [← Int.natCast_mul, hm] at hs
  rw [shf_getD _ _ _ _ _ _ _ hj, List.getD_eq_getElem?_getD, List.getD_eq_getElem?_getD, List.getElem?_replicate, List.getElem?_replicate, if_pos (by omega), if_pos hj]

def nearN (n s : Int) : Int := (n + s / 2) / s
def near (n s : Int) : Int := if n < 0 then - nearN (-n) s else nearN n s
theorem nearN_bd (n s : Int) (hn : 0 ≤ n) (hs : 1 ≤ s) : 0 ≤ nearN n s ∧ - (s / 2) ≤ n - nearN n s * s ∧ n - nearN n s * s ≤ s / 2 := by
  unfold nearN
  obtain ⟨q, hq⟩ : ∃ q, q = (n + s / 2) / s := ⟨_, rfl⟩
  have h1 := Int.emod_add_mul_ediv (n + s / 2) s
  have h2 := Int.emod_nonneg (n + s / 2) (show s ≠ 0 by omega)
  have h3 := Int.emod_lt_of_pos (n + s / 2) (show 0 < s by omega)
  have h4 : 0 ≤ (n + s / 2) / s := Int.ediv_nonneg (by omega) (by omega)
  rw [← hq] at h1 h4 ⊢
  rw [Int.mul_comm] at h1
  generalize q * s = m at *
  omega
theorem near_half (n s : Int) (hs : 1 ≤ s) : - (s / 2) ≤ n - near n s * s ∧ n - near n s * s ≤ s / 2 := by
  unfold near
  split
  · have := nearN_bd (-n) s (by omega) hs
    rw [Int.neg_mul]
    omega
  · have := nearN_bd n s (by omega) hs
    omega
theorem nearN_le (n s : Int) (hn : 0 ≤ n) (hs : 1 ≤ s) (b : Int) (hb : n ≤ b) : nearN n s ≤ b := by
  have h := nearN_bd n s hn hs
  by_cases h0 : nearN n s ≤ 0
  · omega
  · have h1 : nearN n s * 1 ≤ nearN n s * s := Int.mul_le_mul_of_nonneg_left hs h.1
    by_cases h2 : s = 1
    · subst h2; omega
    · have h3 : (nearN n s) * 2 ≤ nearN n s * s := Int.mul_le_mul_of_nonneg_left (by omega) h.1
      have h4 : s ≤ nearN n s * s := by
        have := Int.mul_le_mul_of_nonneg_right (show 1 ≤ nearN n s by omega) (show 0 ≤ s by omega)
        omega
      omega
theorem near_bd (n s : Int) (hs : 1 ≤ s) (b : Int) (h1 : -b ≤ n) (h2 : n ≤ b) : -b ≤ near n s ∧ near n s ≤ b := by
  unfold near
  split
  · have := nearN_le (-n) s (by omega) hs b (by omega)
    have := nearN_bd (-n) s (by omega) hs
    omega
  · have := nearN_le n s (by omega) hs b (by omega)
    have := nearN_bd n s (by omega) hs
    omega
theorem near_one (n : Int) : near n 1 = n := by have := near_half n 1 (by omega); omega
theorem near_zero (s : Int) (hs : 1 ≤ s) : near 0 s = 0 := by have := near_bd 0 s hs 0 (by omega) (by omega); omega
def clamp (n : Int) : Int := max 0 (min 255 n)
theorem clamp_bd (n : Int) : 0 ≤ clamp n ∧ clamp n ≤ 255 := by unfold clamp; omega
theorem clamp_id (n : Int) (h : 0 ≤ n) (h2 : n ≤ 255) : clamp n = n := by unfold clamp; omega
theorem told_near (x g s : Int) (hs : 1 ≤ s) (h0 : 0 ≤ x) (h1 : x ≤ 255) : apt x (clamp (g + near (x - g) s * s)) ≤ s / 2 := by
  have := near_half (x - g) s hs
  unfold apt clamp
  omega
end Go.Proofs.YtheimfdbadjpoaaGreatDoor

namespace Go.Proofs.YtheimfdbadjpoaaGreatDoor
open Go.ChangeShapes Go.WideShapes Go.ChangeAt Go.RowKit

theorem bool_ret {a b : Bool} (h : a = b) : Ending.returned (.bool a) = .returned (.bool b) := by rw [h]
theorem side_any (n : Int) (w : World) :
    Calls Tryz.prog 62 #[.int .i64 n] w fun e w' => e = .returned (.bool (sideB n)) ∧ w = w' := by
  go_enter Tryz.func62, Tryz.ntmps62
  go_wp2
  all_goals
    go_ret
    exact ⟨bool_ret (by simp [sideB] <;> omega), rfl⟩
theorem pixel_any (n : Int) (w : World) :
    Calls Tryz.prog 122 #[.int .i64 n] w fun e w' => e = .returned (.bool (pixB n)) ∧ w = w' := by
  go_enter Tryz.func122, Tryz.ntmps122
  go_wp2
  all_goals
    go_ret
    exact ⟨bool_ret (by simp [pixB] <;> omega), rfl⟩
theorem pixTest (zs : List Int) : TestI 121 (fun z => !pixB z) zs := by
  intro z _ w
  go_enter Tryz.func121, Tryz.ntmps121
  go_wp2_with (go_at_call 122; refine (pixel_any z _).mono ?_; rintro e w' ⟨rfl, rfl⟩)
  go_ret
  exact ⟨rfl, rfl⟩

abbrev picV (wd hg : Int) (a : Option Addr) (n cap : Nat) : Value := .agg #[.int .i64 wd, .int .i64 hg, .slice a n cap]
theorem any_eno {n m : Nat} (h : n = m) (h0 : m ≠ 0) : eno m = errv n := by subst h; exact (errv_pos h0).symm
theorem any_nil {n : Nat} (h : n = 0) : (.nilIface : Value) = errv n := (errv_zero h).symm
theorem pchk_any (wd hg : Int) (a : Option Addr) (n cap : Nat) (zs : List Int) (w : World) (h : IntsAt w a n cap zs) :
    Calls Tryz.prog 80 #[picV wd hg a n cap] w fun e w' => e = .returned (errv (chkPic wd hg zs)) ∧ Lat w w' := by
  obtain ⟨C, hC⟩ : ∃ C, C = chkPic wd hg zs := ⟨_, rfl⟩
  rw [← hC]
  have hl := h.len
  have HC := Lib.hid hC
  have HL := Lib.hid hl
  have H := Lib.hid (h.keep (Lat.alloc w (.cells #[.int .i64 wd, .int .i64 hg, .slice a n cap] 33)))
  clear hC h hl
  cases hs : sideB wd with
  | false =>
    have e1 : C = 1 := by rw [HC.out]; unfold chkPic; rw [if_pos (.inl hs)]
    rw [e1]
    clear e1
    go_enter Tryz.func80, Tryz.ntmps80
    go_wp2_with (go_at_call 62; refine (side_any _ _).mono ?_; rintro e w' ⟨rfl, rfl⟩)
    go_ret
    exact ⟨rfl, Lat.alloc _ _⟩
  | true =>
  cases hs2 : sideB hg with
  | false =>
    have e1 : C = 1 := by rw [HC.out]; unfold chkPic; rw [if_pos (.inr hs2)]
    rw [e1]
    clear e1
    go_enter Tryz.func80, Tryz.ntmps80
    go_wp2_with (go_at_call 62; refine (side_any _ _).mono ?_; rintro e w' ⟨rfl, rfl⟩)
    go_ret
    exact ⟨rfl, Lat.alloc _ _⟩
  | true =>
  have b1 : 1 ≤ wd ∧ wd ≤ 6 := by simpa [sideB] using hs
  have b2 : 1 ≤ hg ∧ hg ≤ 6 := by simpa [sideB] using hs2
  obtain ⟨m, hm⟩ : ∃ m, m = wd * hg := ⟨_, rfl⟩
  have m1 : wd * hg ≤ 36 := Int.mul_le_mul b1.2 b2.2 (by omega) (by omega)
  have m2 : 0 ≤ wd * hg := Int.mul_nonneg (by omega) (by omega)
  have hne : ¬ (sideB wd = false ∨ sideB hg = false) := by simp [hs, hs2]
  have HN := Lib.hid hne
  clear hne b1 b2 hm
  by_cases hl : (n : Int) = wd * hg
  case neg =>
    have e1 : C = 3 := by rw [HC.out]; unfold chkPic; rw [if_neg HN.out, if_pos (by rw [HL.out]; exact hl)]
    have d1 : ((n : Int) != wd * hg) = true := by rw [bne_iff_ne]; exact hl
    rw [e1]
    clear e1 hl
    go_enter Tryz.func80, Tryz.ntmps80
    go_wp2_with (go_at_call 62; refine (side_any _ _).mono ?_; rintro e w' ⟨rfl, rfl⟩)
    go_ret
    exact ⟨rfl, Lat.alloc _ _⟩
  have d1 : ((n : Int) != wd * hg) = false := by rw [bne_eq_false_iff_eq]; exact hl
  have e0 : C = if zs.any (fun z => !pixB z) = true then 1 else 0 := by rw [HC.out]; unfold chkPic; rw [if_neg HN.out, if_neg (by rw [HL.out]; exact fun h => h hl)]
  clear hl
  cases ha : zs.any (fun z => !pixB z) with
  | true =>
    have e1 : C = 1 := by rw [e0, if_pos ha]
    rw [e1]
    have HA := Lib.hid ha
    clear e1 e0 ha
    go_enter Tryz.func80, Tryz.ntmps80
    go_wp2_with (first | (go_at_call 62; refine (side_any _ _).mono ?_; rintro e w' ⟨rfl, rfl⟩) | (go_at_call 119; refine (containsFuncI _ (enters_of Tryz.func121 (by kernel_rfl) rfl) _ a n cap zs _ H.out (pixTest zs)).mono ?_; rw [HA.out]; rintro e w' ⟨rfl, rfl⟩))
    go_ret
    exact ⟨rfl, Lat.alloc _ _⟩
  | false =>
    have e1 : C = 0 := by rw [e0, if_neg (by rw [ha]; simp)]
    rw [e1]
    have HA := Lib.hid ha
    clear e1 e0 ha
    go_enter Tryz.func80, Tryz.ntmps80
    go_wp2_with (first | (go_at_call 62; refine (side_any _ _).mono ?_; rintro e w' ⟨rfl, rfl⟩) | (go_at_call 119; refine (containsFuncI _ (enters_of Tryz.func121 (by kernel_rfl) rfl) _ a n cap zs _ H.out (pixTest zs)).mono ?_; rw [HA.out]; rintro e w' ⟨rfl, rfl⟩))
    go_ret
    exact ⟨rfl, Lat.alloc _ _⟩
end Go.Proofs.YtheimfdbadjpoaaGreatDoor

namespace Go.Proofs.YtheimfdbadjpoaaGreatDoor
open Go.ChangeShapes Go.WideShapes Go.ChangeAt Go.RowKit

theorem int_ret {k : IntKind} {a b : Int} (h : a = b) : Ending.returned (.int k a) = .returned (.int k b) := by rw [h]
theorem apart_any (a b : Int) (w : World) (h1 : -100000 ≤ a) (h2 : a ≤ 100000) (h3 : -100000 ≤ b) (h4 : b ≤ 100000) :
    Calls Tryz.prog 63 #[.int .i64 a, .int .i64 b] w fun e w' => e = .returned (.int .i64 (apt a b)) ∧ w = w' := by
  go_enter Tryz.func63, Tryz.ntmps63
  go_wp2
  all_goals
    go_ret
    exact ⟨int_ret (by unfold apt; omega), rfl⟩
theorem inside_any (n s : Int) (w : World) (h1 : -100000 ≤ n) (h2 : n ≤ 100000) (h3 : 0 ≤ s) (h4 : s ≤ 100000) :
    Calls Tryz.prog 124 #[.int .i64 n, .int .i64 s] w fun e w' => e = .returned (.int .i64 (insd n s)) ∧ w = w' := by
  go_enter Tryz.func124, Tryz.ntmps124
  go_wp2
  all_goals
    go_ret
    exact ⟨int_ret (by have := h1; have := h2; unfold insd; omega), rfl⟩

structure Cells3 (w : World) (g o : Nat) (x y z : Value) : Prop where
  c0 : w.cell? ⟨g, o, none⟩ = some x
  c1 : w.cell? ⟨g, o + 1, none⟩ = some y
  c2 : w.cell? ⟨g, o + 2, none⟩ = some z
theorem Cells3.keep {w w' : World} {g o : Nat} {x y z : Value} (h : Cells3 w g o x y z) (hb : Lat w w') : Cells3 w' g o x y z := ⟨hb.cell_at h.c0, hb.cell_at h.c1, hb.cell_at h.c2⟩

theorem cell_new {w : World} {cs : Array Value} {t : TypeId} {g j : Nat} {v : Value} (h : g = w.heap.size) (hv : cs[j]? = some v) : (w.alloc (.cells cs t)).cell? ⟨g, j, none⟩ = some v := by
  rw [World.cell?_alloc_at _ _ _ _ h]; exact hv

theorem cells3_new {w : World} {cs : Array Value} {t : TypeId} {g o : Nat} {x y z : Value} (h : g = w.heap.size) (h0 : cs[o]? = some x) (h1 : cs[o + 1]? = some y) (h2 : cs[o + 2]? = some z) : Cells3 (w.alloc (.cells cs t)) g o x y z :=
  ⟨cell_new h h0, cell_new h h1, cell_new h h2⟩

def alkE (wd hg : Int) (zs : List Int) (wd2 hg2 : Int) (ys : List Int) : Nat :=
  if chkPic wd hg zs ≠ 0 then chkPic wd hg zs else if chkPic wd2 hg2 ys ≠ 0 then chkPic wd2 hg2 ys else if wd ≠ wd2 ∨ hg ≠ hg2 then 3 else 0
theorem alkE_zero {wd hg wd2 hg2 : Int} {zs ys : List Int} : alkE wd hg zs wd2 hg2 ys = 0 ↔ chkPic wd hg zs = 0 ∧ chkPic wd2 hg2 ys = 0 ∧ wd = wd2 ∧ hg = hg2 := by
  unfold alkE
  constructor
  · intro h
    repeat' split at h
    all_goals first | omega | skip
    all_goals omega
  · rintro ⟨h1, h2, h3, h4⟩
    rw [if_neg (by omega), if_neg (by omega), if_neg (by omega)]

set_option maxHeartbeats 1000000 in
theorem alike_any (wd hg : Int) (a : Option Addr) (n cap : Nat) (zs : List Int) (wd2 hg2 : Int) (b : Option Addr) (m cap2 : Nat) (ys : List Int) (w : World) (h : IntsAt w a n cap zs) (h2 : IntsAt w b m cap2 ys) :
    Calls Tryz.prog 37 #[picV wd hg a n cap, picV wd2 hg2 b m cap2] w fun e w' => e = .returned (errv (alkE wd hg zs wd2 hg2 ys)) ∧ Lat w w' := by
  obtain ⟨E, hE⟩ : ∃ E, E = alkE wd hg zs wd2 hg2 ys := ⟨_, rfl⟩
  obtain ⟨C1, hC1⟩ : ∃ E, E = chkPic wd hg zs := ⟨_, rfl⟩
  obtain ⟨C2, hC2⟩ : ∃ E, E = chkPic wd2 hg2 ys := ⟨_, rfl⟩
  rw [← hE]
  unfold alkE at hE
  rw [← hC1, ← hC2] at hE
  have HE := Lib.hid hE
  have HC1 := Lib.hid hC1
  have HC2 := Lib.hid hC2
  have H := Lib.hid h
  have H2 := Lib.hid h2
  clear hE hC1 hC2 h h2
  go_enter Tryz.func37, Tryz.ntmps37
  go_wp2_with fail
  go_loopw [12] (fun i wr => (i = .int .i64 0 ∨ (i = .int .i64 1 ∧ Hid (C1 = 0)) ∨ (i = .int .i64 2 ∧ Hid (C1 = 0 ∧ C2 = 0))) ∧
    Hid (Lat w wr ∧ Cells3 wr w.heap.size 0 (.int .i64 wd) (.int .i64 hg) (.slice a n cap) ∧ Cells3 wr (w.heap.size + 1) 0 (.int .i64 wd2) (.int .i64 hg2) (.slice b m cap2) ∧
      Cells3 wr (w.heap.size + 1 + 1) 0 (.int .i64 wd) (.int .i64 hg) (.slice a n cap) ∧ Cells3 wr (w.heap.size + 1 + 1) 3 (.int .i64 wd2) (.int .i64 hg2) (.slice b m cap2))) (fun i _ => 2 - (intOf i).toNat)
  case atStart => 
    refine ⟨.inl rfl, Lat.trans (Lat.trans (Lat.alloc _ _) (Lat.alloc _ _)) (Lat.alloc _ _), ((cells3_new rfl rfl rfl rfl).keep (Lat.alloc _ _)).keep (Lat.alloc _ _), (cells3_new (by simp) rfl rfl rfl).keep (Lat.alloc _ _), cells3_new (by simp) rfl rfl rfl, cells3_new (by simp) rfl rfl rfl⟩
  case round =>
    obtain ⟨hi, hrel⟩ := hrel
    obtain ⟨hb, q1, q2, q3, q4⟩ := hrel.out
    have HB := Lib.hid hb
    have Q1 := Lib.hid q1
    have Q2 := Lib.hid q2
    have Q3 := Lib.hid q3
    have Q4 := Lib.hid q4
    rcases hi with rfl | ⟨rfl, h1⟩ | ⟨rfl, h1⟩
    · have c0 : wr.cell? ⟨w.heap.size + 1 + 1, 0, none⟩ = _ := q3.c0
      have c1 : wr.cell? ⟨w.heap.size + 1 + 1, 1, none⟩ = _ := q3.c1
      have c2 : wr.cell? ⟨w.heap.size + 1 + 1, 2, none⟩ = _ := q3.c2
      clear hb q1 q2 q3 q4 hrel
      have hc := pchk_any wd hg a n cap zs (wr.alloc (.cells #[.int .i64 wd, .int .i64 hg, .slice a n cap] 33)) ((H.out.keep HB.out).keep (Lat.alloc _ _))
      rw [← HC1.out] at hc
      by_cases hz : C1 = 0
      · rw [errv_zero hz] at hc
        have HCC := Lib.hid hc
        have HZ := Lib.hid hz
        clear hc hz
        go_wp2_with fail
        refine HCC.out.mono ?_
        rintro e w1 ⟨rfl, hb1⟩
        have hb2 := Lat.trans (Lat.alloc wr (.cells #[.int .i64 wd, .int .i64 hg, .slice a n cap] 33)) hb1
        have HB2 := Lib.hid hb2
        clear hb1 hb2
        go_wp2
        go_roundw
        case rel => exact ⟨.inr (.inl ⟨rfl, HZ.out⟩), Lat.trans HB.out HB2.out, Q1.out.keep HB2.out, Q2.out.keep HB2.out, Q3.out.keep HB2.out, Q4.out.keep HB2.out⟩
        case measure => simp [intOf]
      · rw [errv_pos hz] at hc
        have hfin : E = C1 := by rw [HE.out, if_pos hz]
        have HF := Lib.hid hfin
        have HCC := Lib.hid hc
        have HZ := Lib.hid hz
        clear hc hz hfin
        go_wp2_with fail
        refine HCC.out.mono ?_
        rintro e w1 ⟨rfl, hb1⟩
        go_wp2
        go_ret
        exact ⟨by rw [HF.out, errv_pos HZ.out]; rfl, Lat.trans HB.out (Lat.trans (Lat.alloc _ _) hb1)⟩
    · have c0 : wr.cell? ⟨w.heap.size + 1 + 1, 3, none⟩ = _ := q4.c0
      have c1 : wr.cell? ⟨w.heap.size + 1 + 1, 4, none⟩ = _ := q4.c1
      have c2 : wr.cell? ⟨w.heap.size + 1 + 1, 5, none⟩ = _ := q4.c2
      clear hb q1 q2 q3 q4 hrel
      have hc := pchk_any wd2 hg2 b m cap2 ys (wr.alloc (.cells #[.int .i64 wd2, .int .i64 hg2, .slice b m cap2] 33)) ((H2.out.keep HB.out).keep (Lat.alloc _ _))
      rw [← HC2.out] at hc
      by_cases hz : C2 = 0
      · rw [errv_zero hz] at hc
        have HCC := Lib.hid hc
        have HZ := Lib.hid hz
        clear hc hz
        go_wp2_with fail
        refine HCC.out.mono ?_
        rintro e w1 ⟨rfl, hb1⟩
        have hb2 := Lat.trans (Lat.alloc wr (.cells #[.int .i64 wd2, .int .i64 hg2, .slice b m cap2] 33)) hb1
        have HB2 := Lib.hid hb2
        clear hb1 hb2
        go_wp2
        go_roundw
        case rel => exact ⟨.inr (.inr ⟨rfl, h1.out, HZ.out⟩), Lat.trans HB.out HB2.out, Q1.out.keep HB2.out, Q2.out.keep HB2.out, Q3.out.keep HB2.out, Q4.out.keep HB2.out⟩
        case measure => simp [intOf]
      · rw [errv_pos hz] at hc
        have hfin : E = C2 := by rw [HE.out, if_neg (fun q => q h1.out), if_pos hz]
        have HF := Lib.hid hfin
        have HCC := Lib.hid hc
        have HZ := Lib.hid hz
        clear hc hz hfin
        go_wp2_with fail
        refine HCC.out.mono ?_
        rintro e w1 ⟨rfl, hb1⟩
        go_wp2
        go_ret
        exact ⟨by rw [HF.out, errv_pos HZ.out]; rfl, Lat.trans HB.out (Lat.trans (Lat.alloc _ _) hb1)⟩
    · have c0 : wr.cell? ⟨w.heap.size, 0, none⟩ = _ := q1.c0
      have c1 : wr.cell? ⟨w.heap.size, 1, none⟩ = _ := q1.c1
      have e0 : wr.cell? ⟨w.heap.size + 1, 0, none⟩ = _ := q2.c0
      have e1 : wr.cell? ⟨w.heap.size + 1, 1, none⟩ = _ := q2.c1
      clear hb q1 q2 q3 q4 hrel
      have hE2 : E = if wd ≠ wd2 ∨ hg ≠ hg2 then 3 else 0 := by rw [HE.out, if_neg (fun q => q h1.out.1), if_neg (fun q => q h1.out.2)]
      have HE2 := Lib.hid hE2
      clear hE2
      have hd : ((wd != wd2) = true ∧ E = 3) ∨ ((wd != wd2) = false ∧ (hg != hg2) = true ∧ E = 3) ∨ ((wd != wd2) = false ∧ (hg != hg2) = false ∧ E = 0) := by
        by_cases p1 : wd = wd2
        · by_cases p2 : hg = hg2
          · exact .inr (.inr ⟨by simp [p1], by simp [p2], by rw [HE2.out, if_neg (by simp [p1, p2])]⟩)
          · exact .inr (.inl ⟨by simp [p1], by simp [p2], by rw [HE2.out, if_pos (.inr p2)]⟩)
        · exact .inl ⟨by simp [p1], by rw [HE2.out, if_pos (.inl p1)]⟩
      rcases hd with ⟨d1, d2⟩ | ⟨d1, d2, d3⟩ | ⟨d1, d2, d3⟩
      · have D := Lib.hid d2
        clear d2
        go_wp2
        go_ret
        exact ⟨by rw [D.out]; rfl, HB.out⟩
      · have D := Lib.hid d3
        clear d3
        go_wp2
        go_ret
        exact ⟨by rw [D.out]; rfl, HB.out⟩
      · have D := Lib.hid d3
        clear d3
        go_wp2
        go_ret
        exact ⟨by rw [D.out]; rfl, HB.out⟩
end Go.Proofs.YtheimfdbadjpoaaGreatDoor

namespace Go.Proofs.YtheimfdbadjpoaaGreatDoor
open Go.ChangeShapes Go.WideShapes Go.ChangeAt Go.RowKit

set_option maxHeartbeats 1000000 in
theorem unlike_bad (wd hg : Int) (a : Option Addr) (n cap : Nat) (zs : List Int) (wd2 hg2 : Int) (b : Option Addr) (m cap2 : Nat) (ys : List Int) (w : World) (h : IntsAt w a n cap zs) (h2 : IntsAt w b m cap2 ys) (he : alkE wd hg zs wd2 hg2 ys ≠ 0) :
    Calls Tryz.prog 20 #[picV wd hg a n cap, picV wd2 hg2 b m cap2] w fun e w' => e = .returned (.tuple #[.int .i64 0, eno (alkE wd hg zs wd2 hg2 ys)]) ∧ Lat w w' := by
  have hL := Lat.trans (Lat.alloc w (.cells #[.int .i64 wd, .int .i64 hg, .slice a n cap] 33)) (Lat.alloc _ (.cells #[.int .i64 wd2, .int .i64 hg2, .slice b m cap2] 33))
  have hc := alike_any wd hg a n cap zs wd2 hg2 b m cap2 ys _ (h.keep hL) (h2.keep hL)
  rw [errv_pos he] at hc
  have HC := Lib.hid hc
  have HL := Lib.hid hL
  clear hc hL h h2 he
  go_enter Tryz.func20, Tryz.ntmps20
  go_wp2_with fail
  refine HC.out.mono ?_
  rintro e w1 ⟨rfl, hb1⟩
  go_wp2
  go_ret2
  exact ⟨rfl, Lat.trans HL.out hb1⟩

set_option maxHeartbeats 1000000 in
theorem unlike_ok (wd hg : Int) (a : Option Addr) (n cap : Nat) (zs : List Int) (wd2 hg2 : Int) (b : Option Addr) (m cap2 : Nat) (ys : List Int) (w : World) (h : IntsAt w a n cap zs) (h2 : IntsAt w b m cap2 ys) (he : alkE wd hg zs wd2 hg2 ys = 0) :
    Calls Tryz.prog 20 #[picV wd hg a n cap, picV wd2 hg2 b m cap2] w fun e w' => e = .returned (.tuple #[.int .i64 (unl zs ys n), .nilIface]) ∧ Lat w w' := by
  have hL := Lat.trans (Lat.alloc w (.cells #[.int .i64 wd, .int .i64 hg, .slice a n cap] 33)) (Lat.alloc _ (.cells #[.int .i64 wd2, .int .i64 hg2, .slice b m cap2] 33))
  have hc := alike_any wd hg a n cap zs wd2 hg2 b m cap2 ys _ (h.keep hL) (h2.keep hL)
  rw [errv_zero he] at hc
  obtain ⟨e1, e2, rfl, rfl⟩ := alkE_zero.1 he
  have o1 := chkPic_ok e1
  have o2 := chkPic_ok e2
  have hmn : m = n := by have := o1.len; have := o2.len; have := h.len; have := h2.len; omega
  have hn36 : n ≤ 36 := by have := o1.len_le; have := h.len; omega
  subst hmn
  have p1 := o1.pix
  have p2 := o2.pix
  have HC := Lib.hid hc
  have HL := Lib.hid hL
  have H := Lib.hid h
  have H2 := Lib.hid h2
  have P1 := Lib.hid p1
  have P2 := Lib.hid p2
  clear hc hL h h2 he o1 o2 e1 e2 p1 p2
  go_enter Tryz.func20, Tryz.ntmps20
  go_wp2_with fail
  refine HC.out.mono ?_
  rintro e w1 ⟨rfl, hb1⟩
  have k0 : w1.cell? ⟨w.heap.size, 2, none⟩ = some (.slice a m cap) := hb1.cell_at (by simp)
  have k1 : w1.cell? ⟨w.heap.size + 1, 2, none⟩ = some (.slice b m cap2) := hb1.cell_at (by simp)
  have hb := Lat.trans HL.out hb1
  have K1 := Lib.hid k1
  have HB := Lib.hid hb
  clear hb1 hb k1
  go_wp2_with fail
  go_loopw [7, 19] (fun v i wr => ∃ k : Nat, k ≤ m ∧ i = .int .i64 k ∧ v = .int .i64 (unl zs ys k) ∧ Hid (Lat w1 wr)) (fun _ i _ => m - (intOf i).toNat)
  case atStart => exact ⟨0, Nat.zero_le _, rfl, rfl, Lat.refl _⟩
  case round =>
    obtain ⟨k, hk, rfl, rfl, hrel⟩ := hrel
    by_cases hlt : k < m
    · have hz := getD_pix P1.out k
      have hy := getD_pix P2.out k
      have hu := unl_bd P1.out P2.out k
      obtain ⟨b1, o1, rfl, hc1⟩ := (H.out.keep (Lat.trans HB.out hrel.out)).row.at_ (by omega)
      obtain ⟨b2, o2, rfl, hc2⟩ := (H2.out.keep (Lat.trans HB.out hrel.out)).row.at_ (by omega)
      have c1 := hc1 k hlt
      have c2 := hc2 k hlt
      have c3 := hrel.out.cell_at K1.out
      have hst : unl zs ys (k + 1) = max (unl zs ys k) (apt (zs.getD k 0) (ys.getD k 0)) := rfl
      obtain ⟨z, hzd⟩ : ∃ z, z = zs.getD k 0 := ⟨_, rfl⟩
      obtain ⟨y, hyd⟩ : ∃ z, z = ys.getD k 0 := ⟨_, rfl⟩
      obtain ⟨U, hU⟩ : ∃ z, z = unl zs ys k := ⟨_, rfl⟩
      rw [← hzd] at c1 hz hst
      rw [← hyd] at c2 hy hst
      rw [← hU] at hu hst
      rw [← hU]
      have HST := Lib.hid hst
      have ha : 0 ≤ apt z y ∧ apt z y ≤ 255 := by unfold apt; omega
      obtain ⟨D, hD⟩ : ∃ d, d = apt z y := ⟨_, rfl⟩
      rw [← hD] at ha
      have HD := Lib.hid hD
      clear hc1 hc2 hzd hyd hst hU hD
      go_wp2_with (go_at_call 63; refine (apart_any z y _ (by omega) (by omega) (by omega) (by omega)).mono ?_; rw [← HD.out]; rintro e w' ⟨rfl, rfl⟩)
      all_goals
        go_roundw
        case rel => exact ⟨k + 1, by omega, by go_num, by rw [HST.out, ← HD.out] <;> congr 1 <;> omega, hrel.out⟩
        case measure => simp [intOf]; omega
    · obtain rfl : k = m := by omega
      go_wp2
      go_ret2
      exact ⟨rfl, Lat.trans HB.out hrel.out⟩

def sameI (zs ys : List Int) : Bool := decide (zs = ys)
theorem sameI_len {zs ys : List Int} (h : zs.length ≠ ys.length) : sameI zs ys = false := decide_eq_false fun e => h (by rw [e])
theorem sameI_at {zs ys : List Int} {k : Nat} (h : zs.getD k 0 ≠ ys.getD k 0) : sameI zs ys = false := decide_eq_false fun e => h (by rw [e])
def sameP (wd hg : Int) (zs : List Int) (wd2 hg2 : Int) (ys : List Int) : Bool := decide (wd = wd2 ∧ hg = hg2 ∧ zs = ys)
end Go.Proofs.YtheimfdbadjpoaaGreatDoor

namespace Go.Proofs.YtheimfdbadjpoaaGreatDoor

theorem getD_snoc_lt (l : List Int) (x : Int) (j : Nat) (h : j < l.length) : (l ++ [x]).getD j 0 = l.getD j 0 := by
  rw [List.getD_eq_getElem?_getD, List.getD_eq_getElem?_getD, List.getElem?_append_left h]
theorem getD_snoc_at (l : List Int) (x : Int) (j : Nat) (h : j = l.length) : (l ++ [x]).getD j 0 = x := by
  subst h
  rw [List.getD_eq_getElem?_getD, List.getElem?_append_right (Nat.le_refl _)]; simp

def gss (told : List Int) (wd : Nat) : Int :=
  if told.length = 0 then 128 else if told.length % wd = 0 then told.getD (told.length - wd) 0 else told.getD (told.length - 1) 0
theorem gss_bd {told : List Int} (h : ∀ z ∈ told, 0 ≤ z ∧ z ≤ 255) (wd : Nat) : 0 ≤ gss told wd ∧ gss told wd ≤ 255 := by
  unfold gss
  split
  · omega
  · split
    · exact getD_pix h _
    · exact getD_pix h _
def cod (zs : List Int) (wd : Nat) (s : Int) : Nat → List Int × List Int
  | 0 => ([], [])
  | k + 1 => ((cod zs wd s k).1 ++ [near (zs.getD k 0 - gss (cod zs wd s k).2 wd) s], (cod zs wd s k).2 ++ [clamp (gss (cod zs wd s k).2 wd + near (zs.getD k 0 - gss (cod zs wd s k).2 wd) s * s)])
def tel (rs : List Int) (wd : Nat) (s : Int) : Nat → List Int
  | 0 => []
  | k + 1 => tel rs wd s k ++ [clamp (gss (tel rs wd s k) wd + rs.getD k 0 * s)]
theorem cod_len (zs : List Int) (wd : Nat) (s : Int) : ∀ k, (cod zs wd s k).1.length = k ∧ (cod zs wd s k).2.length = k
  | 0 => ⟨rfl, rfl⟩
  | k + 1 => by have := cod_len zs wd s k; unfold cod; simp [this]
theorem tel_len (rs : List Int) (wd : Nat) (s : Int) : ∀ k, (tel rs wd s k).length = k
  | 0 => rfl
  | k + 1 => by have := tel_len rs wd s k; unfold tel; simp [this]
theorem cod_pix (zs : List Int) (wd : Nat) (s : Int) : ∀ k, ∀ z ∈ (cod zs wd s k).2, 0 ≤ z ∧ z ≤ 255
  | 0, z, h => by simp [cod] at h
  | k + 1, z, h => by
    unfold cod at h
    rcases List.mem_append.1 h with h | h
    · exact cod_pix zs wd s k z h
    · rw [List.mem_singleton] at h; subst h; exact clamp_bd _
theorem tel_pix (rs : List Int) (wd : Nat) (s : Int) : ∀ k, ∀ z ∈ tel rs wd s k, 0 ≤ z ∧ z ≤ 255
  | 0, z, h => by simp [tel] at h
  | k + 1, z, h => by
    unfold tel at h
    rcases List.mem_append.1 h with h | h
    · exact tel_pix rs wd s k z h
    · rw [List.mem_singleton] at h; subst h; exact clamp_bd _
theorem cod_rest (zs : List Int) (wd : Nat) (s : Int) : ∀ n j, j < n → (cod zs wd s n).1.getD j 0 = near (zs.getD j 0 - gss (cod zs wd s j).2 wd) s
  | 0, j, h => by omega
  | n + 1, j, h => by
    have hl := (cod_len zs wd s n).1
    by_cases e : j = n
    · subst e; rw [cod]; exact getD_snoc_at _ _ _ hl.symm
    · rw [cod, getD_snoc_lt _ _ _ (by omega)]; exact cod_rest zs wd s n j (by omega)
theorem cod_told (zs : List Int) (wd : Nat) (s : Int) : ∀ n j, j < n → (cod zs wd s n).2.getD j 0 = clamp (gss (cod zs wd s j).2 wd + near (zs.getD j 0 - gss (cod zs wd s j).2 wd) s * s)
  | 0, j, h => by omega
  | n + 1, j, h => by
    have hl := (cod_len zs wd s n).2
    by_cases e : j = n
    · subst e; rw [cod]; exact getD_snoc_at _ _ _ hl.symm
    · rw [cod, getD_snoc_lt _ _ _ (by omega)]; exact cod_told zs wd s n j (by omega)
theorem tel_cod (zs : List Int) (wd : Nat) (s : Int) (n : Nat) : ∀ k, k ≤ n → tel (cod zs wd s n).1 wd s k = (cod zs wd s k).2
  | 0, _ => rfl
  | k + 1, h => by
    have ih := tel_cod zs wd s n k (by omega)
    rw [tel, ih, cod_rest zs wd s n k (by omega), cod]
theorem cod_bd (zs : List Int) (wd : Nat) (s : Int) (hs : 1 ≤ s) (hz : ∀ z ∈ zs, 0 ≤ z ∧ z ≤ 255) : ∀ k, ∀ r ∈ (cod zs wd s k).1, -255 ≤ r ∧ r ≤ 255
  | 0, r, h => by simp [cod] at h
  | k + 1, r, h => by
    unfold cod at h
    rcases List.mem_append.1 h with h | h
    · exact cod_bd zs wd s hs hz k r h
    · rw [List.mem_singleton] at h; subst h
      have h1 := getD_pix hz k
      have h2 := gss_bd (cod_pix zs wd s k) wd
      exact near_bd _ s hs 255 (by omega) (by omega)
theorem cod_near (zs : List Int) (wd : Nat) (s : Int) (hs : 1 ≤ s) (hz : ∀ z ∈ zs, 0 ≤ z ∧ z ≤ 255) (n : Nat) : unl zs (cod zs wd s n).2 n ≤ s / 2 := by
  rw [unl_le]
  refine ⟨by omega, fun j hj => ?_⟩
  rw [cod_told zs wd s n j hj]
  have h1 := getD_pix hz j
  exact told_near _ _ s hs h1.1 h1.2
theorem cod_one (zs : List Int) (wd : Nat) (hz : ∀ z ∈ zs, 0 ≤ z ∧ z ≤ 255) : (cod zs wd 1 zs.length).2 = zs := by
  have h := cod_near zs wd 1 (by omega) hz zs.length
  have h0 := unl_nonneg zs (cod zs wd 1 zs.length).2 zs.length
  exact ((unl_zero zs _ (cod_len zs wd 1 zs.length).2.symm).1 (by omega)).symm
theorem replicate_snoc (k : Nat) (c : Int) : List.replicate k c ++ [c] = List.replicate (k + 1) c := by rw [List.replicate_succ']
theorem gss_flat (wd k : Nat) (hw : 1 ≤ wd) (hk : k % wd = 0 → k = 0 ∨ wd ≤ k) : gss (List.replicate k 128) wd = 128 := by
  unfold gss
  rw [List.length_replicate]
  split
  · rfl
  · rename_i h0
    split
    · rename_i h1
      rw [List.getD_eq_getElem?_getD, List.getElem?_replicate, if_pos (by have := hk h1; omega)]; rfl
    · rw [List.getD_eq_getElem?_getD, List.getElem?_replicate, if_pos (by omega)]; rfl
theorem cod_flat (wd m : Nat) (s : Int) (hs : 1 ≤ s) (hw : 1 ≤ wd) : ∀ k, k ≤ m → cod (List.replicate m 128) wd s k = (List.replicate k 0, List.replicate k 128)
  | 0, _ => rfl
  | k + 1, h => by
    have ih := cod_flat wd m s hs hw k (by omega)
    have hg := gss_flat wd k hw (fun h1 => by
      rcases Nat.eq_zero_or_pos k with h2 | h2
      · exact .inl h2
      · right
        rcases Nat.lt_or_ge k wd with h3 | h3
        · rw [Nat.mod_eq_of_lt h3] at h1; omega
        · exact h3)
    have hz : (List.replicate m (128 : Int)).getD k 0 = 128 := by rw [List.getD_eq_getElem?_getD, List.getElem?_replicate, if_pos (by omega)]; rfl
    have hn : near ((128 : Int) - 128) s = 0 := near_zero s hs
    have hc : clamp (128 + 0 * s) = 128 := by rw [Int.zero_mul]; rfl
    rw [cod, ih]
    simp only [hg, hz, hn, hc]
    rw [replicate_snoc, replicate_snoc]

def farS (zs ys : List Int) : Nat → Int
  | 0 => 0
  | k + 1 => farS zs ys k + apt (zs.getD k 0) (ys.getD k 0)
theorem farS_nonneg (zs ys : List Int) : ∀ k, 0 ≤ farS zs ys k
  | 0 => Int.le_refl _
  | k + 1 => by have := farS_nonneg zs ys k; have := apt_nonneg (zs.getD k 0) (ys.getD k 0); unfold farS; omega
theorem farS_le {zs ys : List Int} (h1 : ∀ z ∈ zs, 0 ≤ z ∧ z ≤ 255) (h2 : ∀ z ∈ ys, 0 ≤ z ∧ z ≤ 255) : ∀ k, farS zs ys k ≤ 255 * k
  | 0 => by simp [farS]
  | k + 1 => by
    have ih := farS_le h1 h2 k
    have a1 := getD_pix h1 k
    have a2 := getD_pix h2 k
    have : apt (zs.getD k 0) (ys.getD k 0) ≤ 255 := by unfold apt; omega
    unfold farS; omega
theorem farS_self (zs : List Int) : ∀ k, farS zs zs k = 0
  | 0 => rfl
  | k + 1 => by unfold farS; rw [farS_self zs k, apt_self]; rfl
theorem farS_zero {zs ys : List Int} : ∀ {k}, farS zs ys k = 0 → ∀ j, j < k → zs.getD j 0 = ys.getD j 0
  | 0, _, j, h => by omega
  | k + 1, h, j, hj => by
    unfold farS at h
    have h1 := farS_nonneg zs ys k
    have h2 := apt_nonneg (zs.getD k 0) (ys.getD k 0)
    by_cases e : j = k
    · subst e; exact apt_zero (by omega)
    · have h3 : farS zs ys k = 0 := by omega
      exact farS_zero h3 j (by omega)
theorem farS_eq {zs ys : List Int} (hl : zs.length = ys.length) (h : farS zs ys zs.length = 0) : zs = ys := getD_ext hl (farS_zero h)

def mvX (i : Nat) : Int := (i % 3 : Nat) - 1
def mvY (i : Nat) : Int := (i / 3 : Nat) - 1
def mfar (wd hg : Nat) (zs ys : List Int) (mx my : Int) : Int := farS (shf wd hg zs mx my zs.length) ys zs.length
def bst (wd hg : Nat) (zs ys : List Int) : Nat → Nat
  | 0 => 0
  | i + 1 => if mfar wd hg zs ys (mvX i) (mvY i) < mfar wd hg zs ys (mvX (bst wd hg zs ys i)) (mvY (bst wd hg zs ys i)) then i else bst wd hg zs ys i
theorem bst_lt (wd hg : Nat) (zs ys : List Int) : ∀ i, bst wd hg zs ys i < max i 1
  | 0 => by simp [bst]
  | i + 1 => by have := bst_lt wd hg zs ys i; unfold bst; split <;> omega
theorem bst_least (wd hg : Nat) (zs ys : List Int) : ∀ i j, j < i → mfar wd hg zs ys (mvX (bst wd hg zs ys i)) (mvY (bst wd hg zs ys i)) ≤ mfar wd hg zs ys (mvX j) (mvY j)
  | 0, j, h => by omega
  | i + 1, j, h => by
    unfold bst
    by_cases e : j = i
    · subst e; split <;> omega
    · have := bst_least wd hg zs ys i j (by omega)
      split <;> omega
theorem mv_bd (i : Nat) (h : i < 9) : -1 ≤ mvX i ∧ mvX i ≤ 1 ∧ -1 ≤ mvY i ∧ mvY i ≤ 1 := by unfold mvX mvY; omega
theorem mv_some (x y : Int) (h1 : -1 ≤ x) (h2 : x ≤ 1) (h3 : -1 ≤ y) (h4 : y ≤ 1) : ∃ i, i < 9 ∧ mvX i = x ∧ mvY i = y := by
  refine ⟨((y + 1) * 3 + (x + 1)).toNat, by omega, ?_, ?_⟩
  · unfold mvX; omega
  · unfold mvY; omega
theorem bst_moved (wd hg : Nat) (zs : List Int) (mx my : Int) (h1 : -1 ≤ mx) (h2 : mx ≤ 1) (h3 : -1 ≤ my) (h4 : my ≤ 1) :
    shf wd hg zs (mvX (bst wd hg zs (shf wd hg zs mx my zs.length) 9)) (mvY (bst wd hg zs (shf wd hg zs mx my zs.length) 9)) zs.length = shf wd hg zs mx my zs.length := by
  obtain ⟨i, hi, e1, e2⟩ := mv_some mx my h1 h2 h3 h4
  have hb := bst_least wd hg zs (shf wd hg zs mx my zs.length) 9 i hi
  rw [e1, e2] at hb
  have h0 : mfar wd hg zs (shf wd hg zs mx my zs.length) mx my = 0 := farS_self _ _
  rw [h0] at hb
  have h5 := farS_nonneg (shf wd hg zs (mvX (bst wd hg zs (shf wd hg zs mx my zs.length) 9)) (mvY (bst wd hg zs (shf wd hg zs mx my zs.length) 9)) zs.length) (shf wd hg zs mx my zs.length) zs.length
  unfold mfar at hb
  refine farS_eq (by rw [shf_length, shf_length]) ?_
  rw [shf_length]
  omega
def mrs (ss ys : List Int) (s : Int) (k : Nat) : List Int := (List.range k).map fun j => near (ys.getD j 0 - ss.getD j 0) s
def mtl (ss rs : List Int) (s : Int) (k : Nat) : List Int := (List.range ss.length).map fun j => if j < k then clamp (ss.getD j 0 + rs.getD j 0 * s) else ss.getD j 0
theorem mrs_length (ss ys : List Int) (s : Int) (k : Nat) : (mrs ss ys s k).length = k := by simp [mrs]
theorem mrs_succ (ss ys : List Int) (s : Int) (k : Nat) : mrs ss ys s (k + 1) = mrs ss ys s k ++ [near (ys.getD k 0 - ss.getD k 0) s] := by unfold mrs; rw [List.range_succ, List.map_append]; rfl
theorem mrs_getD (ss ys : List Int) (s : Int) (k j : Nat) (h : j < k) : (mrs ss ys s k).getD j 0 = near (ys.getD j 0 - ss.getD j 0) s := by
  rw [List.getD_eq_getElem?_getD, List.getElem?_eq_getElem (by rw [mrs_length]; exact h)]; simp [mrs]
theorem mtl_length (ss rs : List Int) (s : Int) (k : Nat) : (mtl ss rs s k).length = ss.length := by simp [mtl]
theorem mtl_getD (ss rs : List Int) (s : Int) (k j : Nat) (h : j < ss.length) : (mtl ss rs s k).getD j 0 = if j < k then clamp (ss.getD j 0 + rs.getD j 0 * s) else ss.getD j 0 := by
  rw [List.getD_eq_getElem?_getD, List.getElem?_eq_getElem (by rw [mtl_length]; exact h)]; simp [mtl]
theorem mtl_zero (ss rs : List Int) (s : Int) : mtl ss rs s 0 = ss := by
  refine getD_ext (mtl_length _ _ _ _) fun j hj => ?_
  rw [mtl_length] at hj
  rw [mtl_getD _ _ _ _ _ hj, if_neg (by omega)]
theorem mtl_pix {ss rs : List Int} {s : Int} {k : Nat} (h : ∀ z ∈ ss, 0 ≤ z ∧ z ≤ 255) : ∀ z ∈ mtl ss rs s k, 0 ≤ z ∧ z ≤ 255 := by
  intro z hz
  obtain ⟨i, _, rfl⟩ := List.mem_map.1 hz
  split
  · exact clamp_bd _
  · exact getD_pix h _
theorem mrs_bd {ss ys : List Int} {s : Int} (hs : 1 ≤ s) (h1 : ∀ z ∈ ss, 0 ≤ z ∧ z ≤ 255) (h2 : ∀ z ∈ ys, 0 ≤ z ∧ z ≤ 255) (k : Nat) : ∀ r ∈ mrs ss ys s k, -255 ≤ r ∧ r ≤ 255 := by
  intro r hr
  obtain ⟨i, _, rfl⟩ := List.mem_map.1 hr
  have a1 := getD_pix h1 i
  have a2 := getD_pix h2 i
  exact near_bd _ s hs 255 (by omega) (by omega)
theorem mtl_near (ss ys : List Int) (s : Int) (hs : 1 ≤ s) (h2 : ∀ z ∈ ys, 0 ≤ z ∧ z ≤ 255) (k : Nat) (hk : k = ss.length) : unl ys (mtl ss (mrs ss ys s k) s k) k ≤ s / 2 := by
  rw [unl_le]
  refine ⟨by omega, fun j hj => ?_⟩
  rw [mtl_getD _ _ _ _ _ (by omega), if_pos hj, mrs_getD _ _ _ _ _ hj]
  have h1 := getD_pix h2 j
  exact told_near _ _ s hs h1.1 h1.2
theorem mrs_self (ss : List Int) (s : Int) (hs : 1 ≤ s) (k : Nat) : mrs ss ss s k = List.replicate k 0 := by
  refine getD_ext (by rw [mrs_length, List.length_replicate]) fun j hj => ?_
  rw [mrs_length] at hj
  rw [mrs_getD _ _ _ _ _ hj, Int.sub_self, near_zero s hs, List.getD_eq_getElem?_getD, List.getElem?_replicate, if_pos hj]; rfl
theorem mtl_none (ss : List Int) (s : Int) (m k : Nat) (h : ∀ z ∈ ss, 0 ≤ z ∧ z ≤ 255) : mtl ss (List.replicate m 0) s k = ss := by
  refine getD_ext (mtl_length _ _ _ _) fun j hj => ?_
  rw [mtl_length] at hj
  have h1 := getD_pix h j
  have e : (List.replicate m (0 : Int)).getD j 0 = 0 := by
    rw [List.getD_eq_getElem?_getD, List.getElem?_replicate]; split <;> rfl
  rw [mtl_getD _ _ _ _ _ hj, e, Int.zero_mul, Int.add_zero, clamp_id _ h1.1 h1.2]
  split <;> rfl
end Go.Proofs.YtheimfdbadjpoaaGreatDoor

namespace Go.Proofs.YtheimfdbadjpoaaGreatDoor
open Go.ChangeShapes Go.WideShapes Go.ChangeAt Go.RowKit

def stepB (n : Int) : Bool := decide (1 ≤ n ∧ n ≤ 64)
def restB (n : Int) : Bool := decide (-255 ≤ n ∧ n ≤ 255)
theorem step_any (n : Int) (w : World) :
    Calls Tryz.prog 38 #[.int .i64 n] w fun e w' => e = .returned (.bool (stepB n)) ∧ w = w' := by
  go_enter Tryz.func38, Tryz.ntmps38
  go_wp2
  all_goals
    go_ret
    exact ⟨bool_ret (by simp [stepB] <;> omega), rfl⟩
theorem rest_any (n : Int) (w : World) :
    Calls Tryz.prog 154 #[.int .i64 n] w fun e w' => e = .returned (.bool (restB n)) ∧ w = w' := by
  go_enter Tryz.func154, Tryz.ntmps154
  go_wp2
  all_goals
    go_ret
    exact ⟨bool_ret (by simp [restB] <;> omega), rfl⟩
theorem clamp_any (n : Int) (w : World) :
    Calls Tryz.prog 83 #[.int .i64 n] w fun e w' => e = .returned (.int .i64 (clamp n)) ∧ w = w' := by
  go_enter Tryz.func83, Tryz.ntmps83
  go_wp2
  all_goals
    go_ret
    exact ⟨int_ret (by unfold clamp; omega), rfl⟩
theorem near_pos (n s : Int) (w : World) (h0 : 0 ≤ n) (h1 : n ≤ 100000) (hs : 1 ≤ s) (hs2 : s ≤ 64) :
    Calls Tryz.prog 82 #[.int .i64 n, .int .i64 s] w fun e w' => e = .returned (.int .i64 (nearN n s)) ∧ w = w' := by
  have hz : (s == 0) = false := by rw [beq_eq_false_iff_ne]; omega
  have d0 : decide (n < 0) = false := decide_eq_false (by omega)
  go_enter Tryz.func82, Tryz.ntmps82
  go_wp2
  go_ret
  exact ⟨rfl, rfl⟩
theorem near_any (n s : Int) (w : World) (h0 : -100000 ≤ n) (h1 : n ≤ 100000) (hs : 1 ≤ s) (hs2 : s ≤ 64) :
    Calls Tryz.prog 82 #[.int .i64 n, .int .i64 s] w fun e w' => e = .returned (.int .i64 (near n s)) ∧ w = w' := by
  by_cases hn : n < 0
  · have e1 : near n s = - nearN (-n) s := if_pos hn
    have hb := nearN_bd (-n) s (by omega) hs
    have hc := nearN_le (-n) s (by omega) hs 100000 (by omega)
    rw [e1]
    clear e1
    obtain ⟨N, hN⟩ : ∃ N, N = nearN (-n) s := ⟨_, rfl⟩
    rw [← hN] at hb hc ⊢
    have h2 := hb.1
    have HN := Lib.hid hN
    clear hN hb
    go_enter Tryz.func82, Tryz.ntmps82
    go_wp2_with (go_at_call 82; refine (near_pos (-n) s _ (by omega) (by omega) hs hs2).mono ?_; rw [← HN.out]; rintro e w' ⟨rfl, rfl⟩)
    go_ret
    exact ⟨rfl, rfl⟩
  · have e1 : near n s = nearN n s := if_neg hn
    rw [e1]
    exact near_pos n s w (by omega) h1 hs hs2

theorem gss_zero (wd : Nat) (told : List Int) (h : told.length = 0) : gss told wd = 128 := by unfold gss; rw [if_pos h]
theorem gss_row (wd : Nat) (told : List Int) (h : told.length ≠ 0) (h2 : told.length % wd = 0) : gss told wd = told.getD (told.length - wd) 0 := by unfold gss; rw [if_neg h, if_pos h2]
theorem gss_else (wd : Nat) (told : List Int) (h : told.length ≠ 0) (h2 : told.length % wd ≠ 0) : gss told wd = told.getD (told.length - 1) 0 := by unfold gss; rw [if_neg h, if_neg h2]
theorem guess_any (a : Option Addr) (n cap : Nat) (L : List Int) (wd : Nat) (w : World) (h : IntsAt w a n cap L) (hw : 1 ≤ wd) (hw6 : wd ≤ 6) :
    Calls Tryz.prog 81 #[.slice a n cap, .int .i64 wd] w fun e w' => e = .returned (.int .i64 (gss L wd)) ∧ w = w' := by
  have hl := h.len
  have hcap := h.row.cap
  have hle := h.row.le
  unfold maxLen at hcap
  obtain ⟨V, hV⟩ : ∃ V, V = gss L wd := ⟨_, rfl⟩
  rw [← hV]
  have HV := Lib.hid hV
  have HL := Lib.hid hl
  have H := Lib.hid h
  clear hV hl h
  have hz : ((wd : Int) == 0) = false := by rw [beq_eq_false_iff_ne]; omega
  by_cases h0 : n = 0
  · have d0 : ((n : Int) == 0) = true := by rw [beq_iff_eq]; omega
    have e1 : V = 128 := by rw [HV.out, gss_zero wd L (by rw [HL.out]; exact h0)]
    rw [e1]
    clear e1 h0
    go_enter Tryz.func81, Tryz.ntmps81
    go_wp2
    go_ret
    exact ⟨rfl, rfl⟩
  have d0 : ((n : Int) == 0) = false := by rw [beq_eq_false_iff_ne]; omega
  obtain ⟨b, o, rfl, hc⟩ := H.out.row.at_ h0
  obtain ⟨r, hr⟩ : ∃ r, r = n % wd := ⟨_, rfl⟩
  have er : (n : Int) % (wd : Int) = (r : Int) := by rw [hr]; simp
  by_cases h1 : n % wd = 0
  · have hge : wd ≤ n := by
      rcases Nat.lt_or_ge n wd with h | h
      · rw [Nat.mod_eq_of_lt h] at h1; omega
      · exact h
    have d1 : ((r : Int) == 0) = true := by rw [beq_iff_eq]; omega
    have c1 := hc (n - wd) (by omega)
    have e1 : V = L.getD (n - wd) 0 := by rw [HV.out, gss_row wd L (by rw [HL.out]; exact h0) (by rw [HL.out]; exact h1), HL.out]
    rw [← e1] at c1
    have e2 : (n : Int) - (wd : Int) = ((n - wd : Nat) : Int) := by omega
    have i1 : ((n - wd : Nat) : Int) < (n : Int) := by omega
    have i3 : n - wd < n := by omega
    have i2 : (0 : Int) ≤ ((n - wd : Nat) : Int) := by omega
    obtain ⟨q, hq⟩ : ∃ q, q = n - wd := ⟨_, rfl⟩
    rw [← hq] at c1 e2 i1 i2 i3
    clear hc e1 h1 hq hr
    go_enter Tryz.func81, Tryz.ntmps81
    go_wp2
    go_ret
    exact ⟨rfl, rfl⟩
  · have d1 : ((r : Int) == 0) = false := by rw [beq_eq_false_iff_ne]; omega
    have c1 := hc (n - 1) (by omega)
    have e1 : V = L.getD (n - 1) 0 := by rw [HV.out, gss_else wd L (by rw [HL.out]; exact h0) (by rw [HL.out]; exact h1), HL.out]
    rw [← e1] at c1
    have e2 : (n : Int) - 1 = ((n - 1 : Nat) : Int) := by omega
    have i1 : ((n - 1 : Nat) : Int) < (n : Int) := by omega
    have i3 : n - 1 < n := by omega
    have i2 : (0 : Int) ≤ ((n - 1 : Nat) : Int) := by omega
    obtain ⟨q, hq⟩ : ∃ q, q = n - 1 := ⟨_, rfl⟩
    rw [← hq] at c1 e2 i1 i2 i3
    clear hc e1 h1 hq hr
    go_enter Tryz.func81, Tryz.ntmps81
    go_wp2
    go_ret
    exact ⟨rfl, rfl⟩

theorem mul_bd (r s : Int) (h1 : -255 ≤ r) (h2 : r ≤ 255) (h3 : 1 ≤ s) (h4 : s ≤ 64) : -16320 ≤ r * s ∧ r * s ≤ 16320 := by
  have a1 : r * s ≤ 255 * s := Int.mul_le_mul_of_nonneg_right h2 (by omega)
  have a2 : (-255) * s ≤ r * s := Int.mul_le_mul_of_nonneg_right h1 (by omega)
  omega
theorem restTest (zs : List Int) : TestI 153 (fun z => !restB z) zs := by
  intro z _ w
  go_enter Tryz.func153, Tryz.ntmps153
  go_wp2_with (go_at_call 154; refine (rest_any z _).mono ?_; rintro e w' ⟨rfl, rfl⟩)
  go_ret
  exact ⟨rfl, rfl⟩
def rstE (l : List Int) (many : Int) : Nat := if (l.length : Int) ≠ many then 3 else if l.any (fun z => !restB z) = true then 1 else 0
theorem rstE_zero {l : List Int} {many : Int} (h : rstE l many = 0) : (l.length : Int) = many ∧ ∀ z ∈ l, -255 ≤ z ∧ z ≤ 255 := by
  unfold rstE at h
  repeat' split at h
  all_goals first | omega | skip
  rename_i h1 h2
  refine ⟨by omega, fun z hz => ?_⟩
  have h4 : restB z = true := by
    cases hq : restB z
    · exact absurd (List.any_eq_true.2 ⟨z, hz, by rw [hq]; rfl⟩) h2
    · rfl
  simpa [restB] using h4
theorem rstE_of {l : List Int} {many : Int} (h : (l.length : Int) = many) (h2 : ∀ z ∈ l, -255 ≤ z ∧ z ≤ 255) : rstE l many = 0 := by
  unfold rstE
  rw [if_neg (by omega), if_neg]
  intro hc
  obtain ⟨z, hz, hq⟩ := List.any_eq_true.1 hc
  have : restB z = true := decide_eq_true (h2 z hz)
  rw [this] at hq; cases hq
theorem rests_any (a : Option Addr) (n cap : Nat) (L : List Int) (many : Int) (w : World) (h : IntsAt w a n cap L) :
    Calls Tryz.prog 125 #[.slice a n cap, .int .i64 many] w fun e w' => e = .returned (errv (rstE L many)) ∧ w = w' := by
  have hl := h.len
  have H := Lib.hid h
  obtain ⟨C, hC⟩ : ∃ C, C = rstE L many := ⟨_, rfl⟩
  rw [← hC]
  have HC := Lib.hid hC
  have HL := Lib.hid hl
  clear h hC hl
  by_cases hm : (n : Int) = many
  case neg =>
    have d1 : ((n : Int) != many) = true := by rw [bne_iff_ne]; exact hm
    have e1 : C = 3 := by rw [HC.out]; unfold rstE; rw [if_pos (by rw [HL.out]; exact hm)]
    rw [e1]
    clear e1 hm
    go_enter Tryz.func125, Tryz.ntmps125
    go_wp2
    go_ret
    exact ⟨rfl, rfl⟩
  have d1 : ((n : Int) != many) = false := by rw [bne_eq_false_iff_eq]; exact hm
  have e0 : C = if L.any (fun z => !restB z) = true then 1 else 0 := by rw [HC.out]; unfold rstE; rw [if_neg (by rw [HL.out]; exact fun h => h hm)]
  clear hm
  cases ha : L.any (fun z => !restB z) with
  | true =>
    have e1 : C = 1 := by rw [e0, if_pos ha]
    rw [e1]
    have HA := Lib.hid ha
    clear e1 e0 ha
    go_enter Tryz.func125, Tryz.ntmps125
    go_wp2_with (go_at_call 119; refine (containsFuncI _ (enters_of Tryz.func153 (by kernel_rfl) rfl) _ a n cap L _ H.out (restTest L)).mono ?_; rw [HA.out]; rintro e w' ⟨rfl, rfl⟩)
    go_ret
    exact ⟨rfl, rfl⟩
  | false =>
    have e1 : C = 0 := by rw [e0, if_neg (by rw [ha]; simp)]
    rw [e1]
    have HA := Lib.hid ha
    clear e1 e0 ha
    go_enter Tryz.func125, Tryz.ntmps125
    go_wp2_with (go_at_call 119; refine (containsFuncI _ (enters_of Tryz.func153 (by kernel_rfl) rfl) _ a n cap L _ H.out (restTest L)).mono ?_; rw [HA.out]; rintro e w' ⟨rfl, rfl⟩)
    go_ret
    exact ⟨rfl, rfl⟩

def rndE (n s : Int) : Nat := if stepB s = false ∨ restB n = false then 1 else 0
theorem rndE_zero {n s : Int} (h : rndE n s = 0) : 1 ≤ s ∧ s ≤ 64 ∧ -255 ≤ n ∧ n ≤ 255 := by
  unfold rndE at h
  split at h
  · omega
  · rename_i h1
    have a1 : stepB s = true := by cases hq : stepB s <;> simp_all
    have a2 : restB n = true := by cases hq : restB n <;> simp_all
    simp only [stepB, restB, decide_eq_true_eq] at a1 a2
    omega
end Go.Proofs.YtheimfdbadjpoaaGreatDoor

namespace Go.Proofs.YtheimfdbadjpoaaGreatDoor
open Go.ChangeShapes Go.WideShapes Go.ChangeAt Go.RowKit

theorem wf_small {zs : List Int} (h : ∀ z ∈ zs, -255 ≤ z ∧ z ≤ 255) : ∀ z ∈ zs, -9223372036854775808 ≤ z ∧ z ≤ 9223372036854775807 := fun z hz => by have := h z hz; omega
theorem wf_pix {zs : List Int} (h : ∀ z ∈ zs, 0 ≤ z ∧ z ≤ 255) : ∀ z ∈ zs, -9223372036854775808 ≤ z ∧ z ≤ 9223372036854775807 := fun z hz => by have := h z hz; omega

set_option maxHeartbeats 1000000 in
set_option maxRecDepth 100000 in
theorem code_anyF (wd hg : Int) (a : Option Addr) (n cap : Nat) (zs : List Int) (s : Int) (w : World) (h : IntsAt w a n cap zs) (hok : PicOk wd hg zs) (hs : 1 ≤ s) (hs2 : s ≤ 64) :
    Calls Tryz.prog 39 #[picV wd hg a n cap, .int .i64 s] w fun e w' => ∃ b c, e = .returned (.slice b n c) ∧ IntsAt w' b n c (cod zs wd.toNat s n).1 ∧ Fresh w b n ∧ Lat w w' := by
  obtain ⟨wn, rfl⟩ := Int.eq_ofNat_of_zero_le (show 0 ≤ wd by have := hok.w1; omega)
  have w1 := hok.w1
  have w6 := hok.w6
  have hl36 := hok.len_le
  have hl := h.len
  have hpix := hok.pix
  rw [Int.toNat_natCast]
  have hn36 : n ≤ 36 := by omega
  have HP := Lib.hid hpix
  obtain ⟨W0, hW0⟩ : ∃ W, W = w.alloc (.cells #[.int .i64 wn, .int .i64 hg, .slice a n cap] 33) := ⟨_, rfl⟩
  have hat : IntsAt W0 a n cap zs := by rw [hW0]; exact h.keep (Lat.alloc _ _)
  have hl0 : Lat w W0 := by rw [hW0]; exact Lat.alloc _ _
  have k0 : W0.cell? ⟨w.heap.size, 0, none⟩ = some (.int .i64 wn) := by rw [hW0]; simp
  have k2 : W0.cell? ⟨w.heap.size, 2, none⟩ = some (.slice a n cap) := by rw [hW0]; simp
  have HAT := Lib.hid hat
  have HL0 := Lib.hid hl0
  have K0 := Lib.hid k0
  clear h hok hl hl36 hpix hat hl0 k0
  go_enter Tryz.func39, Tryz.ntmps39
  go_upto_region 1 with fail
  rw [← hW0]
  clear hW0
  go_wp2_with fail
  go_loopw [5, 6, 14] (fun told out i wr => ∃ k : Nat, k ≤ n ∧ i = .int .i64 k ∧ Hid (OwnInts wr W0.heap.size told (cod zs wn s k).2 ∧ OwnInts wr W0.heap.size out (cod zs wn s k).1 ∧ Apart told out ∧ Lat W0 wr)) (fun _ _ i _ => n - (intOf i).toNat)
  case atStart => exact ⟨0, Nat.zero_le _, rfl, Own.nil _ _ _, Own.nil _ _ _, Apart.nil _, Lat.refl _⟩
  case round =>
    obtain ⟨k, hk, rfl, hrel⟩ := hrel
    obtain ⟨o1, o2, hap, hb⟩ := hrel.out
    by_cases hlt : k < n
    · obtain ⟨ta, tc, rfl, ht⟩ := OwnInts.sliceN o1 (wf_pix (cod_pix zs wn s k)) (cod_len zs wn s k).2
      obtain ⟨b1, p1, rfl, hc1⟩ := (HAT.out.keep hb).row.at_ (by omega)
      have c1 := hc1 k hlt
      have c0 := hb.cell_at K0.out
      have hz := getD_pix HP.out k
      have hg := gss_bd (cod_pix zs wn s k) wn
      obtain ⟨z, hzd⟩ : ∃ z, z = zs.getD k 0 := ⟨_, rfl⟩
      obtain ⟨G, hG⟩ : ∃ g, g = gss (cod zs wn s k).2 wn := ⟨_, rfl⟩
      rw [← hzd] at c1 hz
      rw [← hG] at hg
      have hr := near_bd (z - G) s hs 255 (by omega) (by omega)
      obtain ⟨R, hR⟩ : ∃ r, r = near (z - G) s := ⟨_, rfl⟩
      rw [← hR] at hr
      have hm := mul_bd R s hr.1 hr.2 hs hs2
      obtain ⟨T, hT⟩ : ∃ t, t = clamp (G + R * s) := ⟨_, rfl⟩
      have hst1 : (cod zs wn s (k + 1)).1 = (cod zs wn s k).1 ++ [R] := by rw [cod, ← hG, ← hzd, ← hR]
      have hst2 : (cod zs wn s (k + 1)).2 = (cod zs wn s k).2 ++ [T] := by rw [cod, ← hG, ← hzd, ← hR, ← hT]
      have hlen1 : (cod zs wn s k).1.length < 1000000000000 := by rw [(cod_len zs wn s k).1]; omega
      have hlen2 : (cod zs wn s k).2.length < 1000000000000 := by rw [(cod_len zs wn s k).2]; omega
      have HT := Lib.hid hT
      have HR := Lib.hid hR
      have HG := Lib.hid hG
      have HO1 := Lib.hid o1
      have HO2 := Lib.hid o2
      have HAP := Lib.hid hap
      have HB := Lib.hid hb
      have HTA := Lib.hid ht
      have HS1 := Lib.hid hst1
      have HS2 := Lib.hid hst2
      have HL1 := Lib.hid hlen1
      have HL2 := Lib.hid hlen2
      clear hT hR hG o1 o2 hap hb ht hst1 hst2 hlen1 hlen2 hzd hrel hc1
      go_wp2_with fail
      refine (guess_any ta k tc (cod zs wn s k).2 wn _ HTA.out (by omega) (by omega)).mono ?_
      rw [← HG.out]
      rintro e w' ⟨rfl, rfl⟩
      go_wp2_with fail
      refine (near_any (z - G) s _ (by omega) (by omega) hs hs2).mono ?_
      rw [← HR.out]
      rintro e w' ⟨rfl, rfl⟩
      go_wp2_with (at_builtin; refine app_int wr W0 _ rfl _ _ rfl _ _ _ rfl HO2.out rfl HL1.out rfl HB.out ?_)
      intro out' w2 hown2 hb2 hstep
      have hoth := AppStep.other hstep HO1.out (Apart.symm HAP.out)
      have HOT := Lib.hid hoth.1
      have HAP2 := Lib.hid hoth.2
      have HOW := Lib.hid hown2
      have HB2 := Lib.hid hb2
      clear hoth hown2 hb2 hstep
      go_wp2_with fail
      refine (clamp_any (G + R * s) _).mono ?_
      rw [← HT.out]
      rintro e w' ⟨rfl, rfl⟩
      go_wp2_with (at_builtin; refine app_int w2 W0 _ rfl _ _ rfl _ _ _ rfl HOT.out rfl HL2.out rfl HB2.out ?_)
      intro told' w3 hown3 hb3 hstep3
      have hoth3 := AppStep.other hstep3 HOW.out (Apart.symm HAP2.out)
      have HOT3 := Lib.hid hoth3.1
      have HAP3 := Lib.hid hoth3.2
      have HOW3 := Lib.hid hown3
      have HB3 := Lib.hid hb3
      clear hoth3 hown3 hb3 hstep3
      go_wp2
      go_roundw
      case rel => exact ⟨k + 1, by omega, by go_num, by rw [HS2.out]; exact HOW3.out, by rw [HS1.out]; exact HOT3.out, HAP3.out, HB3.out⟩
      case measure => simp [intOf]; omega
    · obtain rfl : k = n := by omega
      obtain ⟨ta, tc, rfl, ht⟩ := OwnInts.sliceN o2 (wf_small (cod_bd zs wn s hs HP.out k)) (cod_len zs wn s k).1
      have HFR := Lib.hid (Fresh.of o2 HL0.out.size)
      have HTA := Lib.hid ht
      have HB := Lib.hid hb
      clear ht hrel o1 o2 hap hb
      go_wp2
      go_ret
      exact ⟨ta, tc, rfl, HTA.out, HFR.out, Lat.trans HL0.out HB.out⟩
theorem code_any (wd hg : Int) (a : Option Addr) (n cap : Nat) (zs : List Int) (s : Int) (w : World) (h : IntsAt w a n cap zs) (hok : PicOk wd hg zs) (hs : 1 ≤ s) (hs2 : s ≤ 64) :
    Calls Tryz.prog 39 #[picV wd hg a n cap, .int .i64 s] w fun e w' => ∃ b c, e = .returned (.slice b n c) ∧ IntsAt w' b n c (cod zs wd.toNat s n).1 ∧ Lat w w' := by
  exact (code_anyF wd hg a n cap zs s w h hok hs hs2).mono fun _ _ ⟨b, c, h1, h2, _, h3⟩ => ⟨b, c, h1, h2, h3⟩
end Go.Proofs.YtheimfdbadjpoaaGreatDoor

namespace Go.Proofs.YtheimfdbadjpoaaGreatDoor
open Go.ChangeShapes Go.WideShapes Go.ChangeAt Go.RowKit

def encE (wd hg : Int) (zs : List Int) (s : Int) : Nat := if chkPic wd hg zs ≠ 0 then chkPic wd hg zs else if stepB s = false then 1 else 0
theorem encE_zero {wd hg : Int} {zs : List Int} {s : Int} (h : encE wd hg zs s = 0) : PicOk wd hg zs ∧ 1 ≤ s ∧ s ≤ 64 := by
  unfold encE at h
  split at h
  · omega
  · rename_i h1
    split at h
    · omega
    · rename_i h2
      have a1 : stepB s = true := by cases hq : stepB s <;> simp_all
      simp only [stepB, decide_eq_true_eq] at a1
      exact ⟨chkPic_ok (by omega), a1.1, a1.2⟩
theorem three_set {w : World} {g : Nat} {a b c : Value} (c0 : w.cell? ⟨g, 0, none⟩ = some a) (c1 : w.cell? ⟨g, 1, none⟩ = some b) (c2 : w.cell? ⟨g, 2, none⟩ = some c) (x y z : Value) :
    (((w.setCell ⟨g, 0, none⟩ x).setCell ⟨g, 1, none⟩ y).setCell ⟨g, 2, none⟩ z).cell? ⟨g, 0, none⟩ = some x ∧ (((w.setCell ⟨g, 0, none⟩ x).setCell ⟨g, 1, none⟩ y).setCell ⟨g, 2, none⟩ z).cell? ⟨g, 1, none⟩ = some y ∧
      (((w.setCell ⟨g, 0, none⟩ x).setCell ⟨g, 1, none⟩ y).setCell ⟨g, 2, none⟩ z).cell? ⟨g, 2, none⟩ = some z := by
  have n01 : (⟨g, 0, none⟩ : Addr) ≠ ⟨g, 1, none⟩ := by simp
  have n02 : (⟨g, 0, none⟩ : Addr) ≠ ⟨g, 2, none⟩ := by simp
  have n12 : (⟨g, 1, none⟩ : Addr) ≠ ⟨g, 2, none⟩ := by simp
  refine ⟨?_, ?_, ?_⟩
  · rw [World.cell?_setCell_other _ _ _ _ (by simp), World.cell?_setCell_other _ _ _ _ (by simp)]; exact World.cell?_setCell_same _ _ _ c0
  · rw [World.cell?_setCell_other _ _ _ _ (by simp)]; exact World.cell?_setCell_same _ _ _ ((World.cell?_setCell_other _ _ _ _ (by simp)).trans c1)
  · exact World.cell?_setCell_same _ _ _ ((World.cell?_setCell_other _ _ _ _ (by simp)).trans ((World.cell?_setCell_other _ _ _ _ (by simp)).trans c2))
theorem lat_three {w w1 : World} {g : Nat} (hb : Lat w w1) (hg : w.heap.size ≤ g) (x y z : Value) : Lat w (((w1.setCell ⟨g, 0, none⟩ x).setCell ⟨g, 1, none⟩ y).setCell ⟨g, 2, none⟩ z) :=
  Below.setCell (Below.setCell (Below.setCell hb hg x) hg y) hg z
theorem ints_three {w : World} {g : Nat} {a : Option Addr} {n cap : Nat} {L : List Int} (h : IntsAt w a n cap L) (hne : ∀ b o, a = some ⟨b, o, none⟩ → n ≠ 0 → b ≠ g) (x y z : Value) : IntsAt (((w.setCell ⟨g, 0, none⟩ x).setCell ⟨g, 1, none⟩ y).setCell ⟨g, 2, none⟩ z) a n cap L := by
  refine ⟨h.len, ⟨h.row.le, h.row.cap, fun hn => ?_⟩, h.wf⟩
  obtain ⟨b, o, ha, hc⟩ := h.row.at_ hn
  refine ⟨b, o, ha, fun j hj => ?_⟩
  have hb := hne b o ha hn
  have nn : ∀ k, (⟨b, o + j, none⟩ : Addr) ≠ ⟨g, k, none⟩ := fun k e => hb (by injection e)
  rw [World.cell?_setCell_other _ _ _ _ (fun e => nn 2 e.symm), World.cell?_setCell_other _ _ _ _ (fun e => nn 1 e.symm), World.cell?_setCell_other _ _ _ _ (fun e => nn 0 e.symm)]
  exact hc j hj
theorem pw_cells {w w1 : World} (hb1 : Lat (w.alloc (.cells #[.int .i64 0, .int .i64 0, .slice none 0 0] 33)) w1) :
    (w1.cell? ⟨w.heap.size, 0, none⟩ = some (.int .i64 0) ∧ w1.cell? ⟨w.heap.size, 1, none⟩ = some (.int .i64 0) ∧ w1.cell? ⟨w.heap.size, 2, none⟩ = some (.slice none 0 0)) ∧
      w1.frozen? ⟨w.heap.size, 0, none⟩ = false ∧ w1.frozen? ⟨w.heap.size, 1, none⟩ = false ∧ w1.frozen? ⟨w.heap.size, 2, none⟩ = false :=
  ⟨⟨hb1.cell_at (by simp), hb1.cell_at (by simp), hb1.cell_at (by simp)⟩, hb1.free_at (by simp) (by simp), hb1.free_at (by simp) (by simp), hb1.free_at (by simp) (by simp)⟩

def dcE (wd hg s : Int) (rs : List Int) : Nat := if sideB wd = false ∨ sideB hg = false ∨ stepB s = false then 1 else rstE rs (wd * hg)
theorem dcE_zero {wd hg s : Int} {rs : List Int} (h : dcE wd hg s rs = 0) : 1 ≤ wd ∧ wd ≤ 6 ∧ 1 ≤ hg ∧ hg ≤ 6 ∧ 1 ≤ s ∧ s ≤ 64 ∧ (rs.length : Int) = wd * hg ∧ ∀ z ∈ rs, -255 ≤ z ∧ z ≤ 255 := by
  unfold dcE at h
  split at h
  · omega
  · rename_i h1
    have a1 : sideB wd = true := by cases hq : sideB wd <;> simp_all
    have a2 : sideB hg = true := by cases hq : sideB hg <;> simp_all
    have a3 : stepB s = true := by cases hq : stepB s <;> simp_all
    simp only [sideB, stepB, decide_eq_true_eq] at a1 a2 a3
    have := rstE_zero h
    exact ⟨a1.1, a1.2, a2.1, a2.2, a3.1, a3.2, this.1, this.2⟩
theorem dcE_of {wd hg s : Int} {rs : List Int} (h1 : 1 ≤ wd) (h2 : wd ≤ 6) (h3 : 1 ≤ hg) (h4 : hg ≤ 6) (h5 : 1 ≤ s) (h6 : s ≤ 64) (h7 : (rs.length : Int) = wd * hg) (h8 : ∀ z ∈ rs, -255 ≤ z ∧ z ≤ 255) : dcE wd hg s rs = 0 := by
  unfold dcE
  have a1 : sideB wd = true := decide_eq_true ⟨h1, h2⟩
  have a2 : sideB hg = true := decide_eq_true ⟨h3, h4⟩
  have a3 : stepB s = true := decide_eq_true ⟨h5, h6⟩
  rw [if_neg (by simp [a1, a2, a3])]
  exact rstE_of h7 h8

set_option maxHeartbeats 1000000 in
theorem decode_okF (wd hg s : Int) (a : Option Addr) (n cap : Nat) (rs : List Int) (w : World) (h : IntsAt w a n cap rs) (he : dcE wd hg s rs = 0) :
    Calls Tryz.prog 87 #[.int .i64 wd, .int .i64 hg, .int .i64 s, .slice a n cap] w fun e w' => ∃ b c, e = .returned (.tuple #[picV wd hg b n c, .nilIface]) ∧ IntsAt w' b n c (tel rs wd.toNat s n) ∧ Fresh w b n ∧ Lat w w' := by
  obtain ⟨w1, w6, g1, g6, s1, s64, hlen, hrs⟩ := dcE_zero he
  obtain ⟨wn, rfl⟩ := Int.eq_ofNat_of_zero_le (show 0 ≤ wd by omega)
  rw [Int.toNat_natCast]
  have p1 : (wn : Int) * hg ≤ 6 * 6 := Int.mul_le_mul w6 g6 (by omega) (by omega)
  have p0 : 0 ≤ (wn : Int) * hg := Int.mul_nonneg (by omega) (by omega)
  have hl := h.len
  have hn36 : n ≤ 36 := by omega
  have a1 : sideB wn = true := decide_eq_true ⟨w1, w6⟩
  have a2 : sideB hg = true := decide_eq_true ⟨g1, g6⟩
  have a3 : stepB s = true := decide_eq_true ⟨s1, s64⟩
  obtain ⟨W0, hW0⟩ : ∃ W, W = w.alloc (.cells #[.int .i64 0, .int .i64 0, .slice none 0 0] 33) := ⟨_, rfl⟩
  have hat : IntsAt W0 a n cap rs := by rw [hW0]; exact h.keep (Lat.alloc _ _)
  have hl0 : Lat w W0 := by rw [hW0]; exact Lat.alloc _ _
  have hsz0 : w.heap.size < W0.heap.size := by rw [hW0]; simp
  have hpw : ∀ w1, Lat W0 w1 → _ := fun w1 hb => pw_cells (w := w) (w1 := w1) (by rw [← hW0]; exact hb)
  have hrc := rests_any a n cap rs ((wn : Int) * hg) W0 hat
  rw [errv_zero (rstE_of hlen hrs)] at hrc
  have HRC := Lib.hid hrc
  have HPW := Lib.hid hpw
  have HAT := Lib.hid hat
  have HL0 := Lib.hid hl0
  have HRS := Lib.hid hrs
  clear h he hat hl0 hrc hlen hrs hl hpw
  go_enter Tryz.func87, Tryz.ntmps87
  go_upto_region 1 with fail
  rw [← hW0]
  clear hW0
  go_wp2_with (first | (go_at_call 62; refine (side_any _ _).mono ?_; rintro e w' ⟨rfl, rfl⟩) | (go_at_call 38; refine (step_any _ _).mono ?_; rintro e w' ⟨rfl, rfl⟩))
  refine HRC.out.mono ?_
  rintro e w' ⟨rfl, rfl⟩
  go_wp2_with fail
  go_loopw [11, 40] (fun told i wr => ∃ k : Nat, k ≤ n ∧ i = .int .i64 k ∧ Hid (OwnInts wr W0.heap.size told (tel rs wn s k) ∧ Lat W0 wr)) (fun _ i _ => n - (intOf i).toNat)
  case atStart => exact ⟨0, Nat.zero_le _, rfl, Own.nil _ _ _, Lat.refl _⟩
  case round =>
    obtain ⟨k, hk, rfl, hrel⟩ := hrel
    obtain ⟨o1, hb⟩ := hrel.out
    by_cases hlt : k < n
    · obtain ⟨ta, tc, rfl, ht⟩ := OwnInts.sliceN o1 (wf_pix (tel_pix rs wn s k)) (tel_len rs wn s k)
      obtain ⟨b1, p1', rfl, hc1⟩ := (HAT.out.keep hb).row.at_ (by omega)
      have c1 := hc1 k hlt
      have hrk := HRS.out _ (mem_getD rs k (by rw [HAT.out.len]; exact hlt))
      have hg := gss_bd (tel_pix rs wn s k) wn
      obtain ⟨R, hR⟩ : ∃ z, z = rs.getD k 0 := ⟨_, rfl⟩
      obtain ⟨G, hG⟩ : ∃ g, g = gss (tel rs wn s k) wn := ⟨_, rfl⟩
      rw [← hR] at c1 hrk
      rw [← hG] at hg
      have hm := mul_bd R s hrk.1 hrk.2 s1 s64
      obtain ⟨T, hT⟩ : ∃ t, t = clamp (G + R * s) := ⟨_, rfl⟩
      have hst2 : tel rs wn s (k + 1) = tel rs wn s k ++ [T] := by rw [tel, ← hG, ← hR, ← hT]
      have hlen2 : (tel rs wn s k).length < 1000000000000 := by rw [tel_len]; omega
      have HT := Lib.hid hT
      have HG := Lib.hid hG
      have HO1 := Lib.hid o1
      have HB := Lib.hid hb
      have HTA := Lib.hid ht
      have HS2 := Lib.hid hst2
      have HL2 := Lib.hid hlen2
      clear hT hR hG o1 hb ht hst2 hlen2 hrel hc1
      go_wp2_with fail
      refine (guess_any ta k tc (tel rs wn s k) wn _ HTA.out (by omega) (by omega)).mono ?_
      rw [← HG.out]
      rintro e w' ⟨rfl, rfl⟩
      go_wp2_with fail
      refine (clamp_any (G + R * s) _).mono ?_
      rw [← HT.out]
      rintro e w' ⟨rfl, rfl⟩
      go_wp2_with (at_builtin; refine app_int wr W0 _ rfl _ _ rfl _ _ _ rfl HO1.out rfl HL2.out rfl HB.out ?_)
      intro told' w3 hown3 hb3 hstep3
      have HOW3 := Lib.hid hown3
      have HB3 := Lib.hid hb3
      clear hown3 hb3 hstep3
      go_wp2
      go_roundw
      case rel => exact ⟨k + 1, by omega, by go_num, by rw [HS2.out]; exact HOW3.out, HB3.out⟩
      case measure => simp [intOf]; omega
    · obtain rfl : k = n := by omega
      have hlt := Own.lt o1
      obtain ⟨ta, tc, rfl, ht⟩ := OwnInts.sliceN o1 (wf_pix (tel_pix rs wn s k)) (tel_len rs wn s k)
      have HFR := Lib.hid (Fresh.of o1 HL0.out.size)
      have hq := HPW.out wr hb
      obtain ⟨⟨c0, c1, c2⟩, f0, f1, f2⟩ := hq
      have q := three_set c0 c1 c2 (.int .i64 wn) (.int .i64 hg) (.slice ta k tc)
      have ht3 := ints_three (g := w.heap.size) ht (fun b o e hn => by
        subst e
        obtain ⟨b', o', e', hc'⟩ := ht.row.at_ hn
        rcases o1.2 with ⟨e1, _⟩ | ⟨g, c, cur, e1, hg, _⟩
        · cases e1
        · injection e1 with e1 _ _
          injection e1 with e1
          injection e1 with e1 _ _
          omega) (.int .i64 wn) (.int .i64 hg) (.slice ta k tc)
      have hlat := lat_three (Lat.trans HL0.out hb) (Nat.le_refl _) (.int .i64 wn) (.int .i64 hg) (.slice ta k tc)
      have HT3 := Lib.hid ht3
      have HLAT := Lib.hid hlat
      have Q := Lib.hid q
      clear ht hrel o1 hb ht3 hlat q hlt
      go_wp2
      exact bodyPost_ret (v := .tuple #[picV wn hg ta k tc, .nilIface]) (by simp [results, Tryz.results87, go_sem, Q.out.1, Q.out.2.1, Q.out.2.2]) rfl ⟨ta, tc, rfl, HT3.out, HFR.out, HLAT.out⟩
theorem decode_ok (wd hg s : Int) (a : Option Addr) (n cap : Nat) (rs : List Int) (w : World) (h : IntsAt w a n cap rs) (he : dcE wd hg s rs = 0) :
    Calls Tryz.prog 87 #[.int .i64 wd, .int .i64 hg, .int .i64 s, .slice a n cap] w fun e w' => ∃ b c, e = .returned (.tuple #[picV wd hg b n c, .nilIface]) ∧ IntsAt w' b n c (tel rs wd.toNat s n) ∧ Lat w w' := by
  exact (decode_okF wd hg s a n cap rs w h he).mono fun _ _ ⟨b, c, h1, h2, _, h3⟩ => ⟨b, c, h1, h2, h3⟩
end Go.Proofs.YtheimfdbadjpoaaGreatDoor

namespace Go.Proofs.YtheimfdbadjpoaaGreatDoor
open Go.ChangeShapes Go.WideShapes Go.ChangeAt Go.RowKit

def tolR (wd hg s : Int) (rs : List Int) : List Int := if dcE wd hg s rs = 0 then tel rs wd.toNat s rs.length else []
set_option maxHeartbeats 2000000 in
set_option maxRecDepth 100000 in
theorem decode_bad (wd hg s : Int) (a : Option Addr) (n cap : Nat) (rs : List Int) (w : World) (h : IntsAt w a n cap rs) (he : dcE wd hg s rs ≠ 0) :
    Calls Tryz.prog 87 #[.int .i64 wd, .int .i64 hg, .int .i64 s, .slice a n cap] w fun e w' => e = .returned (.tuple #[picV 0 0 none 0 0, eno (dcE wd hg s rs)]) ∧ Lat w w' := by
  obtain ⟨W0, hW0⟩ : ∃ W, W = w.alloc (.cells #[.int .i64 0, .int .i64 0, .slice none 0 0] 33) := ⟨_, rfl⟩
  have hat : IntsAt W0 a n cap rs := by rw [hW0]; exact h.keep (Lat.alloc _ _)
  have hl0 : Lat w W0 := by rw [hW0]; exact Lat.alloc _ _
  have hc : Cells3 W0 w.heap.size 0 (.int .i64 0) (.int .i64 0) (.slice none 0 0) := by rw [hW0]; exact cells3_new rfl rfl rfl rfl
  have hf : ∀ k, W0.frozen? ⟨w.heap.size, k, none⟩ = false := fun k => by rw [hW0]; simp
  have hrc := rests_any a n cap rs (wd * hg) W0 hat
  obtain ⟨E, hE⟩ : ∃ E, E = dcE wd hg s rs := ⟨_, rfl⟩
  rw [← hE] at he ⊢
  have HC := Lib.hid hc
  have HF := Lib.hid hf
  have Q := Lib.hid (three_set hc.c0 hc.c1 hc.c2 (.int .i64 0) (.int .i64 0) (.slice none 0 0))
  have HL3 := Lib.hid (lat_three hl0 (Nat.le_refl _) (.int .i64 0) (.int .i64 0) (.slice none 0 0))
  have hb : (sideB wd = false ∨ sideB hg = false ∨ stepB s = false) → E = 1 := fun q => by rw [hE]; unfold dcE; rw [if_pos q]
  have hd : (sideB wd = false ∧ E = 1) ∨ (sideB wd = true ∧ sideB hg = false ∧ E = 1) ∨ (sideB wd = true ∧ sideB hg = true ∧ stepB s = false ∧ E = 1) ∨ (sideB wd = true ∧ sideB hg = true ∧ stepB s = true) := by
    cases h1 : sideB wd with
    | false => exact .inl ⟨rfl, hb (.inl h1)⟩
    | true =>
      cases h2 : sideB hg with
      | false => exact .inr (.inl ⟨rfl, rfl, hb (.inr (.inl h2))⟩)
      | true =>
        cases h3 : stepB s with
        | false => exact .inr (.inr (.inl ⟨rfl, rfl, rfl, hb (.inr (.inr h3))⟩))
        | true => exact .inr (.inr (.inr ⟨rfl, rfl, rfl⟩))
  clear h hat hl0 hc hf hb
  rcases hd with ⟨d1, e1⟩ | ⟨d1, d2, e1⟩ | ⟨d1, d2, d3, e1⟩ | ⟨d1, d2, d3⟩
  iterate 3
    · rw [e1]
      clear hrc he hE e1
      go_enter Tryz.func87, Tryz.ntmps87
      go_upto_region 1 with fail
      rw [← hW0]
      clear hW0
      have c0 := HC.out.c0
      have c1 := HC.out.c1
      have c2 := HC.out.c2
      have f0 := HF.out 0
      have f1 := HF.out 1
      have f2 := HF.out 2
      go_wp2_with (first | (go_at_call 62; refine (side_any _ _).mono ?_; rintro e w' ⟨rfl, rfl⟩) | (go_at_call 38; refine (step_any _ _).mono ?_; rintro e w' ⟨rfl, rfl⟩))
      exact bodyPost_ret (v := .tuple #[picV 0 0 none 0 0, eno 1]) (by simp [results, Tryz.results87, go_sem, Q.out.1, Q.out.2.1, Q.out.2.2]) rfl ⟨rfl, HL3.out⟩
  have e1 : E = rstE rs (wd * hg) := by rw [hE]; unfold dcE; rw [if_neg (by simp [d1, d2, d3])]
  rw [← e1, errv_pos he] at hrc
  have m1 : wd * hg ≤ 6 * 6 := by
    have a1 := d1
    have a2 := d2
    simp only [sideB, decide_eq_true_eq] at a1 a2
    exact Int.mul_le_mul a1.2 a2.2 (by omega) (by omega)
  have m0 : 0 ≤ wd * hg := by
    have a1 := d1
    have a2 := d2
    simp only [sideB, decide_eq_true_eq] at a1 a2
    exact Int.mul_nonneg (by omega) (by omega)
  have HRC := Lib.hid hrc
  clear hrc he hE e1
  go_enter Tryz.func87, Tryz.ntmps87
  go_upto_region 1 with fail
  rw [← hW0]
  clear hW0
  have c0 := HC.out.c0
  have c1 := HC.out.c1
  have c2 := HC.out.c2
  have f0 := HF.out 0
  have f1 := HF.out 1
  have f2 := HF.out 2
  go_wp2_with (first | (go_at_call 62; refine (side_any _ _).mono ?_; rintro e w' ⟨rfl, rfl⟩) | (go_at_call 38; refine (step_any _ _).mono ?_; rintro e w' ⟨rfl, rfl⟩))
  refine HRC.out.mono ?_
  rintro e w' ⟨rfl, rfl⟩
  go_wp2
  exact bodyPost_ret (v := .tuple #[picV 0 0 none 0 0, eno E]) (by simp [results, Tryz.results87, go_sem, Q.out.1, Q.out.2.1, Q.out.2.2]) rfl ⟨rfl, HL3.out⟩
def tolD (wd hg s : Int) (rs : List Int) : Int := if dcE wd hg s rs = 0 then wd else 0
def tolG (wd hg s : Int) (rs : List Int) : Int := if dcE wd hg s rs = 0 then hg else 0
theorem decode_same (wd hg s : Int) (a : Option Addr) (n cap : Nat) (rs : List Int) (w : World) (h : IntsAt w a n cap rs) :
    Calls Tryz.prog 87 #[.int .i64 wd, .int .i64 hg, .int .i64 s, .slice a n cap] w fun e w' => ∃ b m c, e = .returned (.tuple #[picV (tolD wd hg s rs) (tolG wd hg s rs) b m c, errv (dcE wd hg s rs)]) ∧ IntsAt w' b m c (tolR wd hg s rs) ∧ Lat w w' := by
  unfold tolD tolG tolR
  by_cases he : dcE wd hg s rs = 0
  · rw [if_pos he, if_pos he, if_pos he, he, errv_zero rfl]
    refine (decode_ok wd hg s a n cap rs w h he).mono ?_
    rintro e w' ⟨b, c, rfl, hat, hb⟩
    exact ⟨b, n, c, rfl, by rw [h.len]; exact hat, hb⟩
  · rw [if_neg he, if_neg he, if_neg he, errv_pos he]
    refine (decode_bad wd hg s a n cap rs w h he).mono ?_
    rintro e w' ⟨rfl, hb⟩
    exact ⟨none, 0, 0, rfl, IntsAt.nil _, hb⟩
def encR (wd hg : Int) (zs : List Int) (s : Int) : List Int := if encE wd hg zs s = 0 then (cod zs wd.toNat s zs.length).1 else []
end Go.Proofs.YtheimfdbadjpoaaGreatDoor

namespace Go.Proofs.YtheimfdbadjpoaaGreatDoor
open Go.ChangeShapes Go.WideShapes Go.ChangeAt Go.RowKit

structure HB (w : World) (X : Nat) (s : Int) (t : Bts) (W : World) : Prop where
  lo : w.heap.size ≤ X
  lt : X + 1 < W.heap.size
  c0 : W.cell? ⟨X, 0, none⟩ = some (.int .i64 s)
  c1 : W.cell? ⟨X, 1, none⟩ = some (.string (S t))
  r0 : W.cell? ⟨X + 1, 0, none⟩ = some (.int .i64 0)
  r1 : W.cell? ⟨X + 1, 1, none⟩ = some (.int .i64 0)
  r2 : W.cell? ⟨X + 1, 2, none⟩ = some (.int .i64 0)
  g0 : W.frozen? ⟨X + 1, 0, none⟩ = false
  g1 : W.frozen? ⟨X + 1, 1, none⟩ = false
  g2 : W.frozen? ⟨X + 1, 2, none⟩ = false
theorem HB.fr {w : World} {X : Nat} {s : Int} {t : Bts} {W W' : World} {H : Nat → Prop} (h : HB w X s t W) (hf : Fr H W W') (hH : ∀ i, H i → i < w.heap.size) : HB w X s t W' := by
  have lo := h.lo
  have lt := h.lt
  have n0 : ¬ H X := fun e => by have := hH X e; omega
  have n1 : ¬ H (X + 1) := fun e => by have := hH (X + 1) e; omega
  exact ⟨lo, Nat.lt_of_lt_of_le lt hf.size, hf.cell_at h.c0 n0, hf.cell_at h.c1 n0, hf.cell_at h.r0 n1, hf.cell_at h.r1 n1, hf.cell_at h.r2 n1, hf.free_at lt h.g0 n1, hf.free_at lt h.g1 n1, hf.free_at lt h.g2 n1⟩
theorem HB.keep {w : World} {X : Nat} {s : Int} {t : Bts} {W W' : World} (h : HB w X s t W) (hb : Lat W W') : HB w X s t W' := h.fr (H := fun _ => False) (Fr.lat hb) (fun _ e => e.elim)
structure HL (w : World) (X : Nat) (s : Int) (t : Bts) (W : World) : Prop extends HB w X s t W where
  lat : Lat w W
theorem HL.keep {w : World} {X : Nat} {s : Int} {t : Bts} {W W' : World} (h : HL w X s t W) (hb : Lat W W') : HL w X s t W' := ⟨h.toHB.keep hb, h.lat.trans hb⟩
theorem HL.new (w : World) (s : Int) (t : Bts) : HL w w.heap.size s t ((w.alloc (.cells #[.int .i64 s, .string (S t)] 43)).alloc (.cells #[.int .i64 0, .int .i64 0, .int .i64 0] 47)) := by
  obtain ⟨W1, hW⟩ : ∃ W1, W1 = w.alloc (.cells #[.int .i64 s, .string (S t)] 43) := ⟨_, rfl⟩
  have hz : W1.heap.size = w.heap.size + 1 := by rw [hW]; simp
  have c0 : W1.cell? ⟨w.heap.size, 0, none⟩ = some (.int .i64 s) := by rw [hW]; simp
  have c1 : W1.cell? ⟨w.heap.size, 1, none⟩ = some (.string (S t)) := by rw [hW]; simp
  have hl : Lat w W1 := by rw [hW]; exact Lat.alloc _ _
  rw [← hW]
  refine ⟨⟨Nat.le_refl _, by simp [hz], (Lat.alloc _ _).cell_at c0, (Lat.alloc _ _).cell_at c1, ?_, ?_, ?_, ?_, ?_, ?_⟩, hl.trans (Lat.alloc _ _)⟩
  all_goals (rw [← hz]; simp)
theorem three_put {w : World} {g : Nat} {a b c : Value} (c0 : w.cell? ⟨g, 0, none⟩ = some a) (c1 : w.cell? ⟨g, 1, none⟩ = some b) (c2 : w.cell? ⟨g, 2, none⟩ = some c) (x y z : Value) :
    (((w.setCell ⟨g, 0, none⟩ x).setCell ⟨g, 1, none⟩ y).setCell ⟨g, 2, none⟩ z).cell? ⟨g, 0, none⟩ = some x ∧ (((w.setCell ⟨g, 0, none⟩ x).setCell ⟨g, 1, none⟩ y).setCell ⟨g, 2, none⟩ z).cell? ⟨g, 1, none⟩ = some y ∧ (((w.setCell ⟨g, 0, none⟩ x).setCell ⟨g, 1, none⟩ y).setCell ⟨g, 2, none⟩ z).cell? ⟨g, 2, none⟩ = some z := by
  have q := two_put c0 c1 x y
  refine ⟨?_, ?_, ?_⟩
  · rw [World.cell?_setCell_other _ _ _ _ (by simp)]; exact q.1
  · rw [World.cell?_setCell_other _ _ _ _ (by simp)]; exact q.2
  · exact World.cell?_setCell_same _ _ _ ((World.cell?_setCell_other _ _ _ _ (by simp)).trans ((World.cell?_setCell_other _ _ _ _ (by simp)).trans c2))

def hrE (k m : Nat) (ds : List Dr) (s : Int) (t : Bts) : Nat := if drpE k m s (S t) ≠ 0 then drpE k m s (S t) else if 60 ≤ ds.length then 4 else 0
theorem hrE_zero {k m : Nat} {ds : List Dr} {s : Int} {t : Bts} (h : hrE k m ds s t = 0) : drpE k m s (S t) = 0 ∧ ds.length < 60 := by
  unfold hrE at h
  by_cases h1 : drpE k m s (S t) = 0
  · rw [if_neg (fun e => e h1)] at h
    split at h
    · cases h
    · exact ⟨h1, by omega⟩
  · rw [if_pos h1] at h; exact absurd h h1

set_option maxHeartbeats 4000000 in
set_option maxRecDepth 100000 in
theorem ear_hear_bad (G : Nat → Prop) (x k m n : Nat) (q : Int) (K0 : Kn) (L : List Wt) (ds : List Dr) (s : Int) (t : Bts) (w : World) (h : EarO G x k m n q K0 L ds w) (hE : hrE k m ds s t ≠ 0) :
    Calls Tryz.prog 15 #[.pointer (some ⟨x, 0, none⟩), .agg #[.int .i64 s, .string (S t)]] w fun e w' => e = .returned (.tuple #[.agg #[.int .i64 0, .int .i64 0, .int .i64 0], eno (hrE k m ds s t)]) ∧ Lat w w' := by
  obtain ⟨Gp, p, a, cap, h⟩ := h
  have hck := fun W => dchk_tells k m s (S t) W
  have HH := Lib.hid h
  by_cases h1 : drpE k m s (S t) = 0
  · have hfull : 60 ≤ ds.length := by
      rcases Nat.lt_or_ge ds.length 60 with h3 | h3
      · exact absurd (by unfold hrE; rw [if_neg (fun e => e h1), if_neg (by omega)]) hE
      · exact h3
    have e1 : hrE k m ds s t = 4 := by unfold hrE; rw [if_neg (fun e => e h1), if_pos hfull]
    rw [e1]
    rw [h1, errv_zero rfl] at hck
    have HCK : Hid (∀ W, Calls Tryz.prog 52 #[.int .i64 k, .int .i64 m, .agg #[.int .i64 s, .string (S t)]] W fun e w' => e = .returned .nilIface ∧ Lat W w') := hck
    obtain ⟨ln, hln⟩ : ∃ ln, ln = ds.length := ⟨_, rfl⟩
    have d60 : decide ((60 : Int) ≤ (ln : Int)) = true := decide_eq_true (by omega)
    have HLN := Lib.hid hln
    clear h hck h1 hE e1 hfull hln
    go_enter Tryz.func15, Tryz.ntmps15
    go_upto_region 1 with fail
    obtain ⟨X, hX⟩ : ∃ X, X = w.heap.size := ⟨_, rfl⟩
    obtain ⟨W0, hW0⟩ : ∃ W0, W0 = (w.alloc (.cells #[.int .i64 s, .string (S t)] 43)).alloc (.cells #[.int .i64 0, .int .i64 0, .int .i64 0] 47) := ⟨_, rfl⟩
    have hb0 := HL.new w s t
    rw [← hW0] at hb0
    rw [← hW0]
    rw [← hX] at hb0
    rw [← hX]
    have HX : Hid (X = w.heap.size) := hX
    clear hW0 hX
    have hF : W0.drew.cell? ⟨x, 1, none⟩ = some (.int .i64 k) ∧ W0.drew.cell? ⟨x, 2, none⟩ = some (.int .i64 m) ∧ W0.drew.cell? ⟨X, 0, none⟩ = some (.int .i64 s) ∧ W0.drew.cell? ⟨X, 1, none⟩ = some (.string (S t)) := ⟨hb0.lat.cell_at HH.out.c1, hb0.lat.cell_at HH.out.c2, hb0.c0, hb0.c1⟩
    have HB0 := Lib.hid (hb0.keep (Lat.drew W0))
    clear hb0
    refine wp_region_gate (fun w' => w'.cell? ⟨x, 1, none⟩ = some (.int .i64 k) ∧ w'.cell? ⟨x, 2, none⟩ = some (.int .i64 m) ∧ w'.cell? ⟨X, 0, none⟩ = some (.int .i64 s) ∧ w'.cell? ⟨X, 1, none⟩ = some (.string (S t))) (fun _ => True) 1000 (by kernel_rfl) ?_
    refine gate_takeF (i := 0) (v := ?_) rfl (by kernel_rfl) (by kernel_rfl) (by kernel_rfl) (fun _ _ _ h => h) (by decide) ⟨hF, fun _ => trivial⟩ (Or.inl ⟨by rfl, ?_⟩) ?_
    rotate_left
    · intro wq hSw; obtain ⟨s0, s1, s2, s3⟩ := hSw; go_simp; rfl
    simp only [Act.put]
    refine gate_takeF (i := 1) (v := ?_) rfl (by kernel_rfl) (by kernel_rfl) (by kernel_rfl) (fun _ _ _ h => h) (by decide) ⟨hF, fun _ => trivial⟩ (Or.inl ⟨by rfl, ?_⟩) ?_
    rotate_left
    · intro wq hSw; obtain ⟨s0, s1, s2, s3⟩ := hSw; go_simp; rfl
    simp only [Act.put]
    refine gate_takeF (i := 2) (v := ?_) rfl (by kernel_rfl) (by kernel_rfl) (by kernel_rfl) (fun _ _ _ h => h) (by decide) ⟨hF, fun _ => trivial⟩ (Or.inl ⟨by rfl, ?_⟩) ?_
    rotate_left
    · intro wq hSw; obtain ⟨s0, s1, s2, s3⟩ := hSw; go_simp; rfl
    simp only [Act.put]
    refine gate_takeF (i := 3) (v := ?_) rfl (by kernel_rfl) (by kernel_rfl) (by kernel_rfl) (fun _ _ _ h => h) (by decide) ⟨hF, fun _ => trivial⟩ (Or.inl ⟨by rfl, ?_⟩) ?_
    rotate_left
    · intro wq hSw; obtain ⟨s0, s1, s2, s3⟩ := hSw; go_simp; rfl
    simp only [Act.put]
    refine gate_takeF (i := 4) (v := ?_) rfl (by kernel_rfl) (by kernel_rfl) (by kernel_rfl) (fun _ _ _ h => h) (by decide) ⟨hF, fun _ => trivial⟩ (Or.inl ⟨by rfl, ?_⟩) ?_
    rotate_left
    · intro wq hSw; obtain ⟨s0, s1, s2, s3⟩ := hSw; go_simp; rfl
    simp only [Act.put]
    refine gate_takeF (i := 5) (v := ?_) rfl (by kernel_rfl) (by kernel_rfl) (by kernel_rfl) (fun _ _ _ h => h) (by decide) ⟨hF, fun _ => trivial⟩ (Or.inl ⟨by rfl, ?_⟩) ?_
    rotate_left
    · intro wq hSw; obtain ⟨s0, s1, s2, s3⟩ := hSw; go_simp; rfl
    simp only [Act.put]
    refine gate_takeF (i := 6) (v := ?_) rfl (by kernel_rfl) (by kernel_rfl) (by kernel_rfl) (fun _ _ _ h => h) (by decide) ⟨hF, fun _ => trivial⟩ (Or.inl ⟨by rfl, ?_⟩) ?_
    rotate_left
    · intro wq hSw; obtain ⟨s0, s1, s2, s3⟩ := hSw; go_simp; rfl
    simp only [Act.put]
    refine gate_takeF (i := 7) (v := ?_) rfl (by kernel_rfl) (by kernel_rfl) (by kernel_rfl) (fun _ _ _ h => h) (by decide) ⟨hF, fun _ => trivial⟩ (Or.inl ⟨by rfl, ?_⟩) ?_
    rotate_left
    · intro wq hSw; obtain ⟨s0, s1, s2, s3⟩ := hSw; go_simp; rfl
    simp only [Act.put]
    refine gate_takeF (i := 8) (v := ?_) rfl (by kernel_rfl) (by kernel_rfl) (by kernel_rfl) (fun _ _ _ h => h) (by decide) ⟨hF, fun _ => trivial⟩ (Or.inl ⟨by rfl, ?_⟩) ?_
    rotate_left
    · intro wq hSw; obtain ⟨s0, s1, s2, s3⟩ := hSw; go_simp; rfl
    simp only [Act.put]
    refine gate_one (i := 9) (by kernel_rfl) rfl (fun K hK => ?_)
    go_simp
    refine (HCK.out _).mono ?_
    rintro e w5 ⟨rfl, hb5⟩
    have hF' : w5.cell? ⟨x, 1, none⟩ = some (.int .i64 k) ∧ w5.cell? ⟨x, 2, none⟩ = some (.int .i64 m) ∧ w5.cell? ⟨X, 0, none⟩ = some (.int .i64 s) ∧ w5.cell? ⟨X, 1, none⟩ = some (.string (S t)) := ⟨hb5.cell_at hF.1, hb5.cell_at hF.2.1, hb5.cell_at hF.2.2.1, hb5.cell_at hF.2.2.2⟩
    refine hK _ _ ⟨hF', fun _ => trivial⟩ ?_
    clear hK K hF
    have hF := hF'
    clear hF'
    refine gate_takeF (i := 10) (v := ?_) rfl (by kernel_rfl) (by kernel_rfl) (by kernel_rfl) (fun _ _ _ h => h) (by decide) ⟨hF, fun _ => trivial⟩ (Or.inl ⟨by rfl, ?_⟩) ?_
    rotate_left
    · intro wq hSw; obtain ⟨s0, s1, s2, s3⟩ := hSw; go_simp; rfl
    simp only [Act.put]
    refine gate_done (by kernel_rfl) ?_ _
    have HB5 := Lib.hid (HB0.out.keep hb5)
    clear hb5 HB0 hF
    have c5 := HB5.out.lat.cell_at HH.out.c5
    rw [← HLN.out] at c5
    have e0 := HB5.out.r0
    have e1 := HB5.out.r1
    have e2 := HB5.out.r2
    have g0 := HB5.out.g0
    have g1 := HB5.out.g1
    have g2 := HB5.out.g2
    have QQ := three_put e0 e1 e2 (.int .i64 0) (.int .i64 0) (.int .i64 0)
    have hl : Lat w (((w5.setCell ⟨X + 1, 0, none⟩ (.int .i64 0)).setCell ⟨X + 1, 1, none⟩ (.int .i64 0)).setCell ⟨X + 1, 2, none⟩ (.int .i64 0)) := by
      have hw1 : w.heap.size ≤ X + 1 := by have := HX.out; omega
      exact ((HB5.out.lat.setCell (p := ⟨X + 1, 0, none⟩) hw1 _).setCell (p := ⟨X + 1, 1, none⟩) hw1 _).setCell (p := ⟨X + 1, 2, none⟩) hw1 _
    have HQ := Lib.hid QQ; have HLL := Lib.hid hl
    clear QQ hl
    go_wp2
    have Q0 := HQ.out
    exact bodyPost_ret (v := .tuple #[.agg #[.int .i64 0, .int .i64 0, .int .i64 0], eno 4]) (by simp [results, Tryz.results15, go_sem, Q0.1, Q0.2.1, Q0.2.2]) rfl ⟨rfl, HLL.out⟩
  · have e1 : hrE k m ds s t = drpE k m s (S t) := by unfold hrE; rw [if_pos h1]
    rw [e1]
    rw [errv_pos h1] at hck
    obtain ⟨E, hEE⟩ : ∃ E, E = drpE k m s (S t) := ⟨_, rfl⟩
    rw [← hEE] at hck ⊢
    have HCK : Hid (∀ W, Calls Tryz.prog 52 #[.int .i64 k, .int .i64 m, .agg #[.int .i64 s, .string (S t)]] W fun e w' => e = .returned (eno E) ∧ Lat W w') := hck
    clear h hck h1 hE hEE e1
    go_enter Tryz.func15, Tryz.ntmps15
    go_upto_region 1 with fail
    obtain ⟨X, hX⟩ : ∃ X, X = w.heap.size := ⟨_, rfl⟩
    obtain ⟨W0, hW0⟩ : ∃ W0, W0 = (w.alloc (.cells #[.int .i64 s, .string (S t)] 43)).alloc (.cells #[.int .i64 0, .int .i64 0, .int .i64 0] 47) := ⟨_, rfl⟩
    have hb0 := HL.new w s t
    rw [← hW0] at hb0
    rw [← hW0]
    rw [← hX] at hb0
    rw [← hX]
    have HX : Hid (X = w.heap.size) := hX
    clear hW0 hX
    have hF : W0.drew.cell? ⟨x, 1, none⟩ = some (.int .i64 k) ∧ W0.drew.cell? ⟨x, 2, none⟩ = some (.int .i64 m) ∧ W0.drew.cell? ⟨X, 0, none⟩ = some (.int .i64 s) ∧ W0.drew.cell? ⟨X, 1, none⟩ = some (.string (S t)) := ⟨hb0.lat.cell_at HH.out.c1, hb0.lat.cell_at HH.out.c2, hb0.c0, hb0.c1⟩
    have HB0 := Lib.hid (hb0.keep (Lat.drew W0))
    clear hb0
    refine wp_region_gate (fun w' => w'.cell? ⟨x, 1, none⟩ = some (.int .i64 k) ∧ w'.cell? ⟨x, 2, none⟩ = some (.int .i64 m) ∧ w'.cell? ⟨X, 0, none⟩ = some (.int .i64 s) ∧ w'.cell? ⟨X, 1, none⟩ = some (.string (S t))) (fun _ => True) 1000 (by kernel_rfl) ?_
    refine gate_takeF (i := 0) (v := ?_) rfl (by kernel_rfl) (by kernel_rfl) (by kernel_rfl) (fun _ _ _ h => h) (by decide) ⟨hF, fun _ => trivial⟩ (Or.inl ⟨by rfl, ?_⟩) ?_
    rotate_left
    · intro wq hSw; obtain ⟨s0, s1, s2, s3⟩ := hSw; go_simp; rfl
    simp only [Act.put]
    refine gate_takeF (i := 1) (v := ?_) rfl (by kernel_rfl) (by kernel_rfl) (by kernel_rfl) (fun _ _ _ h => h) (by decide) ⟨hF, fun _ => trivial⟩ (Or.inl ⟨by rfl, ?_⟩) ?_
    rotate_left
    · intro wq hSw; obtain ⟨s0, s1, s2, s3⟩ := hSw; go_simp; rfl
    simp only [Act.put]
    refine gate_takeF (i := 2) (v := ?_) rfl (by kernel_rfl) (by kernel_rfl) (by kernel_rfl) (fun _ _ _ h => h) (by decide) ⟨hF, fun _ => trivial⟩ (Or.inl ⟨by rfl, ?_⟩) ?_
    rotate_left
    · intro wq hSw; obtain ⟨s0, s1, s2, s3⟩ := hSw; go_simp; rfl
    simp only [Act.put]
    refine gate_takeF (i := 3) (v := ?_) rfl (by kernel_rfl) (by kernel_rfl) (by kernel_rfl) (fun _ _ _ h => h) (by decide) ⟨hF, fun _ => trivial⟩ (Or.inl ⟨by rfl, ?_⟩) ?_
    rotate_left
    · intro wq hSw; obtain ⟨s0, s1, s2, s3⟩ := hSw; go_simp; rfl
    simp only [Act.put]
    refine gate_takeF (i := 4) (v := ?_) rfl (by kernel_rfl) (by kernel_rfl) (by kernel_rfl) (fun _ _ _ h => h) (by decide) ⟨hF, fun _ => trivial⟩ (Or.inl ⟨by rfl, ?_⟩) ?_
    rotate_left
    · intro wq hSw; obtain ⟨s0, s1, s2, s3⟩ := hSw; go_simp; rfl
    simp only [Act.put]
    refine gate_takeF (i := 5) (v := ?_) rfl (by kernel_rfl) (by kernel_rfl) (by kernel_rfl) (fun _ _ _ h => h) (by decide) ⟨hF, fun _ => trivial⟩ (Or.inl ⟨by rfl, ?_⟩) ?_
    rotate_left
    · intro wq hSw; obtain ⟨s0, s1, s2, s3⟩ := hSw; go_simp; rfl
    simp only [Act.put]
    refine gate_takeF (i := 6) (v := ?_) rfl (by kernel_rfl) (by kernel_rfl) (by kernel_rfl) (fun _ _ _ h => h) (by decide) ⟨hF, fun _ => trivial⟩ (Or.inl ⟨by rfl, ?_⟩) ?_
    rotate_left
    · intro wq hSw; obtain ⟨s0, s1, s2, s3⟩ := hSw; go_simp; rfl
    simp only [Act.put]
    refine gate_takeF (i := 7) (v := ?_) rfl (by kernel_rfl) (by kernel_rfl) (by kernel_rfl) (fun _ _ _ h => h) (by decide) ⟨hF, fun _ => trivial⟩ (Or.inl ⟨by rfl, ?_⟩) ?_
    rotate_left
    · intro wq hSw; obtain ⟨s0, s1, s2, s3⟩ := hSw; go_simp; rfl
    simp only [Act.put]
    refine gate_takeF (i := 8) (v := ?_) rfl (by kernel_rfl) (by kernel_rfl) (by kernel_rfl) (fun _ _ _ h => h) (by decide) ⟨hF, fun _ => trivial⟩ (Or.inl ⟨by rfl, ?_⟩) ?_
    rotate_left
    · intro wq hSw; obtain ⟨s0, s1, s2, s3⟩ := hSw; go_simp; rfl
    simp only [Act.put]
    refine gate_one (i := 9) (by kernel_rfl) rfl (fun K hK => ?_)
    go_simp
    refine (HCK.out _).mono ?_
    rintro e w5 ⟨rfl, hb5⟩
    have hF' : w5.cell? ⟨x, 1, none⟩ = some (.int .i64 k) ∧ w5.cell? ⟨x, 2, none⟩ = some (.int .i64 m) ∧ w5.cell? ⟨X, 0, none⟩ = some (.int .i64 s) ∧ w5.cell? ⟨X, 1, none⟩ = some (.string (S t)) := ⟨hb5.cell_at hF.1, hb5.cell_at hF.2.1, hb5.cell_at hF.2.2.1, hb5.cell_at hF.2.2.2⟩
    refine hK _ _ ⟨hF', fun _ => trivial⟩ ?_
    clear hK K hF
    have hF := hF'
    clear hF'
    refine gate_takeF (i := 10) (v := ?_) rfl (by kernel_rfl) (by kernel_rfl) (by kernel_rfl) (fun _ _ _ h => h) (by decide) ⟨hF, fun _ => trivial⟩ (Or.inl ⟨by rfl, ?_⟩) ?_
    rotate_left
    · intro wq hSw; obtain ⟨s0, s1, s2, s3⟩ := hSw; go_simp; rfl
    simp only [Act.put]
    refine gate_done (by kernel_rfl) ?_ _
    have HB5 := Lib.hid (HB0.out.keep hb5)
    clear hb5 HB0 hF
    have e0 := HB5.out.r0
    have e1 := HB5.out.r1
    have e2 := HB5.out.r2
    have g0 := HB5.out.g0
    have g1 := HB5.out.g1
    have g2 := HB5.out.g2
    have QQ := three_put e0 e1 e2 (.int .i64 0) (.int .i64 0) (.int .i64 0)
    have hl : Lat w (((w5.setCell ⟨X + 1, 0, none⟩ (.int .i64 0)).setCell ⟨X + 1, 1, none⟩ (.int .i64 0)).setCell ⟨X + 1, 2, none⟩ (.int .i64 0)) := by
      have hw1 : w.heap.size ≤ X + 1 := by have := HX.out; omega
      exact ((HB5.out.lat.setCell (p := ⟨X + 1, 0, none⟩) hw1 _).setCell (p := ⟨X + 1, 1, none⟩) hw1 _).setCell (p := ⟨X + 1, 2, none⟩) hw1 _
    have HQ := Lib.hid QQ; have HLL := Lib.hid hl
    clear QQ hl
    go_wp2
    have Q0 := HQ.out
    exact bodyPost_ret (v := .tuple #[.agg #[.int .i64 0, .int .i64 0, .int .i64 0], eno E]) (by simp [results, Tryz.results15, go_sem, Q0.1, Q0.2.1, Q0.2.2]) rfl ⟨rfl, HLL.out⟩

set_option maxHeartbeats 4000000 in
set_option maxRecDepth 100000 in
theorem ear_hear_old (G : Nat → Prop) (x k m n : Nat) (q : Int) (K0 : Kn) (L : List Wt) (ds : List Dr) (s : Int) (t : Bts) (w : World) (h : EarO G x k m n q K0 L ds w) (hE : hrE k m ds s t = 0) (hmem : s ∈ ds.map Dr.s) (qn : Int) (hqn : wrap64 (q + 1) = qn) :
    Calls Tryz.prog 15 #[.pointer (some ⟨x, 0, none⟩), .agg #[.int .i64 s, .string (S t)]] w fun e w' => e = .returned (.tuple #[.agg #[.int .i64 qn, .int .i64 (ds.length : Nat), .int .i64 ((knwL K0 k).length : Nat)], .nilIface]) ∧ EarStep G x k m n qn K0 L ds w w' := by
  obtain ⟨Gp, p, a, cap, h⟩ := h
  obtain ⟨hde, hl60⟩ := hrE_zero hE
  have hck := fun W => dchk_tells k m s (S t) W
  rw [hde, errv_zero rfl] at hck
  have hd2 := drpE_zero hde
  have hk16 : k ≤ 16 := by omega
  have HCK : Hid (∀ W, Calls Tryz.prog 52 #[.int .i64 k, .int .i64 m, .agg #[.int .i64 s, .string (S t)]] W fun e w' => e = .returned .nilIface ∧ Lat W w') := hck
  obtain ⟨ln, hln⟩ : ∃ ln, ln = ds.length := ⟨_, rfl⟩
  have d60 : decide ((60 : Int) ≤ (ln : Int)) = false := decide_eq_false (by omega)
  have HH := Lib.hid h; have HMEM := Lib.hid hmem; have HDE := Lib.hid hde; have HLN := Lib.hid hln; have HL60 := Lib.hid hl60
  obtain ⟨kn, hkn⟩ : ∃ kn, kn = (knwL K0 k).length := ⟨_, rfl⟩
  have HKN := Lib.hid hkn
  rw [← hln, ← hkn]
  clear h hck hE hde hd2 hln hkn hmem hl60
  go_enter Tryz.func15, Tryz.ntmps15
  go_upto_region 1 with fail
  obtain ⟨X, hX⟩ : ∃ X, X = w.heap.size := ⟨_, rfl⟩
  obtain ⟨W0, hW0⟩ : ∃ W0, W0 = (w.alloc (.cells #[.int .i64 s, .string (S t)] 43)).alloc (.cells #[.int .i64 0, .int .i64 0, .int .i64 0] 47) := ⟨_, rfl⟩
  have hb0 := HL.new w s t
  rw [← hW0] at hb0
  rw [← hW0]
  rw [← hX] at hb0
  rw [← hX]
  have HX : Hid (X = w.heap.size) := hX
  clear hW0 hX
  have hF : W0.drew.cell? ⟨x, 1, none⟩ = some (.int .i64 k) ∧ W0.drew.cell? ⟨x, 2, none⟩ = some (.int .i64 m) ∧ W0.drew.cell? ⟨X, 0, none⟩ = some (.int .i64 s) ∧ W0.drew.cell? ⟨X, 1, none⟩ = some (.string (S t)) := ⟨hb0.lat.cell_at HH.out.c1, hb0.lat.cell_at HH.out.c2, hb0.c0, hb0.c1⟩
  have HB0 := Lib.hid (hb0.keep (Lat.drew W0))
  clear hb0
  refine wp_region_gate (fun w' => w'.cell? ⟨x, 1, none⟩ = some (.int .i64 k) ∧ w'.cell? ⟨x, 2, none⟩ = some (.int .i64 m) ∧ w'.cell? ⟨X, 0, none⟩ = some (.int .i64 s) ∧ w'.cell? ⟨X, 1, none⟩ = some (.string (S t))) (fun _ => True) 1000 (by kernel_rfl) ?_
  refine gate_takeF (i := 0) (v := ?_) rfl (by kernel_rfl) (by kernel_rfl) (by kernel_rfl) (fun _ _ _ h => h) (by decide) ⟨hF, fun _ => trivial⟩ (Or.inl ⟨by rfl, ?_⟩) ?_
  rotate_left
  · intro wq hSw; obtain ⟨s0, s1, s2, s3⟩ := hSw; go_simp; rfl
  simp only [Act.put]
  refine gate_takeF (i := 1) (v := ?_) rfl (by kernel_rfl) (by kernel_rfl) (by kernel_rfl) (fun _ _ _ h => h) (by decide) ⟨hF, fun _ => trivial⟩ (Or.inl ⟨by rfl, ?_⟩) ?_
  rotate_left
  · intro wq hSw; obtain ⟨s0, s1, s2, s3⟩ := hSw; go_simp; rfl
  simp only [Act.put]
  refine gate_takeF (i := 2) (v := ?_) rfl (by kernel_rfl) (by kernel_rfl) (by kernel_rfl) (fun _ _ _ h => h) (by decide) ⟨hF, fun _ => trivial⟩ (Or.inl ⟨by rfl, ?_⟩) ?_
  rotate_left
  · intro wq hSw; obtain ⟨s0, s1, s2, s3⟩ := hSw; go_simp; rfl
  simp only [Act.put]
  refine gate_takeF (i := 3) (v := ?_) rfl (by kernel_rfl) (by kernel_rfl) (by kernel_rfl) (fun _ _ _ h => h) (by decide) ⟨hF, fun _ => trivial⟩ (Or.inl ⟨by rfl, ?_⟩) ?_
  rotate_left
  · intro wq hSw; obtain ⟨s0, s1, s2, s3⟩ := hSw; go_simp; rfl
  simp only [Act.put]
  refine gate_takeF (i := 4) (v := ?_) rfl (by kernel_rfl) (by kernel_rfl) (by kernel_rfl) (fun _ _ _ h => h) (by decide) ⟨hF, fun _ => trivial⟩ (Or.inl ⟨by rfl, ?_⟩) ?_
  rotate_left
  · intro wq hSw; obtain ⟨s0, s1, s2, s3⟩ := hSw; go_simp; rfl
  simp only [Act.put]
  refine gate_takeF (i := 5) (v := ?_) rfl (by kernel_rfl) (by kernel_rfl) (by kernel_rfl) (fun _ _ _ h => h) (by decide) ⟨hF, fun _ => trivial⟩ (Or.inl ⟨by rfl, ?_⟩) ?_
  rotate_left
  · intro wq hSw; obtain ⟨s0, s1, s2, s3⟩ := hSw; go_simp; rfl
  simp only [Act.put]
  refine gate_takeF (i := 6) (v := ?_) rfl (by kernel_rfl) (by kernel_rfl) (by kernel_rfl) (fun _ _ _ h => h) (by decide) ⟨hF, fun _ => trivial⟩ (Or.inl ⟨by rfl, ?_⟩) ?_
  rotate_left
  · intro wq hSw; obtain ⟨s0, s1, s2, s3⟩ := hSw; go_simp; rfl
  simp only [Act.put]
  refine gate_takeF (i := 7) (v := ?_) rfl (by kernel_rfl) (by kernel_rfl) (by kernel_rfl) (fun _ _ _ h => h) (by decide) ⟨hF, fun _ => trivial⟩ (Or.inl ⟨by rfl, ?_⟩) ?_
  rotate_left
  · intro wq hSw; obtain ⟨s0, s1, s2, s3⟩ := hSw; go_simp; rfl
  simp only [Act.put]
  refine gate_takeF (i := 8) (v := ?_) rfl (by kernel_rfl) (by kernel_rfl) (by kernel_rfl) (fun _ _ _ h => h) (by decide) ⟨hF, fun _ => trivial⟩ (Or.inl ⟨by rfl, ?_⟩) ?_
  rotate_left
  · intro wq hSw; obtain ⟨s0, s1, s2, s3⟩ := hSw; go_simp; rfl
  simp only [Act.put]
  refine gate_one (i := 9) (by kernel_rfl) rfl (fun K hK => ?_)
  go_simp
  refine (HCK.out _).mono ?_
  rintro e w5 ⟨rfl, hb5⟩
  have hF' : w5.cell? ⟨x, 1, none⟩ = some (.int .i64 k) ∧ w5.cell? ⟨x, 2, none⟩ = some (.int .i64 m) ∧ w5.cell? ⟨X, 0, none⟩ = some (.int .i64 s) ∧ w5.cell? ⟨X, 1, none⟩ = some (.string (S t)) := ⟨hb5.cell_at hF.1, hb5.cell_at hF.2.1, hb5.cell_at hF.2.2.1, hb5.cell_at hF.2.2.2⟩
  refine hK _ _ ⟨hF', fun _ => trivial⟩ ?_
  clear hK K hF
  have hF := hF'
  clear hF'
  refine gate_takeF (i := 10) (v := ?_) rfl (by kernel_rfl) (by kernel_rfl) (by kernel_rfl) (fun _ _ _ h => h) (by decide) ⟨hF, fun _ => trivial⟩ (Or.inl ⟨by rfl, ?_⟩) ?_
  rotate_left
  · intro wq hSw; obtain ⟨s0, s1, s2, s3⟩ := hSw; go_simp; rfl
  simp only [Act.put]
  refine gate_done (by kernel_rfl) ?_ _
  have HB5 := Lib.hid (HB0.out.keep hb5)
  clear hb5 HB0 hF
  have c5 := HB5.out.lat.cell_at HH.out.c5
  rw [← HLN.out] at c5
  go_upto_region 6 with fail
  clear c5
  have hF : w5.drew.cell? ⟨X, 0, none⟩ = some (.int .i64 s) ∧ w5.drew.cell? ⟨X, 1, none⟩ = some (.string (S t)) := ⟨HB5.out.c0, HB5.out.c1⟩
  have HB6 := Lib.hid (HB5.out.keep (Lat.drew w5))
  refine wp_region_gate (fun w' => w'.cell? ⟨X, 0, none⟩ = some (.int .i64 s) ∧ w'.cell? ⟨X, 1, none⟩ = some (.string (S t))) (fun _ => True) 1000 (by kernel_rfl) ?_
  refine gate_takeF (i := 0) (v := ?_) rfl (by kernel_rfl) (by kernel_rfl) (by kernel_rfl) (fun _ _ _ h => h) (by decide) ⟨hF, fun _ => trivial⟩ (Or.inl ⟨by rfl, ?_⟩) ?_
  rotate_left
  · intro wq hSw; obtain ⟨s0, s1⟩ := hSw; go_simp; rfl
  simp only [Act.put]
  refine gate_takeF (i := 2) (v := ?_) rfl (by kernel_rfl) (by kernel_rfl) (by kernel_rfl) (fun _ _ _ h => h) (by decide) ⟨hF, fun _ => trivial⟩ (Or.inl ⟨by rfl, ?_⟩) ?_
  rotate_left
  · intro wq hSw; obtain ⟨s0, s1⟩ := hSw; go_simp; rfl
  simp only [Act.put]
  refine gate_takeF (i := 3) (v := ?_) rfl (by kernel_rfl) (by kernel_rfl) (by kernel_rfl) (fun _ _ _ h => h) (by decide) ⟨hF, fun _ => trivial⟩ (Or.inl ⟨by rfl, ?_⟩) ?_
  rotate_left
  · intro wq hSw; obtain ⟨s0, s1⟩ := hSw; go_simp; rfl
  simp only [Act.put]
  refine gate_one (i := 1) (by kernel_rfl) rfl (fun K hK => ?_)
  have hsd := ear_seeds G x k m n q K0 L ds w5.drew ⟨Gp, p, a, cap, HH.out.keep HB6.out.lat⟩
  rw [← HLN.out] at hsd
  go_simp
  refine hsd.mono ?_
  rintro e w6 ⟨ya, yc, rfl, hyi, hb6⟩
  have hF' : w6.cell? ⟨X, 0, none⟩ = some (.int .i64 s) ∧ w6.cell? ⟨X, 1, none⟩ = some (.string (S t)) := ⟨hb6.cell_at hF.1, hb6.cell_at hF.2⟩
  refine hK _ _ ⟨hF', fun _ => trivial⟩ ?_
  clear hK K hF hsd
  have hF := hF'
  clear hF'
  refine gate_one (i := 4) (by kernel_rfl) rfl (fun K hK => ?_)
  go_simp
  refine (containsI_yes ya ln yc _ _ w6 hyi HMEM.out).mono ?_
  rintro e w7 ⟨rfl, rfl⟩
  refine hK _ _ ⟨hF, fun _ => trivial⟩ ?_
  clear hK K
  refine gate_takeF (i := 5) (v := ?_) rfl (by kernel_rfl) (by kernel_rfl) (by kernel_rfl) (fun _ _ _ h => h) (by decide) ⟨hF, fun _ => trivial⟩ (Or.inl ⟨by rfl, ?_⟩) ?_
  rotate_left
  · intro wq hSw; obtain ⟨s0, s1⟩ := hSw; go_simp; rfl
  simp only [Act.put]
  refine gate_done (by kernel_rfl) ?_ _
  have HB7 := Lib.hid (HB6.out.keep hb6)
  clear hb6 hyi HB6 hF HB5
  have HE := Lib.hid (HH.out.keep HB7.out.lat)
  have HBB := Lib.hid HB7.out.toHB
  have HFR : Hid (Fr G w w6) := Fr.lat HB7.out.lat
  have HLL : Hid (ds.length = ln) := HLN.out.symm
  have HNX : Hid (∀ i, G i → i ≠ X + 1) := fun i hi e => by have := HH.out.lt i hi; have := HX.out; omega
  have HGI : Hid (∀ i, G i → G i ∨ w.heap.size ≤ i) := fun i hi => .inl hi
  have c4 := HE.out.c4
  have f4 := HE.out.f4
  go_upto_region 12 with fail
  clear c4 f4
  have hcnt := HE.out.count qn
  have hbb := HBB.out.fr (Fr.set (S := fun i => i = x) _ ⟨x, 4, none⟩ (.int .i64 qn) rfl) (fun i e => by rw [e]; exact HH.out.lt x HH.out.gx)
  have hfrc := HFR.out.then_set ⟨x, 4, none⟩ (.int .i64 qn) (.inl HH.out.gx)
  generalize hwe : World.setCell _ ⟨x, 4, none⟩ (.int .i64 qn) = we at hcnt hbb hfrc ⊢
  have hc4 := hcnt.c4
  have hc5 := hcnt.c5
  rw [HLL.out] at hc5
  have hF : we.drew.cell? ⟨x, 4, none⟩ = some (.int .i64 qn) ∧ we.drew.cell? ⟨x, 5, none⟩ = some (.slice a ln cap) ∧ we.drew.cell? ⟨x, 0, none⟩ = some (.pointer (some ⟨p, 0, none⟩)) := ⟨hc4, hc5, hcnt.c0⟩
  have hG : we.drew.cell? ⟨X + 1, 0, none⟩ = some (.int .i64 0) ∧ we.drew.cell? ⟨X + 1, 1, none⟩ = some (.int .i64 0) ∧ we.drew.cell? ⟨X + 1, 2, none⟩ = some (.int .i64 0) := ⟨hbb.r0, hbb.r1, hbb.r2⟩
  have HEC := Lib.hid hcnt; have HBC := Lib.hid hbb; have HFC := Lib.hid hfrc
  clear hwe hcnt hbb hfrc hc4 hc5 HE HBB HFR
  refine wp_region_gate (fun w' => w'.cell? ⟨x, 4, none⟩ = some (.int .i64 qn) ∧ w'.cell? ⟨x, 5, none⟩ = some (.slice a ln cap) ∧ w'.cell? ⟨x, 0, none⟩ = some (.pointer (some ⟨p, 0, none⟩))) (fun w' => w'.cell? ⟨X + 1, 0, none⟩ = some (.int .i64 0) ∧ w'.cell? ⟨X + 1, 1, none⟩ = some (.int .i64 0) ∧ w'.cell? ⟨X + 1, 2, none⟩ = some (.int .i64 0)) 16 (by kernel_rfl) ?_
  refine gate_takeF (i := 0) (v := ?_) rfl (by kernel_rfl) (by kernel_rfl) (by kernel_rfl) (fun _ _ _ h => h) (by decide) ⟨hF, fun _ => hG⟩ (Or.inl ⟨by rfl, ?_⟩) ?_
  rotate_left
  · intro wq hSw; obtain ⟨s0, s1, s2⟩ := hSw; go_simp; rfl
  simp only [Act.put]
  refine gate_takeF (i := 1) (v := ?_) rfl (by kernel_rfl) (by kernel_rfl) (by kernel_rfl) (fun _ _ _ h => h) (by decide) ⟨hF, fun _ => hG⟩ (Or.inl ⟨by rfl, ?_⟩) ?_
  rotate_left
  · intro wq hSw; obtain ⟨s0, s1, s2⟩ := hSw; go_simp; rfl
  simp only [Act.put]
  refine gate_takeF (i := 2) (v := ?_) rfl (by kernel_rfl) (by kernel_rfl) (by kernel_rfl) (fun _ _ _ h => h) (by decide) ⟨hF, fun _ => hG⟩ (Or.inl ⟨by rfl, ?_⟩) ?_
  rotate_left
  · intro wq hSw; obtain ⟨s0, s1, s2⟩ := hSw; go_simp; rfl
  simp only [Act.put]
  refine gate_takeF (i := 3) (v := ?_) rfl (by kernel_rfl) (by kernel_rfl) (by kernel_rfl) (fun _ _ _ h => h) (by decide) ⟨hF, fun _ => hG⟩ (Or.inl ⟨by rfl, ?_⟩) ?_
  rotate_left
  · intro wq hSw; obtain ⟨s0, s1, s2⟩ := hSw; go_simp; rfl
  simp only [Act.put]
  refine gate_takeF (i := 4) (v := ?_) rfl (by kernel_rfl) (by kernel_rfl) (by kernel_rfl) (fun _ _ _ h => h) (by decide) ⟨hF, fun _ => hG⟩ (Or.inl ⟨by rfl, ?_⟩) ?_
  rotate_left
  · intro wq hSw; obtain ⟨s0, s1, s2⟩ := hSw; go_simp; rfl
  simp only [Act.put]
  refine gate_takeF (i := 5) (v := ?_) rfl (by kernel_rfl) (by kernel_rfl) (by kernel_rfl) (fun _ _ _ h => h) (by decide) ⟨hF, fun _ => hG⟩ (Or.inl ⟨by rfl, ?_⟩) ?_
  rotate_left
  · intro wq hSw; obtain ⟨s0, s1, s2⟩ := hSw; go_simp; rfl
  simp only [Act.put]
  refine gate_takeF (i := 6) (v := ?_) rfl (by kernel_rfl) (by kernel_rfl) (by kernel_rfl) (fun _ _ _ h => h) (by decide) ⟨hF, fun _ => hG⟩ (Or.inl ⟨by rfl, ?_⟩) ?_
  rotate_left
  · intro wq hSw; obtain ⟨s0, s1, s2⟩ := hSw; go_simp; rfl
  simp only [Act.put]
  refine gate_takeF (i := 7) (v := ?_) rfl (by kernel_rfl) (by kernel_rfl) (by kernel_rfl) (fun _ _ _ h => h) (by decide) ⟨hF, fun _ => hG⟩ (Or.inl ⟨by rfl, ?_⟩) ?_
  rotate_left
  · intro wq hSw; obtain ⟨s0, s1, s2⟩ := hSw; go_simp; rfl
  simp only [Act.put]
  refine gate_takeF (i := 8) (v := ?_) rfl (by kernel_rfl) (by kernel_rfl) (by kernel_rfl) (fun _ _ _ h => h) (by decide) ⟨hF, fun _ => hG⟩ (Or.inl ⟨by rfl, ?_⟩) ?_
  rotate_left
  · intro wq hSw; obtain ⟨s0, s1, s2⟩ := hSw; go_simp; rfl
  simp only [Act.put]
  refine gate_takeF (i := 9) (v := ?_) rfl (by kernel_rfl) (by kernel_rfl) (by kernel_rfl) (fun _ _ _ h => h) (by decide) ⟨hF, fun _ => hG⟩ (Or.inl ⟨by rfl, ?_⟩) ?_
  rotate_left
  · intro wq hSw; obtain ⟨s0, s1, s2⟩ := hSw; go_simp; rfl
  simp only [Act.put]
  refine gate_takeF (i := 10) (v := ?_) rfl (by kernel_rfl) (by kernel_rfl) (by kernel_rfl) (fun _ _ _ h => h) (by decide) ⟨hF, fun _ => hG⟩ (Or.inl ⟨by rfl, ?_⟩) ?_
  rotate_left
  · intro wq hSw; obtain ⟨s0, s1, s2⟩ := hSw; go_simp; rfl
  simp only [Act.put]
  refine gate_takeF (i := 11) (v := ?_) rfl (by kernel_rfl) (by kernel_rfl) (by kernel_rfl) (fun _ _ _ h => h) (by decide) ⟨hF, fun _ => hG⟩ (Or.inl ⟨by rfl, ?_⟩) ?_
  rotate_left
  · intro wq hSw; obtain ⟨s0, s1, s2⟩ := hSw; go_simp; rfl
  simp only [Act.put]
  refine gate_takeF (i := 12) (v := ?_) rfl (by kernel_rfl) (by kernel_rfl) (by kernel_rfl) (fun _ _ _ h => h) (by decide) ⟨hF, fun _ => hG⟩ (Or.inl ⟨by rfl, ?_⟩) ?_
  rotate_left
  · intro wq hSw; obtain ⟨s0, s1, s2⟩ := hSw; go_simp; rfl
  simp only [Act.put]
  refine gate_one (i := 13) (by kernel_rfl) rfl (fun K hK => ?_)
  have hkn := peel_knows _ p k m _ _ _ we.drew (HEC.out.keep (Lat.drew we)).peel hk16
  rw [← HKN.out] at hkn
  go_simp
  refine hkn.mono ?_
  rintro e wk ⟨oa, oc, rfl, _, hbk⟩
  have hF' : wk.cell? ⟨x, 4, none⟩ = some (.int .i64 qn) ∧ wk.cell? ⟨x, 5, none⟩ = some (.slice a ln cap) ∧ wk.cell? ⟨x, 0, none⟩ = some (.pointer (some ⟨p, 0, none⟩)) := ⟨hbk.cell_at hF.1, hbk.cell_at hF.2.1, hbk.cell_at hF.2.2⟩
  have hG' : wk.cell? ⟨X + 1, 0, none⟩ = some (.int .i64 0) ∧ wk.cell? ⟨X + 1, 1, none⟩ = some (.int .i64 0) ∧ wk.cell? ⟨X + 1, 2, none⟩ = some (.int .i64 0) := ⟨hbk.cell_at hG.1, hbk.cell_at hG.2.1, hbk.cell_at hG.2.2⟩
  have HBK := Lib.hid ((Lat.drew we).trans hbk)
  refine hK _ _ ⟨hF', fun _ => hG'⟩ ?_
  clear hK K hF hG hkn hbk
  have hF := hF'
  have hG := hG'
  clear hF' hG'
  refine gate_takeF (i := 14) (v := ?_) rfl (by kernel_rfl) (by kernel_rfl) (by kernel_rfl) (fun _ _ _ h => h) (by decide) ⟨hF, fun _ => hG⟩ (Or.inl ⟨by rfl, ?_⟩) ?_
  rotate_left
  · intro wq hSw; obtain ⟨s0, s1, s2⟩ := hSw; go_simp; rfl
  simp only [Act.put]
  refine gate_takeF (i := 15) (v := ?_) rfl (by kernel_rfl) (by kernel_rfl) (by kernel_rfl) (fun _ _ _ h => h) (by decide) ⟨hF, fun _ => hG⟩ (Or.inl ⟨by rfl, ?_⟩) ?_
  rotate_left
  · intro wq hSw; obtain ⟨s0, s1, s2⟩ := hSw; go_simp; rfl
  simp only [Act.put]
  have hbf := HBC.out.keep HBK.out
  have e0 := hG.1
  have e1 := hG.2.1
  have e2 := hG.2.2
  have g0 := hbf.g0
  have g1 := hbf.g1
  have g2 := hbf.g2
  have HBF := Lib.hid hbf
  have hqX : ∀ i, i ≠ X + 1 → ∀ j v u1 u2 u3, wk.cell? ⟨i, j, none⟩ = some v → (((wk.setCell ⟨X + 1, 0, none⟩ u1).setCell ⟨X + 1, 1, none⟩ u2).setCell ⟨X + 1, 2, none⟩ u3).cell? ⟨i, j, none⟩ = some v := fun i hi j v u1 u2 u3 hv => by
    rw [World.cell?_setCell_other _ _ _ _ (by intro e; injection e with e _ _; exact hi e.symm), World.cell?_setCell_other _ _ _ _ (by intro e; injection e with e _ _; exact hi e.symm), World.cell?_setCell_other _ _ _ _ (by intro e; injection e with e _ _; exact hi e.symm)]; exact hv
  have hxX : x ≠ X + 1 := by have := HH.out.lt x HH.out.gx; have := HX.out; omega
  have hF9 := fun u1 u2 u3 => And.intro (hqX x hxX _ _ u1 u2 u3 hF.1) (And.intro (hqX x hxX _ _ u1 u2 u3 hF.2.1) (hqX x hxX _ _ u1 u2 u3 hF.2.2))
  have HF9 := Lib.hid hF9
  have QQ := three_put hG.1 hG.2.1 hG.2.2 (.int .i64 qn) (.int .i64 (ln : Nat)) (.int .i64 (kn : Nat))
  have HQQ := Lib.hid QQ
  refine gate_one (i := 16) (by kernel_rfl) rfl (fun K hK => ?_)
  clear hF9 hqX QQ hbf
  go_simp
  refine hK _ _ (FG.past (by kernel_rfl) (HF9.out _ _ _)) ?_
  clear hK K hF hG e0 e1 e2 g0 g1 g2
  refine gate_takeF (i := 17) (v := ?_) rfl (by kernel_rfl) (by kernel_rfl) (by kernel_rfl) (fun _ _ _ h => h) (by decide) (FG.past (by kernel_rfl) (HF9.out _ _ _)) (Or.inl ⟨by rfl, ?_⟩) ?_
  rotate_left
  · intro wq hSw; go_simp; rfl
  simp only [Act.put]
  refine gate_done (by kernel_rfl) ?_ _
  simp only [List.getElem_toArray, List.getElem_cons_succ, List.getElem_cons_zero]
  go_wp2
  have hff : Fr (fun i => i = X + 1) wk (((wk.setCell ⟨X + 1, 0, none⟩ (.int .i64 qn)).setCell ⟨X + 1, 1, none⟩ (.int .i64 (ln : Nat))).setCell ⟨X + 1, 2, none⟩ (.int .i64 (kn : Nat))) := ((Fr.set (S := fun i => i = X + 1) wk ⟨X + 1, 0, none⟩ _ rfl).then_set ⟨X + 1, 1, none⟩ _ (.inl rfl)).then_set ⟨X + 1, 2, none⟩ _ (.inl rfl)
  have hfin : EarStep G x k m n qn K0 L ds w (((wk.setCell ⟨X + 1, 0, none⟩ (.int .i64 qn)).setCell ⟨X + 1, 1, none⟩ (.int .i64 (ln : Nat))).setCell ⟨X + 1, 2, none⟩ (.int .i64 (kn : Nat))) :=
    ⟨(HFC.out.next HBK.out).trans hff (fun i hi e => by have := HX.out; omega), _, ⟨_, _, _, _, (HEC.out.keep HBK.out).fr hff (fun i hi e => HNX.out i hi e)⟩, HGI.out⟩
  have Q0 := HQQ.out
  refine bodyPost_ret (v := .tuple #[.agg #[.int .i64 qn, .int .i64 (ln : Nat), .int .i64 (kn : Nat)], .nilIface]) (by simp [results, Tryz.results15, go_sem, Q0.1, Q0.2.1, Q0.2.2]) rfl ⟨?_, hfin⟩
  rfl

set_option maxHeartbeats 4000000 in
set_option maxRecDepth 100000 in
theorem ear_hear_new (G : Nat → Prop) (x k m n : Nat) (q : Int) (K0 : Kn) (L : List Wt) (ds : List Dr) (s : Int) (t : Bts) (w : World) (h : EarO G x k m n q K0 L ds w) (hE : hrE k m ds s t = 0) (hmem : s ∉ ds.map Dr.s) (qn : Int) (hqn : wrap64 (q + 1) = qn) :
    Calls Tryz.prog 15 #[.pointer (some ⟨x, 0, none⟩), .agg #[.int .i64 s, .string (S t)]] w fun e w' => e = .returned (.tuple #[.agg #[.int .i64 qn, .int .i64 (ds.length + 1 : Nat), .int .i64 ((knwL (lrnK k K0 (L ++ [(setZ k s.toNat, t)])) k).length : Nat)], .nilIface]) ∧ EarStep G x k m n qn (lrnK k K0 (L ++ [(setZ k s.toNat, t)])) (lrnL k K0 (L ++ [(setZ k s.toNat, t)])) (ds ++ [⟨s, S t⟩]) w w' := by
  obtain ⟨Gp, p, a, cap, h⟩ := h
  obtain ⟨hde, hl60⟩ := hrE_zero hE
  have hck := fun W => dchk_tells k m s (S t) W
  rw [hde, errv_zero rfl] at hck
  have hd2 := drpE_zero hde
  have hk16 : k ≤ 16 := by omega
  have HCK : Hid (∀ W, Calls Tryz.prog 52 #[.int .i64 k, .int .i64 m, .agg #[.int .i64 s, .string (S t)]] W fun e w' => e = .returned .nilIface ∧ Lat W w') := hck
  obtain ⟨ln, hln⟩ : ∃ ln, ln = ds.length := ⟨_, rfl⟩
  have d60 : decide ((60 : Int) ≤ (ln : Int)) = false := decide_eq_false (by omega)
  have HH := Lib.hid h; have HMEM := Lib.hid hmem; have HDE := Lib.hid hde; have HLN := Lib.hid hln; have HL60 := Lib.hid hl60
  have hte : tkE k m (ds.map Dr.s) s t = 0 := by
    unfold tkE
    rw [if_neg (fun e => e hde), if_neg hmem, if_neg (by rw [List.length_map]; omega)]
  have HTE := Lib.hid hte
  obtain ⟨kn, hkn⟩ : ∃ kn, kn = (knwL (lrnK k K0 (L ++ [(setZ k s.toNat, t)])) k).length := ⟨_, rfl⟩
  have HKN := Lib.hid hkn
  rw [← hln, ← hkn]
  clear h hck hE hde hd2 hln hkn hmem hl60 hte
  go_enter Tryz.func15, Tryz.ntmps15
  go_upto_region 1 with fail
  obtain ⟨X, hX⟩ : ∃ X, X = w.heap.size := ⟨_, rfl⟩
  obtain ⟨W0, hW0⟩ : ∃ W0, W0 = (w.alloc (.cells #[.int .i64 s, .string (S t)] 43)).alloc (.cells #[.int .i64 0, .int .i64 0, .int .i64 0] 47) := ⟨_, rfl⟩
  have hb0 := HL.new w s t
  rw [← hW0] at hb0
  rw [← hW0]
  rw [← hX] at hb0
  rw [← hX]
  have HX : Hid (X = w.heap.size) := hX
  clear hW0 hX
  have hF : W0.drew.cell? ⟨x, 1, none⟩ = some (.int .i64 k) ∧ W0.drew.cell? ⟨x, 2, none⟩ = some (.int .i64 m) ∧ W0.drew.cell? ⟨X, 0, none⟩ = some (.int .i64 s) ∧ W0.drew.cell? ⟨X, 1, none⟩ = some (.string (S t)) := ⟨hb0.lat.cell_at HH.out.c1, hb0.lat.cell_at HH.out.c2, hb0.c0, hb0.c1⟩
  have HB0 := Lib.hid (hb0.keep (Lat.drew W0))
  clear hb0
  refine wp_region_gate (fun w' => w'.cell? ⟨x, 1, none⟩ = some (.int .i64 k) ∧ w'.cell? ⟨x, 2, none⟩ = some (.int .i64 m) ∧ w'.cell? ⟨X, 0, none⟩ = some (.int .i64 s) ∧ w'.cell? ⟨X, 1, none⟩ = some (.string (S t))) (fun _ => True) 1000 (by kernel_rfl) ?_
  refine gate_takeF (i := 0) (v := ?_) rfl (by kernel_rfl) (by kernel_rfl) (by kernel_rfl) (fun _ _ _ h => h) (by decide) ⟨hF, fun _ => trivial⟩ (Or.inl ⟨by rfl, ?_⟩) ?_
  rotate_left
  · intro wq hSw; obtain ⟨s0, s1, s2, s3⟩ := hSw; go_simp; rfl
  simp only [Act.put]
  refine gate_takeF (i := 1) (v := ?_) rfl (by kernel_rfl) (by kernel_rfl) (by kernel_rfl) (fun _ _ _ h => h) (by decide) ⟨hF, fun _ => trivial⟩ (Or.inl ⟨by rfl, ?_⟩) ?_
  rotate_left
  · intro wq hSw; obtain ⟨s0, s1, s2, s3⟩ := hSw; go_simp; rfl
  simp only [Act.put]
  refine gate_takeF (i := 2) (v := ?_) rfl (by kernel_rfl) (by kernel_rfl) (by kernel_rfl) (fun _ _ _ h => h) (by decide) ⟨hF, fun _ => trivial⟩ (Or.inl ⟨by rfl, ?_⟩) ?_
  rotate_left
  · intro wq hSw; obtain ⟨s0, s1, s2, s3⟩ := hSw; go_simp; rfl
  simp only [Act.put]
  refine gate_takeF (i := 3) (v := ?_) rfl (by kernel_rfl) (by kernel_rfl) (by kernel_rfl) (fun _ _ _ h => h) (by decide) ⟨hF, fun _ => trivial⟩ (Or.inl ⟨by rfl, ?_⟩) ?_
  rotate_left
  · intro wq hSw; obtain ⟨s0, s1, s2, s3⟩ := hSw; go_simp; rfl
  simp only [Act.put]
  refine gate_takeF (i := 4) (v := ?_) rfl (by kernel_rfl) (by kernel_rfl) (by kernel_rfl) (fun _ _ _ h => h) (by decide) ⟨hF, fun _ => trivial⟩ (Or.inl ⟨by rfl, ?_⟩) ?_
  rotate_left
  · intro wq hSw; obtain ⟨s0, s1, s2, s3⟩ := hSw; go_simp; rfl
  simp only [Act.put]
  refine gate_takeF (i := 5) (v := ?_) rfl (by kernel_rfl) (by kernel_rfl) (by kernel_rfl) (fun _ _ _ h => h) (by decide) ⟨hF, fun _ => trivial⟩ (Or.inl ⟨by rfl, ?_⟩) ?_
  rotate_left
  · intro wq hSw; obtain ⟨s0, s1, s2, s3⟩ := hSw; go_simp; rfl
  simp only [Act.put]
  refine gate_takeF (i := 6) (v := ?_) rfl (by kernel_rfl) (by kernel_rfl) (by kernel_rfl) (fun _ _ _ h => h) (by decide) ⟨hF, fun _ => trivial⟩ (Or.inl ⟨by rfl, ?_⟩) ?_
  rotate_left
  · intro wq hSw; obtain ⟨s0, s1, s2, s3⟩ := hSw; go_simp; rfl
  simp only [Act.put]
  refine gate_takeF (i := 7) (v := ?_) rfl (by kernel_rfl) (by kernel_rfl) (by kernel_rfl) (fun _ _ _ h => h) (by decide) ⟨hF, fun _ => trivial⟩ (Or.inl ⟨by rfl, ?_⟩) ?_
  rotate_left
  · intro wq hSw; obtain ⟨s0, s1, s2, s3⟩ := hSw; go_simp; rfl
  simp only [Act.put]
  refine gate_takeF (i := 8) (v := ?_) rfl (by kernel_rfl) (by kernel_rfl) (by kernel_rfl) (fun _ _ _ h => h) (by decide) ⟨hF, fun _ => trivial⟩ (Or.inl ⟨by rfl, ?_⟩) ?_
  rotate_left
  · intro wq hSw; obtain ⟨s0, s1, s2, s3⟩ := hSw; go_simp; rfl
  simp only [Act.put]
  refine gate_one (i := 9) (by kernel_rfl) rfl (fun K hK => ?_)
  go_simp
  refine (HCK.out _).mono ?_
  rintro e w5 ⟨rfl, hb5⟩
  have hF' : w5.cell? ⟨x, 1, none⟩ = some (.int .i64 k) ∧ w5.cell? ⟨x, 2, none⟩ = some (.int .i64 m) ∧ w5.cell? ⟨X, 0, none⟩ = some (.int .i64 s) ∧ w5.cell? ⟨X, 1, none⟩ = some (.string (S t)) := ⟨hb5.cell_at hF.1, hb5.cell_at hF.2.1, hb5.cell_at hF.2.2.1, hb5.cell_at hF.2.2.2⟩
  refine hK _ _ ⟨hF', fun _ => trivial⟩ ?_
  clear hK K hF
  have hF := hF'
  clear hF'
  refine gate_takeF (i := 10) (v := ?_) rfl (by kernel_rfl) (by kernel_rfl) (by kernel_rfl) (fun _ _ _ h => h) (by decide) ⟨hF, fun _ => trivial⟩ (Or.inl ⟨by rfl, ?_⟩) ?_
  rotate_left
  · intro wq hSw; obtain ⟨s0, s1, s2, s3⟩ := hSw; go_simp; rfl
  simp only [Act.put]
  refine gate_done (by kernel_rfl) ?_ _
  have HB5 := Lib.hid (HB0.out.keep hb5)
  clear hb5 HB0 hF
  have c5 := HB5.out.lat.cell_at HH.out.c5
  rw [← HLN.out] at c5
  go_upto_region 6 with fail
  clear c5
  have hF : w5.drew.cell? ⟨X, 0, none⟩ = some (.int .i64 s) ∧ w5.drew.cell? ⟨X, 1, none⟩ = some (.string (S t)) := ⟨HB5.out.c0, HB5.out.c1⟩
  have HB6 := Lib.hid (HB5.out.keep (Lat.drew w5))
  refine wp_region_gate (fun w' => w'.cell? ⟨X, 0, none⟩ = some (.int .i64 s) ∧ w'.cell? ⟨X, 1, none⟩ = some (.string (S t))) (fun _ => True) 1000 (by kernel_rfl) ?_
  refine gate_takeF (i := 0) (v := ?_) rfl (by kernel_rfl) (by kernel_rfl) (by kernel_rfl) (fun _ _ _ h => h) (by decide) ⟨hF, fun _ => trivial⟩ (Or.inl ⟨by rfl, ?_⟩) ?_
  rotate_left
  · intro wq hSw; obtain ⟨s0, s1⟩ := hSw; go_simp; rfl
  simp only [Act.put]
  refine gate_takeF (i := 2) (v := ?_) rfl (by kernel_rfl) (by kernel_rfl) (by kernel_rfl) (fun _ _ _ h => h) (by decide) ⟨hF, fun _ => trivial⟩ (Or.inl ⟨by rfl, ?_⟩) ?_
  rotate_left
  · intro wq hSw; obtain ⟨s0, s1⟩ := hSw; go_simp; rfl
  simp only [Act.put]
  refine gate_takeF (i := 3) (v := ?_) rfl (by kernel_rfl) (by kernel_rfl) (by kernel_rfl) (fun _ _ _ h => h) (by decide) ⟨hF, fun _ => trivial⟩ (Or.inl ⟨by rfl, ?_⟩) ?_
  rotate_left
  · intro wq hSw; obtain ⟨s0, s1⟩ := hSw; go_simp; rfl
  simp only [Act.put]
  refine gate_one (i := 1) (by kernel_rfl) rfl (fun K hK => ?_)
  have hsd := ear_seeds G x k m n q K0 L ds w5.drew ⟨Gp, p, a, cap, HH.out.keep HB6.out.lat⟩
  rw [← HLN.out] at hsd
  go_simp
  refine hsd.mono ?_
  rintro e w6 ⟨ya, yc, rfl, hyi, hb6⟩
  have hF' : w6.cell? ⟨X, 0, none⟩ = some (.int .i64 s) ∧ w6.cell? ⟨X, 1, none⟩ = some (.string (S t)) := ⟨hb6.cell_at hF.1, hb6.cell_at hF.2⟩
  refine hK _ _ ⟨hF', fun _ => trivial⟩ ?_
  clear hK K hF hsd
  have hF := hF'
  clear hF'
  refine gate_one (i := 4) (by kernel_rfl) rfl (fun K hK => ?_)
  go_simp
  refine (containsI_no ya ln yc _ _ w6 hyi HMEM.out).mono ?_
  rintro e w7 ⟨rfl, rfl⟩
  refine hK _ _ ⟨hF, fun _ => trivial⟩ ?_
  clear hK K
  refine gate_takeF (i := 5) (v := ?_) rfl (by kernel_rfl) (by kernel_rfl) (by kernel_rfl) (fun _ _ _ h => h) (by decide) ⟨hF, fun _ => trivial⟩ (Or.inl ⟨by rfl, ?_⟩) ?_
  rotate_left
  · intro wq hSw; obtain ⟨s0, s1⟩ := hSw; go_simp; rfl
  simp only [Act.put]
  refine gate_done (by kernel_rfl) ?_ _
  have HB7 := Lib.hid (HB6.out.keep hb6)
  clear hb6 hyi HB6 hF HB5
  go_upto_region 7 with fail
  have hF : w6.drew.cell? ⟨x, 0, none⟩ = some (.pointer (some ⟨p, 0, none⟩)) ∧ w6.drew.cell? ⟨X, 0, none⟩ = some (.int .i64 s) ∧ w6.drew.cell? ⟨X, 1, none⟩ = some (.string (S t)) := ⟨HB7.out.lat.cell_at HH.out.c0, HB7.out.c0, HB7.out.c1⟩
  have HB8 := Lib.hid (HB7.out.keep (Lat.drew w6))
  refine wp_region_gate (fun w' => w'.cell? ⟨x, 0, none⟩ = some (.pointer (some ⟨p, 0, none⟩)) ∧ w'.cell? ⟨X, 0, none⟩ = some (.int .i64 s) ∧ w'.cell? ⟨X, 1, none⟩ = some (.string (S t))) (fun _ => True) 1000 (by kernel_rfl) ?_
  refine gate_takeF (i := 0) (v := ?_) rfl (by kernel_rfl) (by kernel_rfl) (by kernel_rfl) (fun _ _ _ h => h) (by decide) ⟨hF, fun _ => trivial⟩ (Or.inl ⟨by rfl, ?_⟩) ?_
  rotate_left
  · intro wq hSw; obtain ⟨s0, s1, s2⟩ := hSw; go_simp; rfl
  simp only [Act.put]
  refine gate_takeF (i := 1) (v := ?_) rfl (by kernel_rfl) (by kernel_rfl) (by kernel_rfl) (fun _ _ _ h => h) (by decide) ⟨hF, fun _ => trivial⟩ (Or.inl ⟨by rfl, ?_⟩) ?_
  rotate_left
  · intro wq hSw; obtain ⟨s0, s1, s2⟩ := hSw; go_simp; rfl
  simp only [Act.put]
  refine gate_takeF (i := 2) (v := ?_) rfl (by kernel_rfl) (by kernel_rfl) (by kernel_rfl) (fun _ _ _ h => h) (by decide) ⟨hF, fun _ => trivial⟩ (Or.inl ⟨by rfl, ?_⟩) ?_
  rotate_left
  · intro wq hSw; obtain ⟨s0, s1, s2⟩ := hSw; go_simp; rfl
  simp only [Act.put]
  refine gate_takeF (i := 3) (v := ?_) rfl (by kernel_rfl) (by kernel_rfl) (by kernel_rfl) (fun _ _ _ h => h) (by decide) ⟨hF, fun _ => trivial⟩ (Or.inl ⟨by rfl, ?_⟩) ?_
  rotate_left
  · intro wq hSw; obtain ⟨s0, s1, s2⟩ := hSw; go_simp; rfl
  simp only [Act.put]
  refine gate_takeF (i := 4) (v := ?_) rfl (by kernel_rfl) (by kernel_rfl) (by kernel_rfl) (fun _ _ _ h => h) (by decide) ⟨hF, fun _ => trivial⟩ (Or.inl ⟨by rfl, ?_⟩) ?_
  rotate_left
  · intro wq hSw; obtain ⟨s0, s1, s2⟩ := hSw; go_simp; rfl
  simp only [Act.put]
  refine gate_one (i := 5) (by kernel_rfl) rfl (fun K hK => ?_)
  have h8 := HH.out.keep HB8.out.lat
  have htk := take_ok Gp p k m K0 (ds.map Dr.s) L s t w6.drew h8.peel HTE.out
  have H8 := Lib.hid h8
  clear h8
  go_simp
  refine htk.mono ?_
  rintro e w8 ⟨ra, rc, rfl, _, hst⟩
  have hpX : ∀ i, w.heap.size ≤ i → ¬ Gp i := fun i hi e => by have := HH.out.lt i (HH.out.sub i e); omega
  have hF' : w8.cell? ⟨x, 0, none⟩ = some (.pointer (some ⟨p, 0, none⟩)) ∧ w8.cell? ⟨X, 0, none⟩ = some (.int .i64 s) ∧ w8.cell? ⟨X, 1, none⟩ = some (.string (S t)) := ⟨hst.fr.cell_at hF.1 HH.out.npx, hst.fr.cell_at hF.2.1 (hpX X (by have := HX.out; omega)), hst.fr.cell_at hF.2.2 (hpX X (by have := HX.out; omega))⟩
  refine hK _ _ ⟨hF', fun _ => trivial⟩ ?_
  clear hK K hF htk
  have hF := hF'
  clear hF'
  refine gate_takeF (i := 6) (v := ?_) rfl (by kernel_rfl) (by kernel_rfl) (by kernel_rfl) (fun _ _ _ h => h) (by decide) ⟨hF, fun _ => trivial⟩ (Or.inl ⟨by rfl, ?_⟩) ?_
  rotate_left
  · intro wq hSw; obtain ⟨s0, s1, s2⟩ := hSw; go_simp; rfl
  simp only [Act.put]
  refine gate_takeF (i := 7) (v := ?_) rfl (by kernel_rfl) (by kernel_rfl) (by kernel_rfl) (fun _ _ _ h => h) (by decide) ⟨hF, fun _ => trivial⟩ (Or.inl ⟨by rfl, ?_⟩) ?_
  rotate_left
  · intro wq hSw; obtain ⟨s0, s1, s2⟩ := hSw; go_simp; rfl
  simp only [Act.put]
  refine gate_takeF (i := 8) (v := ?_) rfl (by kernel_rfl) (by kernel_rfl) (by kernel_rfl) (fun _ _ _ h => h) (by decide) ⟨hF, fun _ => trivial⟩ (Or.inl ⟨by rfl, ?_⟩) ?_
  rotate_left
  · intro wq hSw; obtain ⟨s0, s1, s2⟩ := hSw; go_simp; rfl
  simp only [Act.put]
  refine gate_takeF (i := 9) (v := ?_) rfl (by kernel_rfl) (by kernel_rfl) (by kernel_rfl) (fun _ _ _ h => h) (by decide) ⟨hF, fun _ => trivial⟩ (Or.inl ⟨by rfl, ?_⟩) ?_
  rotate_left
  · intro wq hSw; obtain ⟨s0, s1, s2⟩ := hSw; go_simp; rfl
  simp only [Act.put]
  refine gate_takeF (i := 10) (v := ?_) rfl (by kernel_rfl) (by kernel_rfl) (by kernel_rfl) (fun _ _ _ h => h) (by decide) ⟨hF, fun _ => trivial⟩ (Or.inl ⟨by rfl, ?_⟩) ?_
  rotate_left
  · intro wq hSw; obtain ⟨s0, s1, s2⟩ := hSw; go_simp; rfl
  simp only [Act.put]
  refine gate_done (by kernel_rfl) ?_ _
  have HST := Lib.hid hst
  have HPX := Lib.hid hpX
  have hb9 := HB8.out.toHB.fr hst.fr (fun i e => HH.out.lt i (HH.out.sub i e))
  have HB9 := Lib.hid hb9
  have HB8L := Lib.hid HB8.out.lat
  have HB8X := Lib.hid HB8.out.lt
  clear hst hpX hb9 hF HB8 HB7
  go_upto_region 10 with fail
  have hF : w8.drew.cell? ⟨X, 0, none⟩ = some (.int .i64 s) ∧ w8.drew.cell? ⟨X, 1, none⟩ = some (.string (S t)) := ⟨HB9.out.c0, HB9.out.c1⟩
  have hG : w8.drew.cell? ⟨x, 5, none⟩ = some (.slice a ln cap) := by
    have := HST.out.fr.cell_at H8.out.c5 HH.out.npx
    rw [← HLN.out] at this; exact this
  refine wp_region_gate (fun w' => w'.cell? ⟨X, 0, none⟩ = some (.int .i64 s) ∧ w'.cell? ⟨X, 1, none⟩ = some (.string (S t))) (fun w' => w'.cell? ⟨x, 5, none⟩ = some (.slice a ln cap)) 7 (by kernel_rfl) ?_
  refine gate_takeF (i := 0) (v := ?_) rfl (by kernel_rfl) (by kernel_rfl) (by kernel_rfl) (fun _ _ _ h => h) (by decide) ⟨hF, fun _ => hG⟩ (Or.inl ⟨by rfl, ?_⟩) ?_
  rotate_left
  · intro wq hSw; obtain ⟨s0, s1⟩ := hSw; go_simp; rfl
  simp only [Act.put]
  refine gate_takeF (i := 1) (v := ?_) rfl (by kernel_rfl) (by kernel_rfl) (by kernel_rfl) (fun _ _ _ h => h) (by decide) ⟨hF, fun _ => hG⟩ (Or.inl ⟨by rfl, ?_⟩) ?_
  rotate_left
  · intro wq hSw; obtain ⟨s0, s1⟩ := hSw; go_simp; rfl
  simp only [Act.put]
  refine gate_takeF (i := 2) (v := ?_) rfl (by kernel_rfl) (by kernel_rfl) (by kernel_rfl) (fun _ _ _ h => h) (by decide) ⟨hF, fun _ => hG⟩ (Or.inl ⟨by rfl, ?_⟩) ?_
  rotate_left
  · intro wq hSw; obtain ⟨s0, s1⟩ := hSw; go_simp; rfl
  simp only [Act.put]
  refine gate_takeF (i := 3) (v := ?_) rfl (by kernel_rfl) (by kernel_rfl) (by kernel_rfl) (fun _ _ _ h => h) (by decide) ⟨hF, fun _ => hG⟩ (Or.inl ⟨by rfl, ?_⟩) ?_
  rotate_left
  · intro wq hSw; obtain ⟨s0, s1⟩ := hSw; go_simp; rfl
  simp only [Act.put]
  refine gate_takeG (i := 4) (v := ?_) rfl (by kernel_rfl) (by kernel_rfl) (by kernel_rfl) (fun _ _ _ h => h) (by decide) (by kernel_rfl) (by kernel_rfl) ⟨hF, fun _ => hG⟩ (Or.inl ⟨by rfl, ?_⟩) ?_
  rotate_left
  · intro wq hSw; obtain ⟨⟨s0, s1⟩, s2⟩ := hSw; go_simp; rfl
  simp only [Act.put]
  refine gate_takeF (i := 5) (v := ?_) rfl (by kernel_rfl) (by kernel_rfl) (by kernel_rfl) (fun _ _ _ h => h) (by decide) ⟨hF, fun _ => hG⟩ (Or.inl ⟨by rfl, ?_⟩) ?_
  rotate_left
  · intro wq hSw; obtain ⟨s0, s1⟩ := hSw; go_simp; rfl
  simp only [Act.put]
  refine gate_one (i := 6) (by kernel_rfl) rfl (fun K hK => ?_)
  go_simp
  refine hK _ _ ⟨⟨(Lat.alloc _ _).cell_at hF.1, (Lat.alloc _ _).cell_at hF.2⟩, fun _ => (Lat.alloc _ _).cell_at hG⟩ ?_
  clear hK K
  have ho8 : OwnR w8.drew 0 43 2 (.slice a ln cap) (ds.map Dr.row) := by
    have := (H8.out.row.fr HST.out.fr (fun i hi => (H8.out.own i hi).2.2)).keep (Lat.drew w8)
    rw [← HLN.out] at this; exact this
  have HO8 := Lib.hid ho8
  have HRL : Hid ((ds.map Dr.row).length = ln) := by show _ = _; rw [List.length_map, HLN.out]
  clear ho8
  refine gate_one (i := 7) (by kernel_rfl) rfl (fun K hK => ?_)
  refine appR_step w8.drew 0 rfl (.tmp 54) (.tmp 56) 98 rfl 43 _ 2 24 Tryz.underlying98 info_DropE rfl (by decide) (by decide) _ _ _ rfl HO8.out rfl rfl (fun u hu => by simp at hu; rcases hu with rfl | rfl <;> rfl) (by rw [HRL.out]; have := HH.out.most; have := HLN.out; omega) (Nat.zero_le _) ?_
  rw [HRL.out]
  intro g' cap' w9 hown9 hb9 hs9
  have hs9 : AppStep w8.drew w9 (.slice a ln cap) (.slice (some ⟨g', 0, none⟩) (ln + 1) cap') := hs9
  have hnx : (Value.slice a ln cap).ownBlock ≠ some x := fun e => by rw [HLN.out] at e; exact (HH.out.own x e).2.1 rfl
  have hnX : ∀ i, w.heap.size ≤ i → (Value.slice a ln cap).ownBlock ≠ some i := fun i hi e => by
    rw [HLN.out] at e
    have := HH.out.lt i (HH.out.own i e).1
    omega
  have hXw : w.heap.size ≤ X := Nat.le_of_eq HX.out.symm
  have hF9 : w9.cell? ⟨X, 0, none⟩ = some (.int .i64 s) ∧ w9.cell? ⟨X, 1, none⟩ = some (.string (S t)) := ⟨hs9.cell hF.1 (hnX X hXw), hs9.cell hF.2 (hnX X hXw)⟩
  have hG9 : w9.cell? ⟨x, 5, none⟩ = some (.slice a ln cap) := hs9.cell hG hnx
  have hxl8 := World.block_lt_of_cell? _ _ hG
  have hf9 : w9.frozen? ⟨x, 5, none⟩ = false := by
    rw [World.frozen?_of_block (w := w8.drew) (a := ⟨x, 5, none⟩) (hs9.block x hxl8 (fun e => hnx e.symm))]
    exact HST.out.fr.free_at (H8.out.lt x H8.out.gx) H8.out.f5 HH.out.npx
  obtain ⟨Gp2, hp2, hGp2⟩ := HST.out.obj
  have he10 := (H8.out).heard (d := ⟨s, S t⟩) (g := g') (cap' := cap') (w4 := w9) HST.out.fr hp2 hGp2 (Lat.drew w8) (by rw [← HLN.out]; exact hs9) hb9 (by rw [← HLN.out]; exact hown9) HDE.out
  rw [← HLN.out] at he10
  have hfr10 : Fr G w (w9.setCell ⟨x, 5, none⟩ (.slice (some ⟨g', 0, none⟩) (ln + 1) cap')) := ((((Fr.lat HB8L.out : Fr G w w6.drew).trans HST.out.fr (fun i _ e => HH.out.sub i e)).next (Lat.drew w8)).trans (Fr.app hs9 ⟨hb9.os, hb9.tape, hb9.output⟩) (fun i _ e => by
    rw [HLN.out] at e
    exact (HH.out.own i e).1)).then_set ⟨x, 5, none⟩ _ (.inl HH.out.gx)
  have hb10 := ((HB9.out.keep (Lat.drew w8)).fr (Fr.app hs9 ⟨hb9.os, hb9.tape, hb9.output⟩) (fun i e => by
    rcases Nat.lt_or_ge i w.heap.size with h1 | h1
    · exact h1
    · exact absurd e (hnX i h1))).fr (Fr.set (S := fun i => i = x) w9 ⟨x, 5, none⟩ (.slice (some ⟨g', 0, none⟩) (ln + 1) cap') rfl) (fun i e => by rw [e]; exact HH.out.lt x HH.out.gx)
  have HE10 := Lib.hid he10; have HFR10 := Lib.hid hfr10; have HB10 := Lib.hid hb10
  refine hK _ _ (FG.past (by kernel_rfl) hF9) ?_
  clear hK K hF hG hown9 hb9 hs9 hnx hnX he10 hfr10 hxl8 hp2 hGp2 hb10
  refine gate_takeF (i := 8) (v := ?_) rfl (by kernel_rfl) (by kernel_rfl) (by kernel_rfl) (fun _ _ _ h => h) (by decide) (FG.past (by kernel_rfl) hF9) (Or.inl ⟨by rfl, ?_⟩) ?_
  rotate_left
  · intro wq hSw; go_simp; rfl
  simp only [Act.put]
  refine gate_takeF (i := 9) (v := ?_) rfl (by kernel_rfl) (by kernel_rfl) (by kernel_rfl) (fun _ _ _ h => h) (by decide) (FG.past (by kernel_rfl) hF9) (Or.inl ⟨by rfl, ?_⟩) ?_
  rotate_left
  · intro wq hSw; go_simp; rfl
  simp only [Act.put]
  refine gate_one (i := 10) (by kernel_rfl) rfl (fun K hK => ?_)
  clear hF9
  go_simp
  refine hK _ _ (FG.past (by kernel_rfl) ⟨HB10.out.c0, HB10.out.c1⟩) ?_
  clear hK K
  refine gate_done (by kernel_rfl) ?_ _
  clear hG9 hf9 HB9
  have HE := HE10
  have HBB := HB10
  have HFR := HFR10
  have HLL : Hid ((ds ++ [(⟨s, S t⟩ : Dr)]).length = ln + 1) := by show _ = _; rw [List.length_append, HLN.out]; rfl
  have hX6 := HB8X.out
  have HNX : Hid (∀ i, (i < (w9.setCell ⟨x, 5, none⟩ (.slice (some ⟨g', 0, none⟩) (ln + 1) cap')).heap.size ∧ (G i ∨ w6.drew.heap.size ≤ i)) → i ≠ X + 1) := fun i hi e => by
    rcases hi.2 with h1 | h1
    · have := HH.out.lt i h1; have := HX.out; omega
    · omega
  have HGI : Hid (∀ i, (i < (w9.setCell ⟨x, 5, none⟩ (.slice (some ⟨g', 0, none⟩) (ln + 1) cap')).heap.size ∧ (G i ∨ w6.drew.heap.size ≤ i)) → G i ∨ w.heap.size ≤ i) := fun i hi => hi.2.imp id (fun h1 => by have := HB8L.out.size; omega)
  clear HE10 HB10 HFR10 hX6
  have c4 := HE.out.c4
  have f4 := HE.out.f4
  go_upto_region 12 with fail
  clear c4 f4
  have hcnt := HE.out.count qn
  have hbb := HBB.out.fr (Fr.set (S := fun i => i = x) _ ⟨x, 4, none⟩ (.int .i64 qn) rfl) (fun i e => by rw [e]; exact HH.out.lt x HH.out.gx)
  have hfrc := HFR.out.then_set ⟨x, 4, none⟩ (.int .i64 qn) (.inl HH.out.gx)
  generalize hwe : World.setCell _ ⟨x, 4, none⟩ (.int .i64 qn) = we at hcnt hbb hfrc ⊢
  have hc4 := hcnt.c4
  have hc5 := hcnt.c5
  rw [HLL.out] at hc5
  have hF : we.drew.cell? ⟨x, 4, none⟩ = some (.int .i64 qn) ∧ we.drew.cell? ⟨x, 5, none⟩ = some (.slice (some ⟨g', 0, none⟩) (ln + 1) cap') ∧ we.drew.cell? ⟨x, 0, none⟩ = some (.pointer (some ⟨p, 0, none⟩)) := ⟨hc4, hc5, hcnt.c0⟩
  have hG : we.drew.cell? ⟨X + 1, 0, none⟩ = some (.int .i64 0) ∧ we.drew.cell? ⟨X + 1, 1, none⟩ = some (.int .i64 0) ∧ we.drew.cell? ⟨X + 1, 2, none⟩ = some (.int .i64 0) := ⟨hbb.r0, hbb.r1, hbb.r2⟩
  have HEC := Lib.hid hcnt; have HBC := Lib.hid hbb; have HFC := Lib.hid hfrc
  clear hwe hcnt hbb hfrc hc4 hc5 HE HBB HFR
  refine wp_region_gate (fun w' => w'.cell? ⟨x, 4, none⟩ = some (.int .i64 qn) ∧ w'.cell? ⟨x, 5, none⟩ = some (.slice (some ⟨g', 0, none⟩) (ln + 1) cap') ∧ w'.cell? ⟨x, 0, none⟩ = some (.pointer (some ⟨p, 0, none⟩))) (fun w' => w'.cell? ⟨X + 1, 0, none⟩ = some (.int .i64 0) ∧ w'.cell? ⟨X + 1, 1, none⟩ = some (.int .i64 0) ∧ w'.cell? ⟨X + 1, 2, none⟩ = some (.int .i64 0)) 16 (by kernel_rfl) ?_
  refine gate_takeF (i := 0) (v := ?_) rfl (by kernel_rfl) (by kernel_rfl) (by kernel_rfl) (fun _ _ _ h => h) (by decide) ⟨hF, fun _ => hG⟩ (Or.inl ⟨by rfl, ?_⟩) ?_
  rotate_left
  · intro wq hSw; obtain ⟨s0, s1, s2⟩ := hSw; go_simp; rfl
  simp only [Act.put]
  refine gate_takeF (i := 1) (v := ?_) rfl (by kernel_rfl) (by kernel_rfl) (by kernel_rfl) (fun _ _ _ h => h) (by decide) ⟨hF, fun _ => hG⟩ (Or.inl ⟨by rfl, ?_⟩) ?_
  rotate_left
  · intro wq hSw; obtain ⟨s0, s1, s2⟩ := hSw; go_simp; rfl
  simp only [Act.put]
  refine gate_takeF (i := 2) (v := ?_) rfl (by kernel_rfl) (by kernel_rfl) (by kernel_rfl) (fun _ _ _ h => h) (by decide) ⟨hF, fun _ => hG⟩ (Or.inl ⟨by rfl, ?_⟩) ?_
  rotate_left
  · intro wq hSw; obtain ⟨s0, s1, s2⟩ := hSw; go_simp; rfl
  simp only [Act.put]
  refine gate_takeF (i := 3) (v := ?_) rfl (by kernel_rfl) (by kernel_rfl) (by kernel_rfl) (fun _ _ _ h => h) (by decide) ⟨hF, fun _ => hG⟩ (Or.inl ⟨by rfl, ?_⟩) ?_
  rotate_left
  · intro wq hSw; obtain ⟨s0, s1, s2⟩ := hSw; go_simp; rfl
  simp only [Act.put]
  refine gate_takeF (i := 4) (v := ?_) rfl (by kernel_rfl) (by kernel_rfl) (by kernel_rfl) (fun _ _ _ h => h) (by decide) ⟨hF, fun _ => hG⟩ (Or.inl ⟨by rfl, ?_⟩) ?_
  rotate_left
  · intro wq hSw; obtain ⟨s0, s1, s2⟩ := hSw; go_simp; rfl
  simp only [Act.put]
  refine gate_takeF (i := 5) (v := ?_) rfl (by kernel_rfl) (by kernel_rfl) (by kernel_rfl) (fun _ _ _ h => h) (by decide) ⟨hF, fun _ => hG⟩ (Or.inl ⟨by rfl, ?_⟩) ?_
  rotate_left
  · intro wq hSw; obtain ⟨s0, s1, s2⟩ := hSw; go_simp; rfl
  simp only [Act.put]
  refine gate_takeF (i := 6) (v := ?_) rfl (by kernel_rfl) (by kernel_rfl) (by kernel_rfl) (fun _ _ _ h => h) (by decide) ⟨hF, fun _ => hG⟩ (Or.inl ⟨by rfl, ?_⟩) ?_
  rotate_left
  · intro wq hSw; obtain ⟨s0, s1, s2⟩ := hSw; go_simp; rfl
  simp only [Act.put]
  refine gate_takeF (i := 7) (v := ?_) rfl (by kernel_rfl) (by kernel_rfl) (by kernel_rfl) (fun _ _ _ h => h) (by decide) ⟨hF, fun _ => hG⟩ (Or.inl ⟨by rfl, ?_⟩) ?_
  rotate_left
  · intro wq hSw; obtain ⟨s0, s1, s2⟩ := hSw; go_simp; rfl
  simp only [Act.put]
  refine gate_takeF (i := 8) (v := ?_) rfl (by kernel_rfl) (by kernel_rfl) (by kernel_rfl) (fun _ _ _ h => h) (by decide) ⟨hF, fun _ => hG⟩ (Or.inl ⟨by rfl, ?_⟩) ?_
  rotate_left
  · intro wq hSw; obtain ⟨s0, s1, s2⟩ := hSw; go_simp; rfl
  simp only [Act.put]
  refine gate_takeF (i := 9) (v := ?_) rfl (by kernel_rfl) (by kernel_rfl) (by kernel_rfl) (fun _ _ _ h => h) (by decide) ⟨hF, fun _ => hG⟩ (Or.inl ⟨by rfl, ?_⟩) ?_
  rotate_left
  · intro wq hSw; obtain ⟨s0, s1, s2⟩ := hSw; go_simp; rfl
  simp only [Act.put]
  refine gate_takeF (i := 10) (v := ?_) rfl (by kernel_rfl) (by kernel_rfl) (by kernel_rfl) (fun _ _ _ h => h) (by decide) ⟨hF, fun _ => hG⟩ (Or.inl ⟨by rfl, ?_⟩) ?_
  rotate_left
  · intro wq hSw; obtain ⟨s0, s1, s2⟩ := hSw; go_simp; rfl
  simp only [Act.put]
  refine gate_takeF (i := 11) (v := ?_) rfl (by kernel_rfl) (by kernel_rfl) (by kernel_rfl) (fun _ _ _ h => h) (by decide) ⟨hF, fun _ => hG⟩ (Or.inl ⟨by rfl, ?_⟩) ?_
  rotate_left
  · intro wq hSw; obtain ⟨s0, s1, s2⟩ := hSw; go_simp; rfl
  simp only [Act.put]
  refine gate_takeF (i := 12) (v := ?_) rfl (by kernel_rfl) (by kernel_rfl) (by kernel_rfl) (fun _ _ _ h => h) (by decide) ⟨hF, fun _ => hG⟩ (Or.inl ⟨by rfl, ?_⟩) ?_
  rotate_left
  · intro wq hSw; obtain ⟨s0, s1, s2⟩ := hSw; go_simp; rfl
  simp only [Act.put]
  refine gate_one (i := 13) (by kernel_rfl) rfl (fun K hK => ?_)
  have hkn := peel_knows _ p k m _ _ _ we.drew (HEC.out.keep (Lat.drew we)).peel hk16
  rw [← HKN.out] at hkn
  go_simp
  refine hkn.mono ?_
  rintro e wk ⟨oa, oc, rfl, _, hbk⟩
  have hF' : wk.cell? ⟨x, 4, none⟩ = some (.int .i64 qn) ∧ wk.cell? ⟨x, 5, none⟩ = some (.slice (some ⟨g', 0, none⟩) (ln + 1) cap') ∧ wk.cell? ⟨x, 0, none⟩ = some (.pointer (some ⟨p, 0, none⟩)) := ⟨hbk.cell_at hF.1, hbk.cell_at hF.2.1, hbk.cell_at hF.2.2⟩
  have hG' : wk.cell? ⟨X + 1, 0, none⟩ = some (.int .i64 0) ∧ wk.cell? ⟨X + 1, 1, none⟩ = some (.int .i64 0) ∧ wk.cell? ⟨X + 1, 2, none⟩ = some (.int .i64 0) := ⟨hbk.cell_at hG.1, hbk.cell_at hG.2.1, hbk.cell_at hG.2.2⟩
  have HBK := Lib.hid ((Lat.drew we).trans hbk)
  refine hK _ _ ⟨hF', fun _ => hG'⟩ ?_
  clear hK K hF hG hkn hbk
  have hF := hF'
  have hG := hG'
  clear hF' hG'
  refine gate_takeF (i := 14) (v := ?_) rfl (by kernel_rfl) (by kernel_rfl) (by kernel_rfl) (fun _ _ _ h => h) (by decide) ⟨hF, fun _ => hG⟩ (Or.inl ⟨by rfl, ?_⟩) ?_
  rotate_left
  · intro wq hSw; obtain ⟨s0, s1, s2⟩ := hSw; go_simp; rfl
  simp only [Act.put]
  refine gate_takeF (i := 15) (v := ?_) rfl (by kernel_rfl) (by kernel_rfl) (by kernel_rfl) (fun _ _ _ h => h) (by decide) ⟨hF, fun _ => hG⟩ (Or.inl ⟨by rfl, ?_⟩) ?_
  rotate_left
  · intro wq hSw; obtain ⟨s0, s1, s2⟩ := hSw; go_simp; rfl
  simp only [Act.put]
  have hbf := HBC.out.keep HBK.out
  have e0 := hG.1
  have e1 := hG.2.1
  have e2 := hG.2.2
  have g0 := hbf.g0
  have g1 := hbf.g1
  have g2 := hbf.g2
  have HBF := Lib.hid hbf
  have hqX : ∀ i, i ≠ X + 1 → ∀ j v u1 u2 u3, wk.cell? ⟨i, j, none⟩ = some v → (((wk.setCell ⟨X + 1, 0, none⟩ u1).setCell ⟨X + 1, 1, none⟩ u2).setCell ⟨X + 1, 2, none⟩ u3).cell? ⟨i, j, none⟩ = some v := fun i hi j v u1 u2 u3 hv => by
    rw [World.cell?_setCell_other _ _ _ _ (by intro e; injection e with e _ _; exact hi e.symm), World.cell?_setCell_other _ _ _ _ (by intro e; injection e with e _ _; exact hi e.symm), World.cell?_setCell_other _ _ _ _ (by intro e; injection e with e _ _; exact hi e.symm)]; exact hv
  have hxX : x ≠ X + 1 := by have := HH.out.lt x HH.out.gx; have := HX.out; omega
  have hF9 := fun u1 u2 u3 => And.intro (hqX x hxX _ _ u1 u2 u3 hF.1) (And.intro (hqX x hxX _ _ u1 u2 u3 hF.2.1) (hqX x hxX _ _ u1 u2 u3 hF.2.2))
  have HF9 := Lib.hid hF9
  have QQ := three_put hG.1 hG.2.1 hG.2.2 (.int .i64 qn) (.int .i64 ((ln : Int) + 1)) (.int .i64 (kn : Nat))
  have HQQ := Lib.hid QQ
  refine gate_one (i := 16) (by kernel_rfl) rfl (fun K hK => ?_)
  clear hF9 hqX QQ hbf
  go_simp
  refine hK _ _ (FG.past (by kernel_rfl) (HF9.out _ _ _)) ?_
  clear hK K hF hG e0 e1 e2 g0 g1 g2
  refine gate_takeF (i := 17) (v := ?_) rfl (by kernel_rfl) (by kernel_rfl) (by kernel_rfl) (fun _ _ _ h => h) (by decide) (FG.past (by kernel_rfl) (HF9.out _ _ _)) (Or.inl ⟨by rfl, ?_⟩) ?_
  rotate_left
  · intro wq hSw; go_simp; rfl
  simp only [Act.put]
  refine gate_done (by kernel_rfl) ?_ _
  simp only [List.getElem_toArray, List.getElem_cons_succ, List.getElem_cons_zero]
  go_wp2
  have hff : Fr (fun i => i = X + 1) wk (((wk.setCell ⟨X + 1, 0, none⟩ (.int .i64 qn)).setCell ⟨X + 1, 1, none⟩ (.int .i64 ((ln : Int) + 1))).setCell ⟨X + 1, 2, none⟩ (.int .i64 (kn : Nat))) := ((Fr.set (S := fun i => i = X + 1) wk ⟨X + 1, 0, none⟩ _ rfl).then_set ⟨X + 1, 1, none⟩ _ (.inl rfl)).then_set ⟨X + 1, 2, none⟩ _ (.inl rfl)
  have hfin : EarStep G x k m n qn (lrnK k K0 (L ++ [(setZ k s.toNat, t)])) (lrnL k K0 (L ++ [(setZ k s.toNat, t)])) (ds ++ [⟨s, S t⟩]) w (((wk.setCell ⟨X + 1, 0, none⟩ (.int .i64 qn)).setCell ⟨X + 1, 1, none⟩ (.int .i64 ((ln : Int) + 1))).setCell ⟨X + 1, 2, none⟩ (.int .i64 (kn : Nat))) :=
    ⟨(HFC.out.next HBK.out).trans hff (fun i hi e => by have := HX.out; omega), _, ⟨_, _, _, _, (HEC.out.keep HBK.out).fr hff (fun i hi e => HNX.out i hi e)⟩, HGI.out⟩
  have Q0 := HQQ.out
  refine bodyPost_ret (v := .tuple #[.agg #[.int .i64 qn, .int .i64 ((ln : Int) + 1), .int .i64 (kn : Nat)], .nilIface]) (by simp [results, Tryz.results15, go_sem, Q0.1, Q0.2.1, Q0.2.2]) rfl ⟨?_, hfin⟩
  rfl
end Go.Proofs.YtheimfdbadjpoaaGreatDoor

namespace Go.Proofs.YtheimfdbadjpoaaGreatDoor
open Go.ChangeShapes Go.WideShapes Go.ChangeAt Go.RowKit
attribute [local go_sem ↓] Go.wp_at_zero Go.wp_at_succ

theorem free_new {w : World} {cs : Array Value} {t : TypeId} {g j : Nat} (h : g = w.heap.size) : (w.alloc (.cells cs t)).frozen? ⟨g, j, none⟩ = false := by
  subst h; simp
structure ShInv (w wr : World) (wd hg : Nat) (a : Option Addr) (n cap : Nat) (mx my : Int) (v : Value) (L : List Int) : Prop where
  lat : Lat w wr
  p : Cells3 wr w.heap.size 0 (.int .i64 wd) (.int .i64 hg) (.slice a n cap)
  m0 : wr.cell? ⟨w.heap.size + 1, 0, none⟩ = some (.int .i64 mx)
  m1 : wr.cell? ⟨w.heap.size + 1, 1, none⟩ = some (.int .i64 my)
  r : Cells3 wr (w.heap.size + 1 + 1) 0 (.int .i64 0) (.int .i64 0) (.slice none 0 0)
  rf0 : wr.frozen? ⟨w.heap.size + 1 + 1, 0, none⟩ = false
  rf1 : wr.frozen? ⟨w.heap.size + 1 + 1, 1, none⟩ = false
  rf2 : wr.frozen? ⟨w.heap.size + 1 + 1, 2, none⟩ = false
  o0 : wr.cell? ⟨w.heap.size + 1 + 1 + 1, 0, none⟩ = some (.int .i64 wd)
  o1 : wr.cell? ⟨w.heap.size + 1 + 1 + 1, 1, none⟩ = some (.int .i64 hg)
  o2 : wr.cell? ⟨w.heap.size + 1 + 1 + 1, 2, none⟩ = some v
  of : wr.frozen? ⟨w.heap.size + 1 + 1 + 1, 2, none⟩ = false
  own : OwnInts wr (w.heap.size + 4) v L
  sz : w.heap.size + 4 ≤ wr.heap.size
def ShSome (w wr : World) (wd hg : Nat) (a : Option Addr) (n cap : Nat) (mx my : Int) (L : List Int) : Prop := ∃ v, ShInv w wr wd hg a n cap mx my v L
theorem ShInv.drewN {w wr : World} {wd hg : Nat} {a : Option Addr} {n cap : Nat} {mx my : Int} {v : Value} {L : List Int} (h : ShInv w wr wd hg a n cap mx my v L) (k : Nat) : ShInv w (wr.drewN k) wd hg a n cap mx my v L :=
  ⟨Lat.trans h.lat (Lat.drewN _ _), h.p.keep (Lat.drewN _ _), h.m0, h.m1, h.r.keep (Lat.drewN _ _), h.rf0, h.rf1, h.rf2, h.o0, h.o1, h.o2, h.of, h.own, h.sz⟩
theorem ShInv.step {w wr w1 : World} {wd hg : Nat} {a : Option Addr} {n cap : Nat} {mx my : Int} {v : Value} {L : List Int} {z : Int} {o : Obj} {g c : Nat} (h : ShInv w wr wd hg a n cap mx my v L)
    (hgrow : (wr.alloc o).grownBy w1 v.ownBlock) (hown : w1.ownsRow (w.heap.size + 4) 3 1 (.slice (some ⟨g, 0, none⟩) (L.length + 1) c) (L.length + 1) (L.map (Value.int .i64) ++ [.int .i64 z])) :
    ShInv w (w1.setCell ⟨w.heap.size + 1 + 1 + 1, 2, none⟩ (.slice (some ⟨g, 0, none⟩) (L.length + 1) c)) wd hg a n cap mx my (.slice (some ⟨g, 0, none⟩) (L.length + 1) c) (L ++ [z]) := by
  have hne : ∀ k, k < w.heap.size + 4 → v.ownBlock ≠ some k := fun k hk => Own.not h.own hk
  have hsz := h.sz
  have cc : ∀ (b j : Nat) (x : Value), b < w.heap.size + 4 → wr.cell? ⟨b, j, none⟩ = some x → w1.cell? ⟨b, j, none⟩ = some x := fun b j x hb hx => grown_cell hgrow ((Lat.alloc _ _).cell_at hx) (hne b hb)
  have ff : ∀ (b j : Nat), b < w.heap.size + 4 → wr.frozen? ⟨b, j, none⟩ = false → w1.frozen? ⟨b, j, none⟩ = false := fun b j hb hx => grown_free hgrow (by simp; omega) ((Lat.alloc _ _).free_at (by simp; omega) hx) (hne b hb)
  have so : ∀ (b j : Nat) (x : Value), b < w.heap.size + 1 + 1 + 1 ∨ j ≠ 2 → w1.cell? ⟨b, j, none⟩ = some x → (w1.setCell ⟨w.heap.size + 1 + 1 + 1, 2, none⟩ (.slice (some ⟨g, 0, none⟩) (L.length + 1) c)).cell? ⟨b, j, none⟩ = some x := fun b j x hb hx => by
    rw [World.cell?_setCell_other _ _ _ _ (by intro e; injection e with e1 e2 _; omega)]; exact hx
  have sf : ∀ (b j : Nat), w1.frozen? ⟨b, j, none⟩ = false → (w1.setCell ⟨w.heap.size + 1 + 1 + 1, 2, none⟩ (.slice (some ⟨g, 0, none⟩) (L.length + 1) c)).frozen? ⟨b, j, none⟩ = false := fun b j hx => by rw [World.frozen?_setCell]; exact hx
  have hl : Lat w w1 := lat_grown (Lat.trans h.lat (Lat.alloc wr o)) hgrow (fun k hk => by
    rcases Nat.lt_or_ge k (w.heap.size + 4) with hlt | hge
    · exact absurd hk (hne k hlt)
    · omega)
  have hz1 := hgrow.size
  simp at hz1
  refine ⟨Below.setCell hl (by simp; omega) _, ⟨?_, ?_, ?_⟩, ?_, ?_, ⟨?_, ?_, ?_⟩, ?_, ?_, ?_, ?_, ?_, ?_, ?_, ?_, ?_⟩
  · exact so _ _ _ (.inl (by omega)) (cc _ _ _ (by omega) h.p.c0)
  · exact so _ _ _ (.inl (by omega)) (cc _ _ _ (by omega) h.p.c1)
  · exact so _ _ _ (.inl (by omega)) (cc _ _ _ (by omega) h.p.c2)
  · exact so _ _ _ (.inl (by omega)) (cc _ _ _ (by omega) h.m0)
  · exact so _ _ _ (.inl (by omega)) (cc _ _ _ (by omega) h.m1)
  · exact so _ _ _ (.inl (by omega)) (cc _ _ _ (by omega) h.r.c0)
  · exact so _ _ _ (.inl (by omega)) (cc _ _ _ (by omega) h.r.c1)
  · exact so _ _ _ (.inl (by omega)) (cc _ _ _ (by omega) h.r.c2)
  · exact sf _ _ (ff _ _ (by omega) h.rf0)
  · exact sf _ _ (ff _ _ (by omega) h.rf1)
  · exact sf _ _ (ff _ _ (by omega) h.rf2)
  · exact so _ _ _ (.inr (by omega)) (cc _ _ _ (by omega) h.o0)
  · exact so _ _ _ (.inr (by omega)) (cc _ _ _ (by omega) h.o1)
  · exact World.cell?_setCell_same _ _ _ (cc _ _ _ (by omega) h.o2)
  · exact sf _ _ (ff _ _ (by omega) h.of)
  · refine Own.set (p := ⟨w.heap.size + 1 + 1 + 1, 2, none⟩) (B := w.heap.size + 4) ?_ (by simp) _
    unfold Own
    rw [List.length_map, List.length_append, List.length_singleton, List.map_append]
    exact hown
  · simp [World.setCell]; omega

set_option maxHeartbeats 8000000 in
set_option maxRecDepth 100000 in
theorem shifted_any (wd hg : Nat) (a : Option Addr) (n cap : Nat) (zs : List Int) (mx my : Int) (w : World) (h : IntsAt w a n cap zs) (hn : wd * hg = n) (w1 : 1 ≤ wd) (w6 : wd ≤ 6) (g1 : 1 ≤ hg) (g6 : hg ≤ 6)
    (x1 : -6 ≤ mx) (x2 : mx ≤ 6) (y1 : -6 ≤ my) (y2 : my ≤ 6) :
    Calls Tryz.prog 85 #[picV wd hg a n cap, .agg #[.int .i64 mx, .int .i64 my]] w fun e w' => ∃ v, e = .returned (.agg #[.int .i64 wd, .int .i64 hg, v]) ∧ OwnInts w' w.heap.size v (shf wd hg zs mx my n) ∧ Lat w w' := by
  have H := Lib.hid h
  have HN := Lib.hid hn
  clear h hn
  go_enter Tryz.func85, Tryz.ntmps85
  go_wp2_with fail
  go_loopw [15] (fun y wr => ∃ k : Nat, k ≤ hg ∧ y = .int .i64 k ∧ Hid (ShSome w wr wd hg a n cap mx my (shf wd hg zs mx my (k * wd)))) (fun y _ => hg - (intOf y).toNat)
  case atStart =>
    refine ⟨0, Nat.zero_le _, rfl, .slice none 0 0, ?_⟩
    rw [Nat.zero_mul]
    have l4 := Lat.alloc (((w.alloc (.cells #[.int .i64 wd, .int .i64 hg, .slice a n cap] 33)).alloc (.cells #[.int .i64 mx, .int .i64 my] 81)).alloc (.cells #[.int .i64 0, .int .i64 0, .slice none 0 0] 33)) (.cells #[.int .i64 wd, .int .i64 hg, .slice none 0 0] 33)
    have l3 := Lat.alloc ((w.alloc (.cells #[.int .i64 wd, .int .i64 hg, .slice a n cap] 33)).alloc (.cells #[.int .i64 mx, .int .i64 my] 81)) (.cells #[.int .i64 0, .int .i64 0, .slice none 0 0] 33)
    have l2 := Lat.alloc (w.alloc (.cells #[.int .i64 wd, .int .i64 hg, .slice a n cap] 33)) (.cells #[.int .i64 mx, .int .i64 my] 81)
    have l1 := Lat.alloc w (.cells #[.int .i64 wd, .int .i64 hg, .slice a n cap] 33)
    exact ⟨Lat.trans l1 (Lat.trans l2 (Lat.trans l3 l4)), (cells3_new rfl rfl rfl rfl).keep (Lat.trans l2 (Lat.trans l3 l4)), (Lat.trans l3 l4).cell_at (cell_new (by simp) rfl), (Lat.trans l3 l4).cell_at (cell_new (by simp) rfl),
      (cells3_new (by simp) rfl rfl rfl).keep l4, l4.free_at (by simp) (free_new (by simp)), l4.free_at (by simp) (free_new (by simp)), l4.free_at (by simp) (free_new (by simp)), cell_new (by simp) rfl, cell_new (by simp) rfl, cell_new (by simp) rfl, free_new (by simp), Own.nil _ _ _, by simp⟩
  case round =>
    obtain ⟨k, hk, rfl, hrel⟩ := hrel
    by_cases hlt : k < hg
    · obtain ⟨v, hI⟩ := hrel.out
      have HI := Lib.hid hI
      have c0 : wr.cell? ⟨w.heap.size, 0, none⟩ = some (.int .i64 wd) := hI.p.c0
      clear hI hrel c0
      have c0 := HI.out.p.c0
      go_wp2_with fail
      go_loopw [20] (fun x wx => ∃ j : Nat, j ≤ wd ∧ x = .int .i64 j ∧ Hid (ShSome w wx wd hg a n cap mx my (shf wd hg zs mx my (k * wd + j)))) (fun x _ => wd - (intOf x).toNat)
      case atStart => exact ⟨0, Nat.zero_le _, rfl, v, HI.out⟩
      case round =>
        obtain ⟨j, hj, rfl, hrel⟩ := hrel
        by_cases hlt2 : j < wd
        · obtain ⟨v, hI⟩ := hrel.out
          have HI := Lib.hid hI
          clear hI hrel c0
          have hsr := srcI_bd wd hg mx my j k (by omega) (by omega)
          obtain ⟨A, hA⟩ : ∃ A, A = insd ((k : Int) - my) hg := ⟨_, rfl⟩
          obtain ⟨B, hB⟩ : ∃ B, B = insd ((j : Int) - mx) wd := ⟨_, rfl⟩
          have a1 := insd_bd ((k : Int) - my) hg (by omega)
          have b1 := insd_bd ((j : Int) - mx) wd (by omega)
          have eS : srcI wd hg mx my j k = A * wd + B := by rw [hA, hB]; rfl
          rw [← hA] at a1
          rw [← hB] at b1
          rw [eS] at hsr
          have hAc : ∀ W, Calls Tryz.prog 124 #[.int .i64 ((k : Int) - my), .int .i64 hg] W fun e w' => e = .returned (.int .i64 A) ∧ w' = W := fun W => by
            rw [hA]; exact (inside_any _ _ W (by omega) (by omega) (by omega) (by omega)).mono fun _ _ ⟨x, y⟩ => ⟨x, y.symm⟩
          have hBc : ∀ W, Calls Tryz.prog 124 #[.int .i64 ((j : Int) - mx), .int .i64 wd] W fun e w' => e = .returned (.int .i64 B) ∧ w' = W := fun W => by
            rw [hB]; exact (inside_any _ _ W (by omega) (by omega) (by omega) (by omega)).mono fun _ _ ⟨x, y⟩ => ⟨x, y.symm⟩
          have HA := Lib.hid hAc
          have HB := Lib.hid hBc
          have p0 : 0 ≤ A * (wd : Int) := Int.mul_nonneg a1.1 (by omega)
          have p1 : A * (wd : Int) ≤ 6 * 6 := Int.mul_le_mul (by omega) (by omega) (by omega) (by omega)
          obtain ⟨s, hs⟩ := Int.eq_ofNat_of_zero_le hsr.1
          have hsn : s < n := by rw [← HN.out]; have := hsr.2; rw [hs, ← Int.natCast_mul] at this; omega
          have e1 : IntKind.i64.wrap ((k : Int) - my) = (k : Int) - my := IntWalk.i64_in _ (by omega)
          have e2 : IntKind.i64.wrap ((j : Int) - mx) = (j : Int) - mx := IntWalk.i64_in _ (by omega)
          have e3 : IntKind.i64.wrap (A * (wd : Int)) = A * (wd : Int) := IntWalk.i64_in _ (by omega)
          have e4 : IntKind.i64.wrap (A * (wd : Int) + B) = (s : Int) := by rw [← hs]; exact IntWalk.i64_in _ (by omega)
          have i1 : (0 : Int) ≤ (s : Int) := by omega
          have i2 : (s : Int) < (n : Int) := by omega
          obtain ⟨b, o, rfl, hc⟩ := H.out.row.at_ (by omega)
          have hbs : b < w.heap.size := World.block_lt_of_cell? _ _ (hc s hsn)
          have cz := HI.out.lat.cell_at (hc s hsn)
          obtain ⟨z, hz⟩ : ∃ z, z = zs.getD s 0 := ⟨_, rfl⟩
          rw [← hz] at cz
          have hst : shf wd hg zs mx my (k * wd + j + 1) = shf wd hg zs mx my (k * wd + j) ++ [z] := by rw [shf_succ _ _ _ _ _ _ _ hlt2, eS, hs, hz]; rfl
          have HST := Lib.hid hst
          obtain ⟨L, hL⟩ : ∃ L, L = shf wd hg zs mx my (k * wd + j) := ⟨_, rfl⟩
          have hlen : L.length ≤ 10000 := by
            rw [hL, shf_length]
            have q1 : k * wd ≤ 6 * 6 := Nat.mul_le_mul (by omega) w6
            omega
          rw [← hL] at HI HST
          clear hA hB eS hAc hBc hsr hs hc hz hst a1 b1 hL
          have c0 := HI.out.p.c0
          have c1 : wr.cell? ⟨w.heap.size, 1, none⟩ = _ := HI.out.p.c1
          have c2 : wr.cell? ⟨w.heap.size, 2, none⟩ = _ := HI.out.p.c2
          have c3 := HI.out.m0
          have c4 := HI.out.m1
          have c5 := HI.out.o2
          have hsz := HI.out.sz
          have hF : wr.drew.cell? ⟨w.heap.size, 0, none⟩ = some (.int .i64 wd) ∧ wr.drew.cell? ⟨w.heap.size, 1, none⟩ = some (.int .i64 hg) ∧ wr.drew.cell? ⟨w.heap.size, 2, none⟩ = some (.slice (some ⟨b, o, none⟩) n cap) ∧
              wr.drew.cell? ⟨w.heap.size + 1, 0, none⟩ = some (.int .i64 mx) ∧ wr.drew.cell? ⟨w.heap.size + 1, 1, none⟩ = some (.int .i64 my) ∧ wr.drew.cell? ⟨b, o + s, none⟩ = some (.int .i64 z) := ⟨c0, c1, c2, c3, c4, cz⟩
          have hG : wr.drew.cell? ⟨w.heap.size + 1 + 1 + 1, 2, none⟩ = some v := c5
          have HF := Lib.hid hF
          have HGG := Lib.hid hG
          clear c0 c1 c2 c3 c4 c5 cz hF hG
          go_wp2_with fail
          have hF := HF.out
          have hG := HGG.out
          refine wp_region_gate (fun w' => w'.cell? ⟨w.heap.size, 0, none⟩ = some (.int .i64 wd) ∧ w'.cell? ⟨w.heap.size, 1, none⟩ = some (.int .i64 hg) ∧ w'.cell? ⟨w.heap.size, 2, none⟩ = some (.slice (some ⟨b, o, none⟩) n cap) ∧
              w'.cell? ⟨w.heap.size + 1, 0, none⟩ = some (.int .i64 mx) ∧ w'.cell? ⟨w.heap.size + 1, 1, none⟩ = some (.int .i64 my) ∧ w'.cell? ⟨b, o + s, none⟩ = some (.int .i64 z)) (fun w' => w'.cell? ⟨w.heap.size + 1 + 1 + 1, 2, none⟩ = some v) 25 (by kernel_rfl) ?_
          refine gate_takeF (i := 0) (v := ?_) rfl (by kernel_rfl) (by kernel_rfl) (by kernel_rfl) (fun _ _ _ h => h) (by decide) ⟨hF, fun _ => hG⟩ (Or.inl ⟨by rfl, ?_⟩) ?_
          rotate_left
          · intro wq hSw; obtain ⟨s0, s1, s2, s3, s4, s5⟩ := hSw; go_simp; rfl
          simp only [Act.put]
          refine gate_takeG (i := 1) (v := ?_) rfl (by kernel_rfl) (by kernel_rfl) (by kernel_rfl) (fun _ _ _ h => h) (by decide) (by kernel_rfl) (by kernel_rfl) ⟨hF, fun _ => hG⟩ (Or.inl ⟨by rfl, ?_⟩) ?_
          rotate_left
          · intro wq hSw; obtain ⟨⟨s0, s1, s2, s3, s4, s5⟩, s6⟩ := hSw; go_simp; rfl
          simp only [Act.put]
          refine gate_takeF (i := 2) (v := ?_) rfl (by kernel_rfl) (by kernel_rfl) (by kernel_rfl) (fun _ _ _ h => h) (by decide) ⟨hF, fun _ => hG⟩ (Or.inl ⟨by rfl, ?_⟩) ?_
          rotate_left
          · intro wq hSw; obtain ⟨s0, s1, s2, s3, s4, s5⟩ := hSw; go_simp; rfl
          simp only [Act.put]
          refine gate_takeF (i := 3) (v := ?_) rfl (by kernel_rfl) (by kernel_rfl) (by kernel_rfl) (fun _ _ _ h => h) (by decide) ⟨hF, fun _ => hG⟩ (Or.inl ⟨by rfl, ?_⟩) ?_
          rotate_left
          · intro wq hSw; obtain ⟨s0, s1, s2, s3, s4, s5⟩ := hSw; go_simp; rfl
          simp only [Act.put]
          refine gate_takeF (i := 4) (v := ?_) rfl (by kernel_rfl) (by kernel_rfl) (by kernel_rfl) (fun _ _ _ h => h) (by decide) ⟨hF, fun _ => hG⟩ (Or.inl ⟨by rfl, ?_⟩) ?_
          rotate_left
          · intro wq hSw; obtain ⟨s0, s1, s2, s3, s4, s5⟩ := hSw; go_simp; rfl
          simp only [Act.put]
          refine gate_takeF (i := 5) (v := ?_) rfl (by kernel_rfl) (by kernel_rfl) (by kernel_rfl) (fun _ _ _ h => h) (by decide) ⟨hF, fun _ => hG⟩ (Or.inl ⟨by rfl, ?_⟩) ?_
          rotate_left
          · intro wq hSw; obtain ⟨s0, s1, s2, s3, s4, s5⟩ := hSw; go_simp; rfl
          simp only [Act.put]
          refine gate_takeF (i := 6) (v := ?_) rfl (by kernel_rfl) (by kernel_rfl) (by kernel_rfl) (fun _ _ _ h => h) (by decide) ⟨hF, fun _ => hG⟩ (Or.inl ⟨by rfl, ?_⟩) ?_
          rotate_left
          · intro wq hSw; obtain ⟨s0, s1, s2, s3, s4, s5⟩ := hSw; go_simp; rfl
          simp only [Act.put]
          refine gate_takeF (i := 7) (v := ?_) rfl (by kernel_rfl) (by kernel_rfl) (by kernel_rfl) (fun _ _ _ h => h) (by decide) ⟨hF, fun _ => hG⟩ (Or.inl ⟨by rfl, ?_⟩) ?_
          rotate_left
          · intro wq hSw; obtain ⟨s0, s1, s2, s3, s4, s5⟩ := hSw; go_simp; rfl
          simp only [Act.put]
          refine gate_takeF (i := 8) (v := ?_) rfl (by kernel_rfl) (by kernel_rfl) (by kernel_rfl) (fun _ _ _ h => h) (by decide) ⟨hF, fun _ => hG⟩ (Or.inl ⟨by rfl, ?_⟩) ?_
          rotate_left
          · intro wq hSw; obtain ⟨s0, s1, s2, s3, s4, s5⟩ := hSw; go_simp; rfl
          simp only [Act.put]
          refine gate_takeF (i := 9) (v := ?_) rfl (by kernel_rfl) (by kernel_rfl) (by kernel_rfl) (fun _ _ _ h => h) (by decide) ⟨hF, fun _ => hG⟩ (Or.inl ⟨by rfl, ?_⟩) ?_
          rotate_left
          · intro wq hSw; obtain ⟨s0, s1, s2, s3, s4, s5⟩ := hSw; go_simp; rfl
          simp only [Act.put]
          refine gate_takeF (i := 11) (v := ?_) rfl (by kernel_rfl) (by kernel_rfl) (by kernel_rfl) (fun _ _ _ h => h) (by decide) ⟨hF, fun _ => hG⟩ (Or.inl ⟨by rfl, ?_⟩) ?_
          rotate_left
          · intro wq hSw; obtain ⟨s0, s1, s2, s3, s4, s5⟩ := hSw; go_simp; rfl
          simp only [Act.put]
          refine gate_takeF (i := 12) (v := ?_) rfl (by kernel_rfl) (by kernel_rfl) (by kernel_rfl) (fun _ _ _ h => h) (by decide) ⟨hF, fun _ => hG⟩ (Or.inl ⟨by rfl, ?_⟩) ?_
          rotate_left
          · intro wq hSw; obtain ⟨s0, s1, s2, s3, s4, s5⟩ := hSw; go_simp; rfl
          simp only [Act.put]
          refine gate_takeF (i := 14) (v := ?_) rfl (by kernel_rfl) (by kernel_rfl) (by kernel_rfl) (fun _ _ _ h => h) (by decide) ⟨hF, fun _ => hG⟩ (Or.inl ⟨by rfl, ?_⟩) ?_
          rotate_left
          · intro wq hSw; obtain ⟨s0, s1, s2, s3, s4, s5⟩ := hSw; go_simp; rfl
          simp only [Act.put]
          refine gate_takeF (i := 15) (v := ?_) rfl (by kernel_rfl) (by kernel_rfl) (by kernel_rfl) (fun _ _ _ h => h) (by decide) ⟨hF, fun _ => hG⟩ (Or.inl ⟨by rfl, ?_⟩) ?_
          rotate_left
          · intro wq hSw; obtain ⟨s0, s1, s2, s3, s4, s5⟩ := hSw; go_simp; rfl
          simp only [Act.put]
          refine gate_takeF (i := 16) (v := ?_) rfl (by kernel_rfl) (by kernel_rfl) (by kernel_rfl) (fun _ _ _ h => h) (by decide) ⟨hF, fun _ => hG⟩ (Or.inl ⟨by rfl, ?_⟩) ?_
          rotate_left
          · intro wq hSw; obtain ⟨s0, s1, s2, s3, s4, s5⟩ := hSw; go_simp; rfl
          simp only [Act.put]
          refine gate_takeF (i := 17) (v := ?_) rfl (by kernel_rfl) (by kernel_rfl) (by kernel_rfl) (fun _ _ _ h => h) (by decide) ⟨hF, fun _ => hG⟩ (Or.inl ⟨by rfl, ?_⟩) ?_
          rotate_left
          · intro wq hSw; obtain ⟨s0, s1, s2, s3, s4, s5⟩ := hSw; go_simp; rfl
          simp only [Act.put]
          refine gate_takeF (i := 18) (v := ?_) rfl (by kernel_rfl) (by kernel_rfl) (by kernel_rfl) (fun _ _ _ h => h) (by decide) ⟨hF, fun _ => hG⟩ (Or.inl ⟨by rfl, ?_⟩) ?_
          rotate_left
          · intro wq hSw; obtain ⟨s0, s1, s2, s3, s4, s5⟩ := hSw; go_simp; rfl
          simp only [Act.put]
          refine gate_takeF (i := 19) (v := ?_) rfl (by kernel_rfl) (by kernel_rfl) (by kernel_rfl) (fun _ _ _ h => h) (by decide) ⟨hF, fun _ => hG⟩ (Or.inl ⟨by rfl, ?_⟩) ?_
          rotate_left
          · intro wq hSw; obtain ⟨s0, s1, s2, s3, s4, s5⟩ := hSw; go_simp; rfl
          simp only [Act.put]
          refine gate_one (i := 10) (by kernel_rfl) rfl (fun K hK => ?_)
          go_simp
          refine (HA.out _).mono ?_
          rintro e w' ⟨rfl, rfl⟩
          refine hK _ _ ⟨hF, fun _ => hG⟩ ?_
          clear hK K
          refine gate_takeF (i := 13) (v := ?_) rfl (by kernel_rfl) (by kernel_rfl) (by kernel_rfl) (fun _ _ _ h => h) (by decide) ⟨hF, fun _ => hG⟩ (Or.inl ⟨by rfl, ?_⟩) ?_
          rotate_left
          · intro wq hSw; obtain ⟨s0, s1, s2, s3, s4, s5⟩ := hSw; go_simp; rfl
          simp only [Act.put]
          refine gate_one (i := 20) (by kernel_rfl) rfl (fun K hK => ?_)
          go_simp
          refine (HB.out _).mono ?_
          rintro e w' ⟨rfl, rfl⟩
          refine hK _ _ ⟨hF, fun _ => hG⟩ ?_
          clear hK K
          refine gate_takeF (i := 21) (v := ?_) rfl (by kernel_rfl) (by kernel_rfl) (by kernel_rfl) (fun _ _ _ h => h) (by decide) ⟨hF, fun _ => hG⟩ (Or.inl ⟨by rfl, ?_⟩) ?_
          rotate_left
          · intro wq hSw; obtain ⟨s0, s1, s2, s3, s4, s5⟩ := hSw; go_simp; rfl
          simp only [Act.put]
          refine gate_takeF (i := 22) (v := ?_) rfl (by kernel_rfl) (by kernel_rfl) (by kernel_rfl) (fun _ _ _ h => h) (by decide) ⟨hF, fun _ => hG⟩ (Or.inl ⟨by rfl, ?_⟩) ?_
          rotate_left
          · intro wq hSw; obtain ⟨s0, s1, s2, s3, s4, s5⟩ := hSw; go_simp; rfl
          simp only [Act.put]
          refine gate_takeF (i := 23) (v := ?_) rfl (by kernel_rfl) (by kernel_rfl) (by kernel_rfl) (fun _ _ _ h => h) (by decide) ⟨hF, fun _ => hG⟩ (Or.inl ⟨by rfl, ?_⟩) ?_
          rotate_left
          · intro wq hSw; obtain ⟨s0, s1, s2, s3, s4, s5⟩ := hSw; go_simp; rfl
          simp only [Act.put]
          refine gate_one (i := 24) (by kernel_rfl) rfl (fun K hK => ?_)
          go_simp
          refine hK _ _ ⟨⟨(Lat.alloc _ _).cell_at hF.1, (Lat.alloc _ _).cell_at hF.2.1, (Lat.alloc _ _).cell_at hF.2.2.1, (Lat.alloc _ _).cell_at hF.2.2.2.1, (Lat.alloc _ _).cell_at hF.2.2.2.2.1, (Lat.alloc _ _).cell_at hF.2.2.2.2.2⟩, fun _ => (Lat.alloc _ _).cell_at hG⟩ ?_
          clear hK K
          refine gate_one (i := 25) (by kernel_rfl) rfl (fun K hK => ?_)
          obtain ⟨i0, hi0, hz0, hz1, hz2⟩ := info_int_parts
          have hsl : L.length ≤ 10000 := hlen
          refine step_append_lies (wr.drew.alloc (.cells #[.int .i64 z] 3)) rfl (.tmp 24) (.tmp 47) 23 rfl (w.heap.size + 4) 3 i0 (.int .i64 0) 1 8 Tryz.underlying23 hi0 hz0 hz1 hz2 rfl (by decide) v L.length (L.map (Value.int .i64)) rfl
            (by have := Own.alloc (Own.drew HI.out.own) (.cells #[.int .i64 z] 3); unfold Own at this; rwa [List.length_map] at this) ⟨wr.heap.size, 0, none⟩ 1 1 [.int .i64 z] rfl rfl ?_ ?_ (by decide) ?_ ?_ ?_ _ rfl ?_
          · intro q u' hq
            match q, hq with
            | 0, hq =>
              simp at hq; subst hq
              rw [Addr.add_lit]; exact cell_new (by simp) rfl
          · intro u' hu'; simp at hu'; subst hu'; rfl
          · unfold maxLen; omega
          · omega
          · simp; omega
          intro g c w1' hown hgrow hat hlt'
          have HI2 : ShInv w wr.drew wd hg (some ⟨b, o, none⟩) n cap mx my v L := HI.out.drewN 1
          have hne : ∀ q, q < w.heap.size + 4 → v.ownBlock ≠ some q := fun q hq => Own.not HI.out.own hq
          have cc : ∀ (b' i' : Nat) (x : Value), b' < w.heap.size + 4 → wr.drew.cell? ⟨b', i', none⟩ = some x → w1'.cell? ⟨b', i', none⟩ = some x := fun b' i' x hb hx => grown_cell hgrow ((Lat.alloc _ _).cell_at hx) (hne b' hb)
          have hszd : w.heap.size + 4 ≤ wr.drew.heap.size := hsz
          have ff : w1'.frozen? ⟨w.heap.size + 1 + 1 + 1, 2, none⟩ = false := grown_free hgrow (Nat.lt_of_lt_of_le (show w.heap.size + 1 + 1 + 1 < wr.drew.heap.size by omega) (Lat.alloc wr.drew _).size) ((Lat.alloc _ _).free_at (show w.heap.size + 1 + 1 + 1 < wr.drew.heap.size by omega) HI2.of) (hne (w.heap.size + 1 + 1 + 1) (by omega))
          have hstep := HI2.step hgrow hown
          have hco := cc _ _ _ (by omega) hG
          have so : ∀ (b' i' : Nat) (x : Value), b' < w.heap.size + 1 + 1 + 1 → w1'.cell? ⟨b', i', none⟩ = some x → (w1'.setCell ⟨w.heap.size + 1 + 1 + 1, 2, none⟩ (.slice (some ⟨g, 0, none⟩) (L.length + 1) c)).cell? ⟨b', i', none⟩ = some x := fun b' i' x hb hx => by
            rw [World.cell?_setCell_other _ _ _ _ (by intro e; injection e with e1 e2 _; omega)]; exact hx
          refine hK _ _ (FG.past (by kernel_rfl) ⟨cc _ _ _ (by omega) hF.1, cc _ _ _ (by omega) hF.2.1, cc _ _ _ (by omega) hF.2.2.1, cc _ _ _ (by omega) hF.2.2.2.1, cc _ _ _ (by omega) hF.2.2.2.2.1, cc _ _ _ (by omega) hF.2.2.2.2.2⟩) ?_
          clear hK K
          refine gate_takeF (i := 26) (v := ?_) rfl (by kernel_rfl) (by kernel_rfl) (by kernel_rfl) (fun _ _ _ h => h) (by decide) (FG.past (by kernel_rfl) ⟨cc _ _ _ (by omega) hF.1, cc _ _ _ (by omega) hF.2.1, cc _ _ _ (by omega) hF.2.2.1, cc _ _ _ (by omega) hF.2.2.2.1, cc _ _ _ (by omega) hF.2.2.2.2.1, cc _ _ _ (by omega) hF.2.2.2.2.2⟩) (Or.inl ⟨by rfl, ?_⟩) ?_
          rotate_left
          · intro wq hSw; go_simp; rfl
          simp only [Act.put]
          refine gate_one (i := 27) (by kernel_rfl) rfl (fun K hK => ?_)
          have HH := Lib.hid hstep
          clear hstep
          go_simp
          refine hK _ _ (FG.past (by kernel_rfl) ⟨so _ _ _ (by omega) (cc _ _ _ (by omega) hF.1), so _ _ _ (by omega) (cc _ _ _ (by omega) hF.2.1), so _ _ _ (by omega) (cc _ _ _ (by omega) hF.2.2.1), so _ _ _ (by omega) (cc _ _ _ (by omega) hF.2.2.2.1), so _ _ _ (by omega) (cc _ _ _ (by omega) hF.2.2.2.2.1), so _ _ _ (by omega) (cc _ _ _ (by omega) hF.2.2.2.2.2)⟩) ?_
          clear hK K
          refine gate_done (by kernel_rfl) ?_ _
          clear hF hG cc ff so hco hne hgrow hown HI2
          go_wp2
          go_roundw
          case rel =>
            refine ⟨j + 1, by omega, by go_num, ?_⟩
            show ShSome _ _ _ _ _ _ _ _ _ (shf wd hg zs mx my (k * wd + j + 1))
            rw [HST.out]; exact ⟨_, HH.out⟩
          case measure => simp [intOf]; omega
        · obtain ⟨v, hI⟩ := hrel.out
          have hk2 : shf wd hg zs mx my (k * wd + j) = shf wd hg zs mx my ((k + 1) * wd) := by rw [Nat.succ_mul, show j = wd by omega]
          rw [hk2] at hI
          have HI := Lib.hid hI
          clear hI hrel c0 hk2
          have c0 := HI.out.p.c0
          go_wp2
          go_roundw
          case rel => exact ⟨k + 1, by omega, by go_num, v, HI.out⟩
          case measure => simp [intOf]; omega
    · obtain ⟨v, hI⟩ := hrel.out
      have hk2 : shf wd hg zs mx my (k * wd) = shf wd hg zs mx my n := by rw [← HN.out, show k = hg by omega, Nat.mul_comm]
      rw [hk2] at hI
      obtain ⟨ra, rc, hv, _⟩ := Own.slice hI.own
      obtain ⟨rn, hrn⟩ : ∃ q, q = (List.map (Value.int .i64) (shf wd hg zs mx my n)).length := ⟨_, rfl⟩
      rw [← hrn] at hv
      subst hv
      have HI := Lib.hid hI
      clear hI hrel hk2 hrn
      have c1 : wr.cell? ⟨w.heap.size, 1, none⟩ = _ := HI.out.p.c1
      have o0 := HI.out.o0
      have o1 := HI.out.o1
      have o2 := HI.out.o2
      have r0 : wr.cell? ⟨w.heap.size + 1 + 1, 0, none⟩ = _ := HI.out.r.c0
      have r1 : wr.cell? ⟨w.heap.size + 1 + 1, 1, none⟩ = _ := HI.out.r.c1
      have r2 : wr.cell? ⟨w.heap.size + 1 + 1, 2, none⟩ = _ := HI.out.r.c2
      have f0 := HI.out.rf0
      have f1 := HI.out.rf1
      have f2 := HI.out.rf2
      have q := three_set r0 r1 r2 (.int .i64 wd) (.int .i64 hg) (.slice ra rn rc)
      obtain ⟨q0, q1, q2⟩ := q
      have hw3 := Own.mono (Own.set (p := ⟨w.heap.size + 1 + 1, 2, none⟩) (Own.set (p := ⟨w.heap.size + 1 + 1, 1, none⟩) (Own.set (p := ⟨w.heap.size + 1 + 1, 0, none⟩) HI.out.own (by simp) (.int .i64 wd)) (by simp) (.int .i64 hg)) (by simp) (.slice ra rn rc)) (show w.heap.size ≤ w.heap.size + 4 by omega)
      have hl3 := lat_three HI.out.lat (show w.heap.size ≤ w.heap.size + 1 + 1 by omega) (.int .i64 wd) (.int .i64 hg) (.slice ra rn rc)
      have HW := Lib.hid hw3
      have HL3 := Lib.hid hl3
      clear hw3 hl3
      have Q0 := Lib.hid q0
      have Q1 := Lib.hid q1
      have Q2 := Lib.hid q2
      clear q0 q1 q2
      go_wp2
      exact bodyPost_ret (v := .agg #[.int .i64 wd, .int .i64 hg, .slice ra rn rc]) (by simp [results, Tryz.results85, go_sem, Q0.out, Q1.out, Q2.out]) rfl ⟨_, rfl, HW.out, HL3.out⟩
end Go.Proofs.YtheimfdbadjpoaaGreatDoor

namespace Go.Proofs.YtheimfdbadjpoaaGreatDoor
open Go.ChangeShapes Go.WideShapes Go.ChangeAt Go.RowKit

def mvB (mx my : Int) : Bool := decide (-6 ≤ mx ∧ mx ≤ 6 ∧ -6 ≤ my ∧ my ≤ 6)
def shE (wd hg : Int) (zs : List Int) (mx my : Int) : Nat := if chkPic wd hg zs ≠ 0 then chkPic wd hg zs else if mvB mx my = false then 1 else 0
theorem shE_zero {wd hg : Int} {zs : List Int} {mx my : Int} (h : shE wd hg zs mx my = 0) : chkPic wd hg zs = 0 ∧ -6 ≤ mx ∧ mx ≤ 6 ∧ -6 ≤ my ∧ my ≤ 6 := by
  unfold shE at h
  split at h
  · rename_i h1; exact absurd h h1
  · rename_i h1
    split at h
    · omega
    · rename_i h2
      have h3 : mvB mx my = true := by cases hq : mvB mx my <;> simp_all
      simp only [mvB, decide_eq_true_eq] at h3
      omega
theorem shE_of {wd hg : Int} {zs : List Int} {mx my : Int} (h : chkPic wd hg zs = 0) (h1 : -6 ≤ mx) (h2 : mx ≤ 6) (h3 : -6 ≤ my) (h4 : my ≤ 6) : shE wd hg zs mx my = 0 := by
  unfold shE
  have : mvB mx my = true := decide_eq_true ⟨h1, h2, h3, h4⟩
  rw [if_neg (by omega), if_neg (by simp [this])]
structure ShW (w W : World) (wd hg : Int) (a : Option Addr) (n cap : Nat) (mx my : Int) : Prop where
  lat : Lat w W
  p : Cells3 W w.heap.size 0 (.int .i64 wd) (.int .i64 hg) (.slice a n cap)
  m0 : W.cell? ⟨w.heap.size + 1, 0, none⟩ = some (.int .i64 mx)
  m1 : W.cell? ⟨w.heap.size + 1, 1, none⟩ = some (.int .i64 my)
  r : Cells3 W (w.heap.size + 1 + 1) 0 (.int .i64 0) (.int .i64 0) (.slice none 0 0)
  rf0 : W.frozen? ⟨w.heap.size + 1 + 1, 0, none⟩ = false
  rf1 : W.frozen? ⟨w.heap.size + 1 + 1, 1, none⟩ = false
  rf2 : W.frozen? ⟨w.heap.size + 1 + 1, 2, none⟩ = false
  sz : w.heap.size + 1 + 1 < W.heap.size
theorem ShW.keep {w W W1 : World} {wd hg : Int} {a : Option Addr} {n cap : Nat} {mx my : Int} (h : ShW w W wd hg a n cap mx my) (hb : Lat W W1) : ShW w W1 wd hg a n cap mx my :=
  ⟨Lat.trans h.lat hb, h.p.keep hb, hb.cell_at h.m0, hb.cell_at h.m1, h.r.keep hb, hb.free_at h.sz h.rf0, hb.free_at h.sz h.rf1, hb.free_at h.sz h.rf2, Nat.lt_of_lt_of_le h.sz hb.size⟩
theorem sh_open (w : World) (wd hg : Int) (a : Option Addr) (n cap : Nat) (mx my : Int) : ShW w (((w.alloc (.cells #[.int .i64 wd, .int .i64 hg, .slice a n cap] 33)).alloc (.cells #[.int .i64 mx, .int .i64 my] 81)).alloc (.cells #[.int .i64 0, .int .i64 0, .slice none 0 0] 33)) wd hg a n cap mx my := by
  have l3 := Lat.alloc ((w.alloc (.cells #[.int .i64 wd, .int .i64 hg, .slice a n cap] 33)).alloc (.cells #[.int .i64 mx, .int .i64 my] 81)) (.cells #[.int .i64 0, .int .i64 0, .slice none 0 0] 33)
  have l2 := Lat.alloc (w.alloc (.cells #[.int .i64 wd, .int .i64 hg, .slice a n cap] 33)) (.cells #[.int .i64 mx, .int .i64 my] 81)
  have l1 := Lat.alloc w (.cells #[.int .i64 wd, .int .i64 hg, .slice a n cap] 33)
  exact ⟨Lat.trans l1 (Lat.trans l2 l3), (cells3_new rfl rfl rfl rfl).keep (Lat.trans l2 l3), l3.cell_at (cell_new (by simp) rfl), l3.cell_at (cell_new (by simp) rfl), cells3_new (by simp) rfl rfl rfl,
    free_new (by simp), free_new (by simp), free_new (by simp), by simp⟩
end Go.Proofs.YtheimfdbadjpoaaGreatDoor

namespace Go.Proofs.YtheimfdbadjpoaaGreatDoor
open Go.ChangeShapes Go.WideShapes Go.ChangeAt Go.RowKit

set_option maxHeartbeats 1000000 in
theorem far_any (wd hg : Int) (a : Option Addr) (n cap : Nat) (zs : List Int) (wd2 hg2 : Int) (b : Option Addr) (cap2 : Nat) (ys : List Int) (w : World) (h : IntsAt w a n cap zs) (h2 : IntsAt w b n cap2 ys)
    (p1 : ∀ z ∈ zs, 0 ≤ z ∧ z ≤ 255) (p2 : ∀ z ∈ ys, 0 ≤ z ∧ z ≤ 255) (hn : n ≤ 36) :
    Calls Tryz.prog 123 #[picV wd hg a n cap, picV wd2 hg2 b n cap2] w fun e w' => e = .returned (.int .i64 (farS zs ys n)) ∧ Lat w w' := by
  obtain ⟨W0, hW0⟩ : ∃ W, W = (w.alloc (.cells #[.int .i64 wd, .int .i64 hg, .slice a n cap] 33)).alloc (.cells #[.int .i64 wd2, .int .i64 hg2, .slice b n cap2] 33) := ⟨_, rfl⟩
  have hL : Lat w W0 := by rw [hW0]; exact Lat.trans (Lat.alloc _ _) (Lat.alloc _ _)
  have k0 : W0.cell? ⟨w.heap.size, 2, none⟩ = some (.slice a n cap) := by rw [hW0]; exact (Lat.alloc _ _).cell_at (cell_new rfl rfl)
  have k1 : W0.cell? ⟨w.heap.size + 1, 2, none⟩ = some (.slice b n cap2) := by rw [hW0]; exact cell_new (by simp) rfl
  have HL := Lib.hid hL
  have H := Lib.hid (h.keep hL)
  have H2 := Lib.hid (h2.keep hL)
  have K1 := Lib.hid k1
  have P1 := Lib.hid p1
  have P2 := Lib.hid p2
  clear hL h h2 k1 p1 p2
  go_enter Tryz.func123, Tryz.ntmps123
  go_upto_region 1 with fail
  rw [← hW0]
  clear hW0
  go_wp2_with fail
  go_loopw [5, 11] (fun v i wr => ∃ k : Nat, k ≤ n ∧ i = .int .i64 k ∧ v = .int .i64 (farS zs ys k) ∧ Hid (Lat W0 wr)) (fun _ i _ => n - (intOf i).toNat)
  case atStart => exact ⟨0, Nat.zero_le _, rfl, rfl, Lat.refl _⟩
  case round =>
    obtain ⟨k, hk, rfl, rfl, hrel⟩ := hrel
    by_cases hlt : k < n
    · have hz := getD_pix P1.out k
      have hy := getD_pix P2.out k
      have hu := farS_le P1.out P2.out k
      have hu0 := farS_nonneg zs ys k
      obtain ⟨b1, o1, rfl, hc1⟩ := (H.out.keep hrel.out).row.at_ (by omega)
      obtain ⟨b2, o2, rfl, hc2⟩ := (H2.out.keep hrel.out).row.at_ (by omega)
      have c1 := hc1 k hlt
      have c2 := hc2 k hlt
      have c3 := hrel.out.cell_at K1.out
      have hst : farS zs ys (k + 1) = farS zs ys k + apt (zs.getD k 0) (ys.getD k 0) := rfl
      obtain ⟨z, hzd⟩ : ∃ z, z = zs.getD k 0 := ⟨_, rfl⟩
      obtain ⟨y, hyd⟩ : ∃ z, z = ys.getD k 0 := ⟨_, rfl⟩
      obtain ⟨U, hU⟩ : ∃ z, z = farS zs ys k := ⟨_, rfl⟩
      rw [← hzd] at c1 hz hst
      rw [← hyd] at c2 hy hst
      rw [← hU] at hu hst hu0
      rw [← hU]
      have HST := Lib.hid hst
      have ha : 0 ≤ apt z y ∧ apt z y ≤ 255 := by unfold apt; omega
      obtain ⟨D, hD⟩ : ∃ d, d = apt z y := ⟨_, rfl⟩
      rw [← hD] at ha
      have HD := Lib.hid hD
      clear hc1 hc2 hzd hyd hst hU hD
      go_wp2_with (go_at_call 63; refine (apart_any z y _ (by omega) (by omega) (by omega) (by omega)).mono ?_; rw [← HD.out]; rintro e w' ⟨rfl, rfl⟩)
      go_roundw
      case rel => exact ⟨k + 1, by omega, by go_num, by rw [HST.out, ← HD.out], hrel.out⟩
      case measure => simp [intOf]; omega
    · obtain rfl : k = n := by omega
      go_wp2
      go_ret
      exact ⟨rfl, Lat.trans HL.out hrel.out⟩

structure BW (w W : World) (wd hg : Nat) (a : Option Addr) (n cap : Nat) (b : Option Addr) (cap2 : Nat) (x y : Int) : Prop where
  lat : Lat w W
  p : Cells3 W w.heap.size 0 (.int .i64 wd) (.int .i64 hg) (.slice a n cap)
  q : Cells3 W (w.heap.size + 1) 0 (.int .i64 wd) (.int .i64 hg) (.slice b n cap2)
  r0 : W.cell? ⟨w.heap.size + 1 + 1, 0, none⟩ = some (.int .i64 0)
  r1 : W.cell? ⟨w.heap.size + 1 + 1, 1, none⟩ = some (.int .i64 0)
  f0 : W.frozen? ⟨w.heap.size + 1 + 1, 0, none⟩ = false
  f1 : W.frozen? ⟨w.heap.size + 1 + 1, 1, none⟩ = false
  o0 : W.cell? ⟨w.heap.size + 1 + 1 + 1, 0, none⟩ = some (.int .i64 x)
  o1 : W.cell? ⟨w.heap.size + 1 + 1 + 1, 1, none⟩ = some (.int .i64 y)
  g0 : W.frozen? ⟨w.heap.size + 1 + 1 + 1, 0, none⟩ = false
  g1 : W.frozen? ⟨w.heap.size + 1 + 1 + 1, 1, none⟩ = false
  sz : w.heap.size + 4 ≤ W.heap.size
section
variable {w W W' : World} {wd hg : Nat} {a : Option Addr} {n cap : Nat} {b : Option Addr} {cap2 : Nat} {x y : Int}
theorem BW.keep (h : BW w W wd hg a n cap b cap2 x y) (hb : Lat W W') : BW w W' wd hg a n cap b cap2 x y :=
  have hs := h.sz
  have l2 : w.heap.size + 1 + 1 < W.heap.size := by omega
  have l3 : w.heap.size + 1 + 1 + 1 < W.heap.size := by omega
  ⟨Lat.trans h.lat hb, h.p.keep hb, h.q.keep hb, hb.cell_at h.r0, hb.cell_at h.r1, hb.free_at l2 h.f0, hb.free_at l2 h.f1, hb.cell_at h.o0, hb.cell_at h.o1, hb.free_at l3 h.g0, hb.free_at l3 h.g1, Nat.le_trans hs hb.size⟩
theorem cell_two {W : World} {g g' k : Nat} {v u u' : Value} (h : W.cell? ⟨g, k, none⟩ = some v) (hne : g ≠ g') : ((W.setCell ⟨g', 0, none⟩ u).setCell ⟨g', 1, none⟩ u').cell? ⟨g, k, none⟩ = some v := by
  rw [World.cell?_setCell_other _ _ _ _ (by intro e; injection e with e _ _; exact hne e.symm), World.cell?_setCell_other _ _ _ _ (by intro e; injection e with e _ _; exact hne e.symm)]; exact h
theorem two_setM {W : World} {g : Nat} {v v' : Value} (h0 : W.cell? ⟨g, 0, none⟩ = some v) (h1 : W.cell? ⟨g, 1, none⟩ = some v') (u u' : Value) :
    ((W.setCell ⟨g, 0, none⟩ u).setCell ⟨g, 1, none⟩ u').cell? ⟨g, 0, none⟩ = some u ∧ ((W.setCell ⟨g, 0, none⟩ u).setCell ⟨g, 1, none⟩ u').cell? ⟨g, 1, none⟩ = some u' := by
  refine ⟨?_, ?_⟩
  · rw [World.cell?_setCell_other _ _ _ _ (by simp)]; exact World.cell?_setCell_same _ _ _ h0
  · exact World.cell?_setCell_same _ _ _ ((World.cell?_setCell_other _ _ _ _ (by simp)).trans h1)
theorem lat_twoM {w W : World} {g : Nat} (hb : Lat w W) (hg : w.heap.size ≤ g) (u u' : Value) : Lat w ((W.setCell ⟨g, 0, none⟩ u).setCell ⟨g, 1, none⟩ u') := Below.setCell (Below.setCell hb hg u) hg u'
theorem free_two {W : World} {p : Addr} {g : Nat} {u u' : Value} (h : W.frozen? p = false) : ((W.setCell ⟨g, 0, none⟩ u).setCell ⟨g, 1, none⟩ u').frozen? p = false := by
  rw [World.frozen?_setCell, World.frozen?_setCell]; exact h
theorem BW.set (h : BW w W wd hg a n cap b cap2 x y) (x' y' : Int) :
    BW w ((W.setCell ⟨w.heap.size + 1 + 1 + 1, 0, none⟩ (.int .i64 x')).setCell ⟨w.heap.size + 1 + 1 + 1, 1, none⟩ (.int .i64 y')) wd hg a n cap b cap2 x' y' :=
  have q := two_setM h.o0 h.o1 (.int .i64 x') (.int .i64 y')
  ⟨lat_twoM h.lat (by omega) _ _, ⟨cell_two h.p.c0 (by omega), cell_two h.p.c1 (by omega), cell_two h.p.c2 (by omega)⟩, ⟨cell_two h.q.c0 (by omega), cell_two h.q.c1 (by omega), cell_two h.q.c2 (by omega)⟩,
    cell_two h.r0 (by omega), cell_two h.r1 (by omega), free_two h.f0, free_two h.f1, q.1, q.2, free_two h.g0, free_two h.g1, by simp [World.setCell]; exact h.sz⟩
end

set_option maxHeartbeats 8000000 in
set_option maxRecDepth 100000 in
theorem best_any (wd hg : Nat) (a : Option Addr) (n cap : Nat) (zs : List Int) (b : Option Addr) (cap2 : Nat) (ys : List Int) (w : World) (h : IntsAt w a n cap zs) (h2 : IntsAt w b n cap2 ys) (hn : wd * hg = n)
    (w1 : 1 ≤ wd) (w6 : wd ≤ 6) (g1 : 1 ≤ hg) (g6 : hg ≤ 6) (p1 : ∀ z ∈ zs, 0 ≤ z ∧ z ≤ 255) (p2 : ∀ z ∈ ys, 0 ≤ z ∧ z ≤ 255) :
    Calls Tryz.prog 84 #[picV wd hg a n cap, picV wd hg b n cap2] w fun e w' => e = .returned (.agg #[.int .i64 (mvX (bst wd hg zs ys 9)), .int .i64 (mvY (bst wd hg zs ys 9))]) ∧ Lat w w' := by
  have hn36 : n ≤ 36 := by rw [← hn]; exact Nat.mul_le_mul w6 g6
  have hlz := h.len
  have hsh : ∀ (mx my : Int) (W : World), Lat w W → -6 ≤ mx → mx ≤ 6 → -6 ≤ my → my ≤ 6 → Calls Tryz.prog 85 #[picV wd hg a n cap, .agg #[.int .i64 mx, .int .i64 my]] W fun e w' =>
      ∃ va vc, e = .returned (.agg #[.int .i64 wd, .int .i64 hg, .slice va n vc]) ∧ IntsAt w' va n vc (shf wd hg zs mx my n) ∧ Lat W w' := fun mx my W hW x1 x2 y1 y2 => by
    refine (shifted_any wd hg a n cap zs mx my W (h.keep hW) hn w1 w6 g1 g6 x1 x2 y1 y2).mono ?_
    rintro e w1 ⟨v, rfl, hown, hb1⟩
    obtain ⟨va, vc, rfl, hat⟩ := OwnInts.sliceN hown (wf_pix (shf_mem p1)) (shf_length _ _ _ _ _ _)
    exact ⟨va, vc, rfl, hat, hb1⟩
  have hfar : ∀ (mx my : Int) (va : Option Addr) (vc : Nat) (W : World), IntsAt W va n vc (shf wd hg zs mx my n) → Lat w W → Calls Tryz.prog 123 #[picV wd hg va n vc, picV wd hg b n cap2] W fun e w' =>
      e = .returned (.int .i64 (mfar wd hg zs ys mx my)) ∧ Lat W w' := fun mx my va vc W hat hW => by
    have := far_any wd hg va n vc _ wd hg b cap2 ys W hat (h2.keep hW) (shf_mem p1) p2 hn36
    unfold mfar
    rw [hlz]
    exact this
  have HSH := Lib.hid hsh
  have HFAR := Lib.hid hfar
  clear hsh hfar h h2 hlz p1 p2
  obtain ⟨W0, hW0⟩ : ∃ W, W = (((w.alloc (.cells #[.int .i64 wd, .int .i64 hg, .slice a n cap] 33)).alloc (.cells #[.int .i64 wd, .int .i64 hg, .slice b n cap2] 33)).alloc (.cells #[.int .i64 0, .int .i64 0] 81)).alloc (.cells #[.int .i64 (-1), .int .i64 (-1)] 81) := ⟨_, rfl⟩
  have hBW : BW w W0 wd hg a n cap b cap2 (-1) (-1) := by
    rw [hW0]
    have l4 := Lat.alloc (((w.alloc (.cells #[.int .i64 wd, .int .i64 hg, .slice a n cap] 33)).alloc (.cells #[.int .i64 wd, .int .i64 hg, .slice b n cap2] 33)).alloc (.cells #[.int .i64 0, .int .i64 0] 81)) (.cells #[.int .i64 (-1), .int .i64 (-1)] 81)
    have l3 := Lat.alloc ((w.alloc (.cells #[.int .i64 wd, .int .i64 hg, .slice a n cap] 33)).alloc (.cells #[.int .i64 wd, .int .i64 hg, .slice b n cap2] 33)) (.cells #[.int .i64 0, .int .i64 0] 81)
    have l2 := Lat.alloc (w.alloc (.cells #[.int .i64 wd, .int .i64 hg, .slice a n cap] 33)) (.cells #[.int .i64 wd, .int .i64 hg, .slice b n cap2] 33)
    have l1 := Lat.alloc w (.cells #[.int .i64 wd, .int .i64 hg, .slice a n cap] 33)
    exact ⟨Lat.trans l1 (Lat.trans l2 (Lat.trans l3 l4)), (cells3_new rfl rfl rfl rfl).keep (Lat.trans l2 (Lat.trans l3 l4)), (cells3_new (by simp) rfl rfl rfl).keep (Lat.trans l3 l4), l4.cell_at (cell_new (by simp) rfl), l4.cell_at (cell_new (by simp) rfl),
      l4.free_at (by simp) (free_new (by simp)), l4.free_at (by simp) (free_new (by simp)), cell_new (by simp) rfl, cell_new (by simp) rfl, free_new (by simp), free_new (by simp), by simp⟩
  go_enter Tryz.func84, Tryz.ntmps84
  go_upto_region 2 with fail
  rw [← hW0]
  clear hW0
  have hF : W0.drew.cell? ⟨w.heap.size, 0, none⟩ = some (.int .i64 wd) ∧ W0.drew.cell? ⟨w.heap.size, 1, none⟩ = some (.int .i64 hg) ∧ W0.drew.cell? ⟨w.heap.size, 2, none⟩ = some (.slice a n cap) ∧ W0.drew.cell? ⟨w.heap.size + 1, 0, none⟩ = some (.int .i64 wd) ∧ W0.drew.cell? ⟨w.heap.size + 1, 1, none⟩ = some (.int .i64 hg) ∧ W0.drew.cell? ⟨w.heap.size + 1, 2, none⟩ = some (.slice b n cap2) ∧ W0.drew.cell? ⟨w.heap.size + 1 + 1 + 1, 0, none⟩ = some (.int .i64 (-1)) ∧ W0.drew.cell? ⟨w.heap.size + 1 + 1 + 1, 1, none⟩ = some (.int .i64 (-1)) := ⟨hBW.p.c0, hBW.p.c1, hBW.p.c2, hBW.q.c0, hBW.q.c1, hBW.q.c2, hBW.o0, hBW.o1⟩
  have hFk : ∀ W, Lat W0.drew W → _ := fun W hW => (⟨hW.cell_at hF.1, hW.cell_at hF.2.1, hW.cell_at hF.2.2.1, hW.cell_at hF.2.2.2.1, hW.cell_at hF.2.2.2.2.1, hW.cell_at hF.2.2.2.2.2.1, hW.cell_at hF.2.2.2.2.2.2.1, hW.cell_at hF.2.2.2.2.2.2.2⟩ : W.cell? ⟨w.heap.size, 0, none⟩ = some (.int .i64 wd) ∧ W.cell? ⟨w.heap.size, 1, none⟩ = some (.int .i64 hg) ∧ W.cell? ⟨w.heap.size, 2, none⟩ = some (.slice a n cap) ∧ W.cell? ⟨w.heap.size + 1, 0, none⟩ = some (.int .i64 wd) ∧ W.cell? ⟨w.heap.size + 1, 1, none⟩ = some (.int .i64 hg) ∧ W.cell? ⟨w.heap.size + 1, 2, none⟩ = some (.slice b n cap2) ∧ W.cell? ⟨w.heap.size + 1 + 1 + 1, 0, none⟩ = some (.int .i64 (-1)) ∧ W.cell? ⟨w.heap.size + 1 + 1 + 1, 1, none⟩ = some (.int .i64 (-1)))
  have WLAT := Lib.hid (Lat.trans hBW.lat (Lat.drew W0))
  have XB : (-6 : Int) ≤ -1 ∧ (-1 : Int) ≤ 6 ∧ (-6 : Int) ≤ -1 ∧ (-1 : Int) ≤ 6 := by omega
  have HBW := Lib.hid (hBW.keep (Lat.drew W0))
  clear hBW
  refine wp_region_gate (fun w' => w'.cell? ⟨w.heap.size, 0, none⟩ = some (.int .i64 wd) ∧ w'.cell? ⟨w.heap.size, 1, none⟩ = some (.int .i64 hg) ∧ w'.cell? ⟨w.heap.size, 2, none⟩ = some (.slice a n cap) ∧ w'.cell? ⟨w.heap.size + 1, 0, none⟩ = some (.int .i64 wd) ∧ w'.cell? ⟨w.heap.size + 1, 1, none⟩ = some (.int .i64 hg) ∧ w'.cell? ⟨w.heap.size + 1, 2, none⟩ = some (.slice b n cap2) ∧ w'.cell? ⟨w.heap.size + 1 + 1 + 1, 0, none⟩ = some (.int .i64 (-1)) ∧ w'.cell? ⟨w.heap.size + 1 + 1 + 1, 1, none⟩ = some (.int .i64 (-1))) (fun _ => True) 1000 (by kernel_rfl) ?_
  refine gate_takeF (i := 0) (v := ?_) rfl (by kernel_rfl) (by kernel_rfl) (by kernel_rfl) (fun _ _ _ h => h) (by decide) ⟨hF, fun _ => trivial⟩ (Or.inl ⟨by rfl, ?_⟩) ?_
  rotate_left
  · intro wq hSw; obtain ⟨s0, s1, s2, s3, s4, s5, s6, s7⟩ := hSw; go_simp; rfl
  simp only [Act.put]
  refine gate_takeF (i := 1) (v := ?_) rfl (by kernel_rfl) (by kernel_rfl) (by kernel_rfl) (fun _ _ _ h => h) (by decide) ⟨hF, fun _ => trivial⟩ (Or.inl ⟨by rfl, ?_⟩) ?_
  rotate_left
  · intro wq hSw; obtain ⟨s0, s1, s2, s3, s4, s5, s6, s7⟩ := hSw; go_simp; rfl
  simp only [Act.put]
  refine gate_takeF (i := 3) (v := ?_) rfl (by kernel_rfl) (by kernel_rfl) (by kernel_rfl) (fun _ _ _ h => h) (by decide) ⟨hF, fun _ => trivial⟩ (Or.inl ⟨by rfl, ?_⟩) ?_
  rotate_left
  · intro wq hSw; obtain ⟨s0, s1, s2, s3, s4, s5, s6, s7⟩ := hSw; go_simp; rfl
  simp only [Act.put]
  refine gate_one (i := 2) (by kernel_rfl) rfl (fun K hK => ?_)
  go_simp
  refine (HSH.out _ _ _ WLAT.out XB.1 XB.2.1 XB.2.2.1 XB.2.2.2).mono ?_
  rintro e w1 ⟨va, vc, rfl, hat, hb1⟩
  have hF1 := hFk _ hb1
  refine hK _ _ ⟨hF1, fun _ => trivial⟩ ?_
  clear hK K
  refine gate_one (i := 4) (by kernel_rfl) rfl (fun K hK => ?_)
  go_simp
  refine (HFAR.out _ _ _ _ _ hat (Lat.trans WLAT.out hb1)).mono ?_
  rintro e w2 ⟨rfl, hb2⟩
  have hF2 := hFk _ (Lat.trans hb1 hb2)
  refine hK _ _ ⟨hF2, fun _ => trivial⟩ ?_
  clear hK K
  refine gate_takeF (i := 5) (v := ?_) rfl (by kernel_rfl) (by kernel_rfl) (by kernel_rfl) (fun _ _ _ h => h) (by decide) ⟨hF2, fun _ => trivial⟩ (Or.inl ⟨by rfl, ?_⟩) ?_
  rotate_left
  · intro wq hSw; go_simp; rfl
  simp only [Act.put]
  refine gate_done (by kernel_rfl) ?_ _
  have HBW2 := Lib.hid (HBW.out.keep (Lat.trans hb1 hb2))
  clear hF hFk hF1 hF2 hat hb1 hb2 XB WLAT HBW
  go_wp2_with fail
  go_loopw [6, 7] (fun l y wr => ∃ k : Nat, k ≤ 3 ∧ y = .int .i64 ((k : Int) - 1) ∧ l = .int .i64 (mfar wd hg zs ys (mvX (bst wd hg zs ys (3 * k))) (mvY (bst wd hg zs ys (3 * k)))) ∧ Hid (BW w wr wd hg a n cap b cap2 (mvX (bst wd hg zs ys (3 * k))) (mvY (bst wd hg zs ys (3 * k))))) (fun _ y _ => (2 - intOf y).toNat)
  case atStart => exact ⟨0, by omega, rfl, by rw [show bst wd hg zs ys (3 * 0) = 0 from rfl, show mvX 0 = -1 from rfl, show mvY 0 = -1 from rfl], by rw [show bst wd hg zs ys (3 * 0) = 0 from rfl, show mvX 0 = -1 from rfl, show mvY 0 = -1 from rfl]; exact HBW2.out⟩
  case round =>
    obtain ⟨k, hk, rfl, rfl, hrel⟩ := hrel
    obtain ⟨Y, hY⟩ : ∃ Y : Int, Y = (k : Int) - 1 := ⟨_, rfl⟩
    rw [← hY]
    by_cases hlt : k < 3
    · have y1 : -1 ≤ Y := by omega
      have y2 : Y ≤ 1 := by omega
      have HY := Lib.hid hY
      clear hY
      go_wp2_with fail
      go_loopw [6, 8] (fun l x wr => ∃ j : Nat, j ≤ 3 ∧ x = .int .i64 ((j : Int) - 1) ∧ l = .int .i64 (mfar wd hg zs ys (mvX (bst wd hg zs ys (3 * k + j))) (mvY (bst wd hg zs ys (3 * k + j)))) ∧ Hid (BW w wr wd hg a n cap b cap2 (mvX (bst wd hg zs ys (3 * k + j))) (mvY (bst wd hg zs ys (3 * k + j))))) (fun _ x _ => (2 - intOf x).toNat)
      case atStart => exact ⟨0, by omega, rfl, rfl, hrel.out⟩
      case round =>
        obtain ⟨j, hj, rfl, rfl, hrel⟩ := hrel
        obtain ⟨X, hX⟩ : ∃ X : Int, X = (j : Int) - 1 := ⟨_, rfl⟩
        rw [← hX]
        have hB := hrel.out
        obtain ⟨I, hI⟩ : ∃ I, I = bst wd hg zs ys (3 * k + j) := ⟨_, rfl⟩
        rw [← hI] at hB
        rw [← hI]
        by_cases hlt2 : j < 3
        · have x1 : -1 ≤ X := by omega
          have x2 : X ≤ 1 := by omega
          have ex : mvX (3 * k + j) = X := by rw [hX]; unfold mvX; omega
          have ey : mvY (3 * k + j) = Y := by rw [HY.out]; unfold mvY; omega
          have hst : bst wd hg zs ys (3 * k + (j + 1)) = if mfar wd hg zs ys X Y < mfar wd hg zs ys (mvX I) (mvY I) then 3 * k + j else I := by
            rw [← Nat.add_assoc, bst, ← hI, ex, ey]
          obtain ⟨M1, hM1⟩ : ∃ M, M = mfar wd hg zs ys X Y := ⟨_, rfl⟩
          obtain ⟨M2, hM2⟩ : ∃ M, M = mfar wd hg zs ys (mvX I) (mvY I) := ⟨_, rfl⟩
          rw [← hM1, ← hM2] at hst
          rw [← hM2]
          have HST := Lib.hid hst
          have HM1 := Lib.hid hM1
          have HM2 := Lib.hid hM2
          have HX := Lib.hid hX
          have EX := Lib.hid ex
          have EY := Lib.hid ey
          have HB0 := Lib.hid hB
          clear hst hM1 hM2 hX ex ey hB hrel hI
          go_upto_region 10 with fail
          have hB1 := (HB0.out.keep (Lat.alloc wr (.cells #[.int .i64 X, .int .i64 Y] 81))).keep (Lat.drew _)
          have hF : (wr.alloc (.cells #[.int .i64 X, .int .i64 Y] 81)).drew.cell? ⟨w.heap.size, 0, none⟩ = some (.int .i64 wd) ∧ (wr.alloc (.cells #[.int .i64 X, .int .i64 Y] 81)).drew.cell? ⟨w.heap.size, 1, none⟩ = some (.int .i64 hg) ∧ (wr.alloc (.cells #[.int .i64 X, .int .i64 Y] 81)).drew.cell? ⟨w.heap.size, 2, none⟩ = some (.slice a n cap) ∧ (wr.alloc (.cells #[.int .i64 X, .int .i64 Y] 81)).drew.cell? ⟨w.heap.size + 1, 0, none⟩ = some (.int .i64 wd) ∧ (wr.alloc (.cells #[.int .i64 X, .int .i64 Y] 81)).drew.cell? ⟨w.heap.size + 1, 1, none⟩ = some (.int .i64 hg) ∧ (wr.alloc (.cells #[.int .i64 X, .int .i64 Y] 81)).drew.cell? ⟨w.heap.size + 1, 2, none⟩ = some (.slice b n cap2) ∧ (wr.alloc (.cells #[.int .i64 X, .int .i64 Y] 81)).drew.cell? ⟨wr.heap.size, 0, none⟩ = some (.int .i64 X) ∧ (wr.alloc (.cells #[.int .i64 X, .int .i64 Y] 81)).drew.cell? ⟨wr.heap.size, 1, none⟩ = some (.int .i64 Y) := ⟨hB1.p.c0, hB1.p.c1, hB1.p.c2, hB1.q.c0, hB1.q.c1, hB1.q.c2, cell_new rfl rfl, cell_new rfl rfl⟩
          have hFk : ∀ W, Lat (wr.alloc (.cells #[.int .i64 X, .int .i64 Y] 81)).drew W → _ := fun W hW => (⟨hW.cell_at hF.1, hW.cell_at hF.2.1, hW.cell_at hF.2.2.1, hW.cell_at hF.2.2.2.1, hW.cell_at hF.2.2.2.2.1, hW.cell_at hF.2.2.2.2.2.1, hW.cell_at hF.2.2.2.2.2.2.1, hW.cell_at hF.2.2.2.2.2.2.2⟩ : W.cell? ⟨w.heap.size, 0, none⟩ = some (.int .i64 wd) ∧ W.cell? ⟨w.heap.size, 1, none⟩ = some (.int .i64 hg) ∧ W.cell? ⟨w.heap.size, 2, none⟩ = some (.slice a n cap) ∧ W.cell? ⟨w.heap.size + 1, 0, none⟩ = some (.int .i64 wd) ∧ W.cell? ⟨w.heap.size + 1, 1, none⟩ = some (.int .i64 hg) ∧ W.cell? ⟨w.heap.size + 1, 2, none⟩ = some (.slice b n cap2) ∧ W.cell? ⟨wr.heap.size, 0, none⟩ = some (.int .i64 X) ∧ W.cell? ⟨wr.heap.size, 1, none⟩ = some (.int .i64 Y))
          have WLAT := Lib.hid hB1.lat
          have XB : (-6 : Int) ≤ X ∧ X ≤ 6 ∧ (-6 : Int) ≤ Y ∧ Y ≤ 6 := by omega
          have HB1 := Lib.hid hB1
          clear hB1
          refine wp_region_gate (fun w' => w'.cell? ⟨w.heap.size, 0, none⟩ = some (.int .i64 wd) ∧ w'.cell? ⟨w.heap.size, 1, none⟩ = some (.int .i64 hg) ∧ w'.cell? ⟨w.heap.size, 2, none⟩ = some (.slice a n cap) ∧ w'.cell? ⟨w.heap.size + 1, 0, none⟩ = some (.int .i64 wd) ∧ w'.cell? ⟨w.heap.size + 1, 1, none⟩ = some (.int .i64 hg) ∧ w'.cell? ⟨w.heap.size + 1, 2, none⟩ = some (.slice b n cap2) ∧ w'.cell? ⟨wr.heap.size, 0, none⟩ = some (.int .i64 X) ∧ w'.cell? ⟨wr.heap.size, 1, none⟩ = some (.int .i64 Y)) (fun _ => True) 1000 (by kernel_rfl) ?_
          refine gate_takeF (i := 0) (v := ?_) rfl (by kernel_rfl) (by kernel_rfl) (by kernel_rfl) (fun _ _ _ h => h) (by decide) ⟨hF, fun _ => trivial⟩ (Or.inl ⟨by rfl, ?_⟩) ?_
          rotate_left
          · intro wq hSw; obtain ⟨s0, s1, s2, s3, s4, s5, s6, s7⟩ := hSw; go_simp; rfl
          simp only [Act.put]
          refine gate_takeF (i := 1) (v := ?_) rfl (by kernel_rfl) (by kernel_rfl) (by kernel_rfl) (fun _ _ _ h => h) (by decide) ⟨hF, fun _ => trivial⟩ (Or.inl ⟨by rfl, ?_⟩) ?_
          rotate_left
          · intro wq hSw; obtain ⟨s0, s1, s2, s3, s4, s5, s6, s7⟩ := hSw; go_simp; rfl
          simp only [Act.put]
          refine gate_takeF (i := 3) (v := ?_) rfl (by kernel_rfl) (by kernel_rfl) (by kernel_rfl) (fun _ _ _ h => h) (by decide) ⟨hF, fun _ => trivial⟩ (Or.inl ⟨by rfl, ?_⟩) ?_
          rotate_left
          · intro wq hSw; obtain ⟨s0, s1, s2, s3, s4, s5, s6, s7⟩ := hSw; go_simp; rfl
          simp only [Act.put]
          refine gate_one (i := 2) (by kernel_rfl) rfl (fun K hK => ?_)
          go_simp
          refine (HSH.out _ _ _ WLAT.out XB.1 XB.2.1 XB.2.2.1 XB.2.2.2).mono ?_
          rintro e w1 ⟨va, vc, rfl, hat, hb1⟩
          have hF1 := hFk _ hb1
          refine hK _ _ ⟨hF1, fun _ => trivial⟩ ?_
          clear hK K
          refine gate_one (i := 4) (by kernel_rfl) rfl (fun K hK => ?_)
          go_simp
          refine (HFAR.out _ _ _ _ _ hat (Lat.trans WLAT.out hb1)).mono ?_
          rintro e w2 ⟨rfl, hb2⟩
          have hF2 := hFk _ (Lat.trans hb1 hb2)
          refine hK _ _ ⟨hF2, fun _ => trivial⟩ ?_
          clear hK K
          refine gate_takeF (i := 5) (v := ?_) rfl (by kernel_rfl) (by kernel_rfl) (by kernel_rfl) (fun _ _ _ h => h) (by decide) ⟨hF2, fun _ => trivial⟩ (Or.inl ⟨by rfl, ?_⟩) ?_
          rotate_left
          · intro wq hSw; go_simp; rfl
          simp only [Act.put]
          refine gate_done (by kernel_rfl) ?_ _
          rw [← HM1.out]
          have HB2 := Lib.hid (HB1.out.keep (Lat.trans hb1 hb2))
          have m0 : w2.cell? ⟨wr.heap.size, 0, none⟩ = some (.int .i64 X) := hF2.2.2.2.2.2.2.1
          have m1 : w2.cell? ⟨wr.heap.size, 1, none⟩ = some (.int .i64 Y) := hF2.2.2.2.2.2.2.2
          clear hF hFk hF1 hF2 hat hb1 hb2 XB WLAT HB1
          by_cases hlm : M1 < M2
          · have d1 : decide (M1 < M2) = true := decide_eq_true hlm
            have o0 := HB2.out.o0
            have o1 := HB2.out.o1
            have f0 := HB2.out.g0
            have f1 := HB2.out.g1
            have hst : bst wd hg zs ys (3 * k + (j + 1)) = 3 * k + j := by rw [HST.out, if_pos hlm]
            have hset := HB2.out.set X Y
            have HSET := Lib.hid hset
            have HS := Lib.hid hst
            clear hst hlm hset
            go_wp2_with fail
            go_roundw
            case rel => exact ⟨j + 1, by omega, congrArg (Value.int .i64) (by have := HX.out; omega), by rw [HS.out, EX.out, EY.out, HM1.out], by rw [HS.out, EX.out, EY.out]; exact HSET.out⟩
            case measure => simp [intOf]; omega
          · have d1 : decide (M1 < M2) = false := decide_eq_false hlm
            have hst : bst wd hg zs ys (3 * k + (j + 1)) = I := by rw [HST.out, if_neg hlm]
            have HS := Lib.hid hst
            clear hst hlm
            go_wp2_with fail
            go_roundw
            case rel => exact ⟨j + 1, by omega, congrArg (Value.int .i64) (by have := HX.out; omega), by rw [HS.out, HM2.out], by rw [HS.out]; exact HB2.out⟩
            case measure => simp [intOf]; omega
        · have x2 : ¬ X ≤ 1 := by omega
          have e3 : 3 * k + j = 3 * (k + 1) := by omega
          have HI := Lib.hid (show I = bst wd hg zs ys (3 * (k + 1)) by rw [hI, e3])
          have HB0 := Lib.hid hB
          clear hB hI hX hrel
          go_wp2_with fail
          go_roundw
          case rel => exact ⟨k + 1, by omega, congrArg (Value.int .i64) (by have := HY.out; omega), by rw [HI.out], by rw [← HI.out]; exact HB0.out⟩
          case measure => simp [intOf]; omega
    · have y2 : ¬ Y ≤ 1 := by omega
      have e9 : 3 * k = 9 := by omega
      obtain ⟨I, hI⟩ : ∃ I, I = bst wd hg zs ys 9 := ⟨_, rfl⟩
      have hB := hrel.out
      rw [e9, ← hI] at hB
      rw [e9, ← hI]
      have o0 := hB.o0
      have o1 := hB.o1
      have r0 := hB.r0
      have r1 := hB.r1
      have f0 := hB.f0
      have f1 := hB.f1
      obtain ⟨q0, q1⟩ := two_setM r0 r1 (.int .i64 (mvX I)) (.int .i64 (mvY I))
      have hl := lat_twoM hB.lat (show w.heap.size ≤ w.heap.size + 1 + 1 by omega) (.int .i64 (mvX I)) (.int .i64 (mvY I))
      have HI := Lib.hid hI
      have Q0 := Lib.hid q0
      have Q1 := Lib.hid q1
      have HL := Lib.hid hl
      clear hB hrel hI hY q0 q1 hl e9
      go_wp2
      exact bodyPost_ret (v := .agg #[.int .i64 (mvX I), .int .i64 (mvY I)]) (by simp [results, Tryz.results84, go_sem, Q0.out, Q1.out]) rfl ⟨by rw [HI.out], HL.out⟩
end Go.Proofs.YtheimfdbadjpoaaGreatDoor

namespace Go.Proofs.YtheimfdbadjpoaaGreatDoor
open Go.ChangeShapes Go.WideShapes Go.ChangeAt Go.RowKit

abbrev codV (al : Bool) (x y : Int) (a : Option Addr) (n cap : Nat) : Value := .agg #[.bool al, .int .i64 x, .int .i64 y, .slice a n cap]
def movE (wd hg : Int) (zs : List Int) (wd2 hg2 : Int) (ys : List Int) (s : Int) : Nat := if alkE wd hg zs wd2 hg2 ys ≠ 0 then alkE wd hg zs wd2 hg2 ys else if stepB s = false then 1 else 0
theorem movE_zero {wd hg : Int} {zs : List Int} {wd2 hg2 : Int} {ys : List Int} {s : Int} (h : movE wd hg zs wd2 hg2 ys s = 0) : alkE wd hg zs wd2 hg2 ys = 0 ∧ 1 ≤ s ∧ s ≤ 64 := by
  unfold movE at h
  split at h
  · omega
  · rename_i h1
    split at h
    · omega
    · rename_i h2
      have a1 : stepB s = true := by cases hq : stepB s <;> simp_all
      simp only [stepB, decide_eq_true_eq] at a1
      exact ⟨by omega, a1.1, a1.2⟩
theorem movE_of {wd hg : Int} {zs : List Int} {wd2 hg2 : Int} {ys : List Int} {s : Int} (h : alkE wd hg zs wd2 hg2 ys = 0) (h1 : 1 ≤ s) (h2 : s ≤ 64) : movE wd hg zs wd2 hg2 ys s = 0 := by
  unfold movE
  rw [if_neg (by omega), if_neg (by simp [stepB, h1, h2])]
structure Cells4 (w : World) (g : Nat) (x y z u : Value) : Prop where
  c0 : w.cell? ⟨g, 0, none⟩ = some x
  c1 : w.cell? ⟨g, 1, none⟩ = some y
  c2 : w.cell? ⟨g, 2, none⟩ = some z
  c3 : w.cell? ⟨g, 3, none⟩ = some u
theorem Cells4.keep {w w' : World} {g : Nat} {x y z u : Value} (h : Cells4 w g x y z u) (hb : Lat w w') : Cells4 w' g x y z u := ⟨hb.cell_at h.c0, hb.cell_at h.c1, hb.cell_at h.c2, hb.cell_at h.c3⟩
theorem cells4_new {w : World} {cs : Array Value} {t : TypeId} {g : Nat} {x y z u : Value} (h : g = w.heap.size) (h0 : cs[0]? = some x) (h1 : cs[1]? = some y) (h2 : cs[2]? = some z) (h3 : cs[3]? = some u) : Cells4 (w.alloc (.cells cs t)) g x y z u :=
  ⟨cell_new h h0, cell_new h h1, cell_new h h2, cell_new h h3⟩
def four (w : World) (g : Nat) (x y z u : Value) : World := (((w.setCell ⟨g, 0, none⟩ x).setCell ⟨g, 1, none⟩ y).setCell ⟨g, 2, none⟩ z).setCell ⟨g, 3, none⟩ u
theorem four_set {w : World} {g : Nat} {a b c d : Value} (h : Cells4 w g a b c d) (x y z u : Value) : Cells4 (four w g x y z u) g x y z u := by
  unfold four
  refine ⟨?_, ?_, ?_, ?_⟩
  · rw [World.cell?_setCell_other _ _ _ _ (by simp), World.cell?_setCell_other _ _ _ _ (by simp), World.cell?_setCell_other _ _ _ _ (by simp)]; exact World.cell?_setCell_same _ _ _ h.c0
  · rw [World.cell?_setCell_other _ _ _ _ (by simp), World.cell?_setCell_other _ _ _ _ (by simp)]; exact World.cell?_setCell_same _ _ _ ((World.cell?_setCell_other _ _ _ _ (by simp)).trans h.c1)
  · rw [World.cell?_setCell_other _ _ _ _ (by simp)]; exact World.cell?_setCell_same _ _ _ ((World.cell?_setCell_other _ _ _ _ (by simp)).trans ((World.cell?_setCell_other _ _ _ _ (by simp)).trans h.c2))
  · exact World.cell?_setCell_same _ _ _ ((World.cell?_setCell_other _ _ _ _ (by simp)).trans ((World.cell?_setCell_other _ _ _ _ (by simp)).trans ((World.cell?_setCell_other _ _ _ _ (by simp)).trans h.c3)))
theorem lat_four {w w1 : World} {g : Nat} (hb : Lat w w1) (hg : w.heap.size ≤ g) (x y z u : Value) : Lat w (four w1 g x y z u) := Below.setCell (Below.setCell (Below.setCell (Below.setCell hb hg x) hg y) hg z) hg u
theorem ints_four {w : World} {g : Nat} {a : Option Addr} {n cap : Nat} {L : List Int} (h : IntsAt w a n cap L) (hne : ∀ b o, a = some ⟨b, o, none⟩ → n ≠ 0 → b ≠ g) (x y z u : Value) : IntsAt (four w g x y z u) a n cap L := by
  refine ⟨h.len, ⟨h.row.le, h.row.cap, fun hn => ?_⟩, h.wf⟩
  obtain ⟨b, o, ha, hc⟩ := h.row.at_ hn
  refine ⟨b, o, ha, fun j hj => ?_⟩
  have hb := hne b o ha hn
  have nn : ∀ k, (⟨g, k, none⟩ : Addr) ≠ ⟨b, o + j, none⟩ := fun k e => hb (by injection e with e _ _; exact e.symm)
  unfold four
  rw [World.cell?_setCell_other _ _ _ _ (nn 3), World.cell?_setCell_other _ _ _ _ (nn 2), World.cell?_setCell_other _ _ _ _ (nn 1), World.cell?_setCell_other _ _ _ _ (nn 0)]
  exact hc j hj
structure EW (w W : World) (wd hg : Int) (a : Option Addr) (n cap : Nat) (wd2 hg2 : Int) (b : Option Addr) (m cap2 : Nat) : Prop where
  lat : Lat w W
  p : Cells3 W w.heap.size 0 (.int .i64 wd) (.int .i64 hg) (.slice a n cap)
  q : Cells3 W (w.heap.size + 1) 0 (.int .i64 wd2) (.int .i64 hg2) (.slice b m cap2)
  r : Cells4 W (w.heap.size + 1 + 1) (.bool false) (.int .i64 0) (.int .i64 0) (.slice none 0 0)
  f : ∀ k, k < 4 → W.frozen? ⟨w.heap.size + 1 + 1, k, none⟩ = false
  sz : w.heap.size + 1 + 1 < W.heap.size
theorem EW.keep {w W W' : World} {wd hg : Int} {a : Option Addr} {n cap : Nat} {wd2 hg2 : Int} {b : Option Addr} {m cap2 : Nat} (h : EW w W wd hg a n cap wd2 hg2 b m cap2) (hb : Lat W W') : EW w W' wd hg a n cap wd2 hg2 b m cap2 :=
  ⟨Lat.trans h.lat hb, h.p.keep hb, h.q.keep hb, h.r.keep hb, fun k hk => hb.free_at h.sz (h.f k hk), Nat.lt_of_lt_of_le h.sz hb.size⟩
theorem ew_open (w : World) (wd hg : Int) (a : Option Addr) (n cap : Nat) (wd2 hg2 : Int) (b : Option Addr) (m cap2 : Nat) :
    EW w (((w.alloc (.cells #[.int .i64 wd, .int .i64 hg, .slice a n cap] 33)).alloc (.cells #[.int .i64 wd2, .int .i64 hg2, .slice b m cap2] 33)).alloc (.cells #[.bool false, .int .i64 0, .int .i64 0, .slice none 0 0] 83)) wd hg a n cap wd2 hg2 b m cap2 := by
  have l3 := Lat.alloc ((w.alloc (.cells #[.int .i64 wd, .int .i64 hg, .slice a n cap] 33)).alloc (.cells #[.int .i64 wd2, .int .i64 hg2, .slice b m cap2] 33)) (.cells #[.bool false, .int .i64 0, .int .i64 0, .slice none 0 0] 83)
  have l2 := Lat.alloc (w.alloc (.cells #[.int .i64 wd, .int .i64 hg, .slice a n cap] 33)) (.cells #[.int .i64 wd2, .int .i64 hg2, .slice b m cap2] 33)
  have l1 := Lat.alloc w (.cells #[.int .i64 wd, .int .i64 hg, .slice a n cap] 33)
  exact ⟨Lat.trans l1 (Lat.trans l2 l3), (cells3_new rfl rfl rfl rfl).keep (Lat.trans l2 l3), (cells3_new (by simp) rfl rfl rfl).keep l3, cells4_new (by simp) rfl rfl rfl rfl, fun k _ => free_new (by simp), by simp⟩

set_option maxHeartbeats 2000000 in
theorem mencode_bad (wd hg : Int) (a : Option Addr) (n cap : Nat) (zs : List Int) (wd2 hg2 : Int) (b : Option Addr) (m cap2 : Nat) (ys : List Int) (s : Int) (w : World) (h : IntsAt w a n cap zs) (h2 : IntsAt w b m cap2 ys) (he : movE wd hg zs wd2 hg2 ys s ≠ 0) :
    Calls Tryz.prog 40 #[picV wd hg a n cap, picV wd2 hg2 b m cap2, .int .i64 s] w fun e w' => e = .returned (.tuple #[codV false 0 0 none 0 0, eno (movE wd hg zs wd2 hg2 ys s)]) ∧ Lat w w' := by
  obtain ⟨W0, hW0⟩ : ∃ W, W = ((w.alloc (.cells #[.int .i64 wd, .int .i64 hg, .slice a n cap] 33)).alloc (.cells #[.int .i64 wd2, .int .i64 hg2, .slice b m cap2] 33)).alloc (.cells #[.bool false, .int .i64 0, .int .i64 0, .slice none 0 0] 83) := ⟨_, rfl⟩
  have hs := ew_open w wd hg a n cap wd2 hg2 b m cap2
  rw [← hW0] at hs
  have hc := alike_any wd hg a n cap zs wd2 hg2 b m cap2 ys W0 (h.keep hs.lat) (h2.keep hs.lat)
  obtain ⟨E, hE⟩ : ∃ E, E = movE wd hg zs wd2 hg2 ys s := ⟨_, rfl⟩
  rw [← hE] at he ⊢
  have HS := Lib.hid hs
  by_cases h1 : alkE wd hg zs wd2 hg2 ys = 0
  · have h3 : stepB s = false := by
      cases hq : stepB s
      · rfl
      · exact absurd (show E = 0 by rw [hE]; unfold movE; rw [if_neg (by omega), if_neg (by simp [hq])]) he
    have e1 : E = 1 := by rw [hE]; unfold movE; rw [if_neg (by omega), if_pos h3]
    rw [h1, errv_zero rfl] at hc
    rw [e1]
    have HC := Lib.hid hc
    clear hc h h2 he h1 e1 hE hs
    go_enter Tryz.func40, Tryz.ntmps40
    go_upto_region 1 with fail
    rw [← hW0]
    clear hW0
    have p0 : W0.cell? ⟨w.heap.size, 0, none⟩ = _ := HS.out.p.c0
    have p1 : W0.cell? ⟨w.heap.size, 1, none⟩ = _ := HS.out.p.c1
    have p2 : W0.cell? ⟨w.heap.size, 2, none⟩ = _ := HS.out.p.c2
    have q0 : W0.cell? ⟨w.heap.size + 1, 0, none⟩ = _ := HS.out.q.c0
    have q1 : W0.cell? ⟨w.heap.size + 1, 1, none⟩ = _ := HS.out.q.c1
    have q2 : W0.cell? ⟨w.heap.size + 1, 2, none⟩ = _ := HS.out.q.c2
    go_wp2_with fail
    refine HC.out.mono ?_
    rintro e w1 ⟨rfl, hb1⟩
    clear p0 p1 p2 q0 q1 q2
    have hs1 := HS.out.keep hb1
    go_wp2_with fail
    refine (step_any s _).mono ?_
    rw [h3]
    clear h3
    rintro e w' ⟨rfl, rfl⟩
    have r0 := hs1.r.c0
    have r1 := hs1.r.c1
    have r2 := hs1.r.c2
    have r3 := hs1.r.c3
    have f0 := hs1.f 0 (by omega)
    have f1 := hs1.f 1 (by omega)
    have f2 := hs1.f 2 (by omega)
    have f3 := hs1.f 3 (by omega)
    have Q := four_set hs1.r (.bool false) (.int .i64 0) (.int .i64 0) (.slice none 0 0)
    have HL := Lib.hid (lat_four hs1.lat (show w.heap.size ≤ w.heap.size + 1 + 1 by omega) (.bool false) (.int .i64 0) (.int .i64 0) (.slice none 0 0))
    unfold four at Q HL
    have Q := Lib.hid Q
    clear hs1 hb1
    go_wp2
    exact bodyPost_ret (v := .tuple #[codV false 0 0 none 0 0, eno 1]) (by simp [results, Tryz.results40, go_sem, Q.out.c0, Q.out.c1, Q.out.c2, Q.out.c3]) rfl ⟨rfl, HL.out⟩
  · have e1 : E = alkE wd hg zs wd2 hg2 ys := by rw [hE]; unfold movE; rw [if_pos h1]
    rw [← e1, errv_pos he] at hc
    have HC := Lib.hid hc
    clear hc h h2 he h1 e1 hE hs
    go_enter Tryz.func40, Tryz.ntmps40
    go_upto_region 1 with fail
    rw [← hW0]
    clear hW0
    have p0 : W0.cell? ⟨w.heap.size, 0, none⟩ = _ := HS.out.p.c0
    have p1 : W0.cell? ⟨w.heap.size, 1, none⟩ = _ := HS.out.p.c1
    have p2 : W0.cell? ⟨w.heap.size, 2, none⟩ = _ := HS.out.p.c2
    have q0 : W0.cell? ⟨w.heap.size + 1, 0, none⟩ = _ := HS.out.q.c0
    have q1 : W0.cell? ⟨w.heap.size + 1, 1, none⟩ = _ := HS.out.q.c1
    have q2 : W0.cell? ⟨w.heap.size + 1, 2, none⟩ = _ := HS.out.q.c2
    go_wp2_with fail
    refine HC.out.mono ?_
    rintro e w1 ⟨rfl, hb1⟩
    clear p0 p1 p2 q0 q1 q2
    have hs1 := HS.out.keep hb1
    have r0 := hs1.r.c0
    have r1 := hs1.r.c1
    have r2 := hs1.r.c2
    have r3 := hs1.r.c3
    have f0 := hs1.f 0 (by omega)
    have f1 := hs1.f 1 (by omega)
    have f2 := hs1.f 2 (by omega)
    have f3 := hs1.f 3 (by omega)
    have Q := four_set hs1.r (.bool false) (.int .i64 0) (.int .i64 0) (.slice none 0 0)
    have HL := Lib.hid (lat_four hs1.lat (show w.heap.size ≤ w.heap.size + 1 + 1 by omega) (.bool false) (.int .i64 0) (.int .i64 0) (.slice none 0 0))
    unfold four at Q HL
    have Q := Lib.hid Q
    clear hs1 hb1
    go_wp2
    exact bodyPost_ret (v := .tuple #[codV false 0 0 none 0 0, eno E]) (by simp [results, Tryz.results40, go_sem, Q.out.c0, Q.out.c1, Q.out.c2, Q.out.c3]) rfl ⟨rfl, HL.out⟩

set_option maxHeartbeats 8000000 in
set_option maxRecDepth 100000 in
theorem mencode_ok (wd hg : Nat) (a : Option Addr) (n cap : Nat) (zs : List Int) (b : Option Addr) (cap2 : Nat) (ys : List Int) (s : Int) (w : World) (h : IntsAt w a n cap zs) (h2 : IntsAt w b n cap2 ys) (he : movE wd hg zs wd hg ys s = 0) (I : Nat) (hI : I = bst wd hg zs ys 9) :
    Calls Tryz.prog 40 #[picV wd hg a n cap, picV wd hg b n cap2, .int .i64 s] w fun e w' => ∃ c cc, e = .returned (.tuple #[codV false (mvX I) (mvY I) c n cc, .nilIface]) ∧ IntsAt w' c n cc (mrs (shf wd hg zs (mvX I) (mvY I) n) ys s n) ∧ Fresh w c n ∧ Lat w w' := by
  obtain ⟨ha, s1, s64⟩ := movE_zero he
  obtain ⟨ka, kb, _, _⟩ := alkE_zero.1 ha
  have oa := chkPic_ok ka
  have ob := chkPic_ok kb
  have hn : wd * hg = n := by
    have := oa.len
    rw [h.len, ← Int.natCast_mul] at this
    omega
  have w1 : 1 ≤ wd := by have := oa.w1; omega
  have w6 : wd ≤ 6 := by have := oa.w6; omega
  have g1 : 1 ≤ hg := by have := oa.h1; omega
  have g6 : hg ≤ 6 := by have := oa.h6; omega
  have hn36 : n ≤ 36 := by rw [← hn]; exact Nat.mul_le_mul w6 g6
  have h3 : stepB s = true := by simp [stepB, s1, s64]
  obtain ⟨W0, hW0⟩ : ∃ W, W = ((w.alloc (.cells #[.int .i64 wd, .int .i64 hg, .slice a n cap] 33)).alloc (.cells #[.int .i64 wd, .int .i64 hg, .slice b n cap2] 33)).alloc (.cells #[.bool false, .int .i64 0, .int .i64 0, .slice none 0 0] 83) := ⟨_, rfl⟩
  have hs := ew_open w wd hg a n cap wd hg b n cap2
  rw [← hW0] at hs
  have hc := alike_any wd hg a n cap zs wd hg b n cap2 ys W0 (h.keep hs.lat) (h2.keep hs.lat)
  rw [ha, errv_zero rfl] at hc
  have pa := oa.pix
  have pb := ob.pix
  have hib : I < 9 := by have := bst_lt wd hg zs ys 9; omega
  have hmv := mv_bd I hib
  obtain ⟨X, hX⟩ : ∃ X, X = mvX I := ⟨_, rfl⟩
  obtain ⟨Y, hY⟩ : ∃ Y, Y = mvY I := ⟨_, rfl⟩
  have hbest : ∀ W, Lat w W → Calls Tryz.prog 84 #[picV wd hg a n cap, picV wd hg b n cap2] W fun e w' => e = .returned (.agg #[.int .i64 X, .int .i64 Y]) ∧ Lat W w' := fun W hW => by
    have := best_any wd hg a n cap zs b cap2 ys W (h.keep hW) (h2.keep hW) hn w1 w6 g1 g6 pa pb
    rw [← hI, ← hX, ← hY] at this
    exact this
  rw [← hX, ← hY] at hmv ⊢
  obtain ⟨x1, x2, y1, y2⟩ := hmv
  have hshf : ∀ W, Lat w W → Calls Tryz.prog 85 #[picV wd hg a n cap, .agg #[.int .i64 X, .int .i64 Y]] W fun e w' => ∃ va vc, e = .returned (.agg #[.int .i64 wd, .int .i64 hg, .slice va n vc]) ∧ IntsAt w' va n vc (shf wd hg zs X Y n) ∧ (∀ g, g < W.heap.size → ∀ b o, va = some ⟨b, o, none⟩ → n ≠ 0 → b ≠ g) ∧ Lat W w' := fun W hW => by
    refine (shifted_any wd hg a n cap zs X Y W (h.keep hW) hn w1 w6 g1 g6 (by omega) (by omega) (by omega) (by omega)).mono ?_
    rintro e w1 ⟨v, rfl, hown, hb1⟩
    obtain ⟨va, vc, rfl, hat⟩ := OwnInts.sliceN hown (wf_pix (shf_mem pa)) (shf_length _ _ _ _ _ _)
    exact ⟨va, vc, rfl, hat, fun g hg => own_ne hown hg, hb1⟩
  obtain ⟨SS, hSS⟩ : ∃ S, S = shf wd hg zs X Y n := ⟨_, rfl⟩
  have pS : ∀ z ∈ SS, 0 ≤ z ∧ z ≤ 255 := by rw [hSS]; exact shf_mem pa
  rw [← hSS] at hshf ⊢
  have hwf : ∀ z ∈ mrs SS ys s n, -9223372036854775808 ≤ z ∧ z ≤ 9223372036854775807 := wf_small (mrs_bd s1 pS pb n)
  have HWF := Lib.hid hwf
  have PS := Lib.hid pS
  have PB := Lib.hid pb
  have HSHF := Lib.hid hshf
  have HBEST := Lib.hid hbest
  have HC := Lib.hid hc
  have HS := Lib.hid hs
  have H2 := Lib.hid h2
  clear h h2 he hI ha ka kb oa ob hn hs hc pa pb hib hX hY hbest hshf hSS pS hwf
  go_enter Tryz.func40, Tryz.ntmps40
  go_upto_region 1 with fail
  rw [← hW0]
  clear hW0
  have p0 : W0.cell? ⟨w.heap.size, 0, none⟩ = _ := HS.out.p.c0
  have p1 : W0.cell? ⟨w.heap.size, 1, none⟩ = _ := HS.out.p.c1
  have p2 : W0.cell? ⟨w.heap.size, 2, none⟩ = _ := HS.out.p.c2
  have q0 : W0.cell? ⟨w.heap.size + 1, 0, none⟩ = _ := HS.out.q.c0
  have q1 : W0.cell? ⟨w.heap.size + 1, 1, none⟩ = _ := HS.out.q.c1
  have q2 : W0.cell? ⟨w.heap.size + 1, 2, none⟩ = _ := HS.out.q.c2
  go_wp2_with fail
  refine HC.out.mono ?_
  rintro e W1 ⟨rfl, hb1⟩
  clear p0 p1 p2 q0 q1 q2
  have HS1 := Lib.hid (HS.out.keep hb1)
  clear hb1
  go_wp2_with fail
  refine (step_any s _).mono ?_
  rw [h3]
  clear h3
  rintro e w' ⟨rfl, rfl⟩
  have p0 : W1.cell? ⟨w.heap.size, 0, none⟩ = _ := HS1.out.p.c0
  have p1 : W1.cell? ⟨w.heap.size, 1, none⟩ = _ := HS1.out.p.c1
  have p2 : W1.cell? ⟨w.heap.size, 2, none⟩ = _ := HS1.out.p.c2
  have q0 : W1.cell? ⟨w.heap.size + 1, 0, none⟩ = _ := HS1.out.q.c0
  have q1 : W1.cell? ⟨w.heap.size + 1, 1, none⟩ = _ := HS1.out.q.c1
  have q2 : W1.cell? ⟨w.heap.size + 1, 2, none⟩ = _ := HS1.out.q.c2
  go_wp2_with fail
  refine (HBEST.out _ HS1.out.lat).mono ?_
  rintro e W2 ⟨rfl, hb2⟩
  clear p0 p1 p2 q0 q1 q2
  have hs2 := HS1.out.keep hb2
  have hl2 := Lat.alloc W2 (.cells #[.bool false, .int .i64 X, .int .i64 Y, .slice none 0 0] 83)
  have HS2 := Lib.hid (hs2.keep hl2)
  have p0 : W2.cell? ⟨w.heap.size, 0, none⟩ = _ := hs2.p.c0
  have p1 : W2.cell? ⟨w.heap.size, 1, none⟩ = _ := hs2.p.c1
  have p2 : W2.cell? ⟨w.heap.size, 2, none⟩ = _ := hs2.p.c2
  have hlt : w.heap.size < W2.heap.size := World.block_lt_of_cell? _ _ p0
  have hC2 := Lib.hid (cells4_new (w := W2) (cs := #[.bool false, .int .i64 X, .int .i64 Y, .slice none 0 0]) (t := 83) rfl rfl rfl rfl rfl)
  have FC2 := Lib.hid (show ∀ k, (W2.alloc (.cells #[.bool false, .int .i64 X, .int .i64 Y, .slice none 0 0] 83)).frozen? ⟨W2.heap.size, k, none⟩ = false from fun k => free_new rfl)
  have LC2 := Lib.hid (show W2.heap.size < (W2.alloc (.cells #[.bool false, .int .i64 X, .int .i64 Y, .slice none 0 0] 83)).heap.size by simp)
  have GC0 : w.heap.size + 1 + 1 < W2.heap.size := hs2.sz
  clear hs2 hl2 hb2
  go_wp2_with fail
  refine (HSHF.out _ HS2.out.lat).mono ?_
  rintro e W3 ⟨va, vc, rfl, hat, hne, hb3⟩
  have hl4 := Lat.alloc W3 (.cells #[.int .i64 wd, .int .i64 hg, .slice va n vc] 33)
  obtain ⟨W4, hW4⟩ : ∃ W, W = W3.alloc (.cells #[.int .i64 wd, .int .i64 hg, .slice va n vc] 33) := ⟨_, rfl⟩
  rw [← hW4] at hl4
  have HS4 := Lib.hid (HS2.out.keep (Lat.trans hb3 hl4))
  have C4 := Lib.hid (hC2.out.keep (Lat.trans hb3 hl4))
  have FRC := Lib.hid ((Lat.trans hb3 hl4).free_at LC2.out (FC2.out 3))
  have SC := Lib.hid (show Cells3 W4 W3.heap.size 0 (.int .i64 wd) (.int .i64 hg) (.slice va n vc) by rw [hW4]; exact cells3_new rfl rfl rfl rfl)
  have HAT := Lib.hid (hat.keep hl4)
  have HB4 := Lib.hid (H2.out.keep (Lat.trans HS2.out.lat (Lat.trans hb3 hl4)))
  have NE := Lib.hid (hne _ LC2.out)
  have NS : W3.heap.size ≠ W2.heap.size := by have := hb3.size; have := LC2.out; omega
  have LS : W3.heap.size < W4.heap.size := World.block_lt_of_cell? _ _ SC.out.c0
  have q2 : W4.cell? ⟨w.heap.size + 1, 2, none⟩ = _ := HS4.out.q.c2
  clear p0 p1 p2 hlt hat hne hb3 hl4 hC2 FC2 LC2 HS2
  go_upto_region 8 with fail
  rw [← hW4]
  clear hW4
  go_wp2_with fail
  go_loopw [36] (fun i wr => ∃ k : Nat, k ≤ n ∧ i = .int .i64 k ∧ Hid (AccSome w.heap.size W4 wr W2.heap.size 3 (mrs SS ys s k))) (fun i _ => n - (intOf i).toNat)
  case atStart => exact ⟨0, Nat.zero_le _, rfl, _, AccInv.start (by omega) C4.out.c3⟩
  case round =>
    clear q2
    obtain ⟨k, hk, rfl, hrel⟩ := hrel
    obtain ⟨v, hI⟩ := hrel.out
    by_cases hlt : k < n
    · obtain ⟨bs, os, rfl, hcs⟩ := HAT.out.row.at_ (by omega)
      have NB : bs ≠ W2.heap.size := NE.out bs os rfl (by omega)
      obtain ⟨bb, ob, rfl, hcb⟩ := HB4.out.row.at_ (by omega)
      obtain ⟨b', o', hb', hcw⟩ := H2.out.row.at_ (by omega)
      injection hb' with hb'
      injection hb' with hb1 hb2 _
      subst hb1 hb2
      have hbw : bb < w.heap.size := World.block_lt_of_cell? _ _ (hcw k hlt)
      have c1 := hI.same _ _ (by intro e; injection e with e _ _; omega) (hcb k hlt)
      have LB : bs < W4.heap.size := World.block_lt_of_cell? _ _ (hcs k hlt)
      have hF0 := hI.same _ _ (by intro e; injection e with e _ _; exact NS e) SC.out.c2
      have hF1 := hI.same _ _ (by intro e; injection e with e _ _; exact NB e) (hcs k hlt)
      have hz := getD_pix PS.out k
      have hy := getD_pix PB.out k
      have hst := mrs_succ SS ys s k
      have hlen : (mrs SS ys s k).length ≤ 10000 := by rw [mrs_length]; omega
      obtain ⟨z, hzd⟩ : ∃ z, z = SS.getD k 0 := ⟨_, rfl⟩
      obtain ⟨y, hyd⟩ : ∃ z, z = ys.getD k 0 := ⟨_, rfl⟩
      obtain ⟨L, hL⟩ : ∃ L, L = mrs SS ys s k := ⟨_, rfl⟩
      rw [← hzd] at hF1 hz hst
      rw [← hyd] at c1 hy hst
      rw [← hL] at hI hst hlen
      obtain ⟨r, hr⟩ : ∃ r, r = near (y - z) s := ⟨_, rfl⟩
      rw [← hr] at hst
      have hnr : ∀ W, Calls Tryz.prog 82 #[.int .i64 (y - z), .int .i64 s] W fun e w' => e = .returned (.int .i64 r) ∧ w' = W := fun W => by
        rw [hr]; exact (near_any (y - z) s W (by omega) (by omega) s1 s64).mono fun _ _ ⟨x, y⟩ => ⟨x, y.symm⟩
      have HNR := Lib.hid hnr
      have HST := Lib.hid hst
      have HLEN := Lib.hid hlen
      have HI := Lib.hid hI
      have HF0 := Lib.hid hF0
      have HF1 := Lib.hid hF1
      have HG0 := Lib.hid hI.at_
      have e1 : IntKind.i64.wrap (y - z) = y - z := IntWalk.i64_in _ (by omega)
      have i1 : (0 : Int) ≤ (k : Int) := by omega
      have i2 : (k : Int) < (n : Int) := by omega
      clear hcs hcb hcw hzd hyd hL hr hnr hst hlen hI hrel hF0 hF1
      go_upto_region 11 with fail
      have hF : wr.drew.cell? ⟨W3.heap.size, 2, none⟩ = some (.slice (some ⟨bs, os, none⟩) n vc) ∧ wr.drew.cell? ⟨bs, os + k, none⟩ = some (.int .i64 z) := ⟨HF0.out, HF1.out⟩
      have hG : wr.drew.cell? ⟨W2.heap.size, 3, none⟩ = some v := HG0.out
      clear c1
      refine wp_region_gate (fun w' => w'.cell? ⟨W3.heap.size, 2, none⟩ = some (.slice (some ⟨bs, os, none⟩) n vc) ∧ w'.cell? ⟨bs, os + k, none⟩ = some (.int .i64 z)) (fun w' => w'.cell? ⟨W2.heap.size, 3, none⟩ = some v) 12 (by kernel_rfl) ?_
      refine gate_takeF (i := 0) (v := ?_) rfl (by kernel_rfl) (by kernel_rfl) (by kernel_rfl) (fun _ _ _ h => h) (by decide) ⟨hF, fun _ => hG⟩ (Or.inl ⟨by rfl, ?_⟩) ?_
      rotate_left
      · intro wq hSw; obtain ⟨s0, s1⟩ := hSw; go_simp; rfl
      simp only [Act.put]
      refine gate_takeG (i := 1) (v := ?_) rfl (by kernel_rfl) (by kernel_rfl) (by kernel_rfl) (fun _ _ _ h => h) (by decide) (by kernel_rfl) (by kernel_rfl) ⟨hF, fun _ => hG⟩ (Or.inl ⟨by rfl, ?_⟩) ?_
      rotate_left
      · intro wq hSw; obtain ⟨⟨s0, s1⟩, s2⟩ := hSw; go_simp; rfl
      simp only [Act.put]
      refine gate_takeF (i := 2) (v := ?_) rfl (by kernel_rfl) (by kernel_rfl) (by kernel_rfl) (fun _ _ _ h => h) (by decide) ⟨hF, fun _ => hG⟩ (Or.inl ⟨by rfl, ?_⟩) ?_
      rotate_left
      · intro wq hSw; obtain ⟨s0, s1⟩ := hSw; go_simp; rfl
      simp only [Act.put]
      refine gate_takeF (i := 3) (v := ?_) rfl (by kernel_rfl) (by kernel_rfl) (by kernel_rfl) (fun _ _ _ h => h) (by decide) ⟨hF, fun _ => hG⟩ (Or.inl ⟨by rfl, ?_⟩) ?_
      rotate_left
      · intro wq hSw; obtain ⟨s0, s1⟩ := hSw; go_simp; rfl
      simp only [Act.put]
      refine gate_takeF (i := 4) (v := ?_) rfl (by kernel_rfl) (by kernel_rfl) (by kernel_rfl) (fun _ _ _ h => h) (by decide) ⟨hF, fun _ => hG⟩ (Or.inl ⟨by rfl, ?_⟩) ?_
      rotate_left
      · intro wq hSw; obtain ⟨s0, s1⟩ := hSw; go_simp; rfl
      simp only [Act.put]
      refine gate_takeF (i := 5) (v := ?_) rfl (by kernel_rfl) (by kernel_rfl) (by kernel_rfl) (fun _ _ _ h => h) (by decide) ⟨hF, fun _ => hG⟩ (Or.inl ⟨by rfl, ?_⟩) ?_
      rotate_left
      · intro wq hSw; obtain ⟨s0, s1⟩ := hSw; go_simp; rfl
      simp only [Act.put]
      refine gate_takeF (i := 6) (v := ?_) rfl (by kernel_rfl) (by kernel_rfl) (by kernel_rfl) (fun _ _ _ h => h) (by decide) ⟨hF, fun _ => hG⟩ (Or.inl ⟨by rfl, ?_⟩) ?_
      rotate_left
      · intro wq hSw; obtain ⟨s0, s1⟩ := hSw; go_simp; rfl
      simp only [Act.put]
      refine gate_takeF (i := 7) (v := ?_) rfl (by kernel_rfl) (by kernel_rfl) (by kernel_rfl) (fun _ _ _ h => h) (by decide) ⟨hF, fun _ => hG⟩ (Or.inl ⟨by rfl, ?_⟩) ?_
      rotate_left
      · intro wq hSw; obtain ⟨s0, s1⟩ := hSw; go_simp; rfl
      simp only [Act.put]
      refine gate_takeF (i := 8) (v := ?_) rfl (by kernel_rfl) (by kernel_rfl) (by kernel_rfl) (fun _ _ _ h => h) (by decide) ⟨hF, fun _ => hG⟩ (Or.inl ⟨by rfl, ?_⟩) ?_
      rotate_left
      · intro wq hSw; obtain ⟨s0, s1⟩ := hSw; go_simp; rfl
      simp only [Act.put]
      refine gate_takeF (i := 9) (v := ?_) rfl (by kernel_rfl) (by kernel_rfl) (by kernel_rfl) (fun _ _ _ h => h) (by decide) ⟨hF, fun _ => hG⟩ (Or.inl ⟨by rfl, ?_⟩) ?_
      rotate_left
      · intro wq hSw; obtain ⟨s0, s1⟩ := hSw; go_simp; rfl
      simp only [Act.put]
      refine gate_one (i := 10) (by kernel_rfl) rfl (fun K hK => ?_)
      go_simp
      refine (HNR.out _).mono ?_
      rintro e w' ⟨rfl, rfl⟩
      refine hK _ _ ⟨hF, fun _ => hG⟩ ?_
      clear hK K
      refine gate_one (i := 11) (by kernel_rfl) rfl (fun K hK => ?_)
      go_simp
      refine hK _ _ ⟨⟨(Lat.alloc _ _).cell_at hF.1, (Lat.alloc _ _).cell_at hF.2⟩, fun _ => (Lat.alloc _ _).cell_at hG⟩ ?_
      clear hK K
      refine gate_one (i := 12) (by kernel_rfl) rfl (fun K hK => ?_)
      obtain ⟨i0, hi0, hz0, hz1, hz2⟩ := info_int_parts
      have hsl : L.length ≤ 10000 := HLEN.out
      have hszd := HI.out.size
      refine step_append_lies (wr.drew.alloc (.cells #[.int .i64 r] 3)) rfl (.tmp 42) (.tmp 52) 23 rfl W4.heap.size 3 i0 (.int .i64 0) 1 8 Tryz.underlying23 hi0 hz0 hz1 hz2 rfl (by decide) v L.length (L.map (Value.int .i64)) rfl
        (by have := Own.alloc (Own.drew HI.out.own) (.cells #[.int .i64 r] 3); unfold Own at this; rwa [List.length_map] at this) ⟨wr.heap.size, 0, none⟩ 1 1 [.int .i64 r] rfl rfl ?_ ?_ (by decide) ?_ ?_ ?_ _ rfl ?_
      · intro q u' hq
        match q, hq with
        | 0, hq =>
          simp at hq; subst hq
          rw [Addr.add_lit]; exact cell_new (by simp) rfl
      · intro u' hu'; simp at hu'; subst hu'; rfl
      · unfold maxLen; omega
      · omega
      · simp; omega
      intro g c w1' hown hgrow hat hlt'
      have HI2 := HI.out.drewN 1
      have hstep := HI2.step (o := .cells #[.int .i64 r] 3) hgrow hown
      have cc : ∀ (b' i' : Nat) (x : Value), b' < W4.heap.size → wr.drew.cell? ⟨b', i', none⟩ = some x → w1'.cell? ⟨b', i', none⟩ = some x := fun b' i' x hb hx => grown_cell hgrow ((Lat.alloc _ _).cell_at hx) (Own.not HI2.own hb)
      have so : ∀ (b' i' : Nat) (x : Value), b' ≠ W2.heap.size → w1'.cell? ⟨b', i', none⟩ = some x → (w1'.setCell ⟨W2.heap.size, 3, none⟩ (.slice (some ⟨g, 0, none⟩) (L.length + 1) c)).cell? ⟨b', i', none⟩ = some x := fun b' i' x hb hx => by
        rw [World.cell?_setCell_other _ _ _ _ (by intro e; injection e with e1 e2 _; exact hb e1.symm)]; exact hx
      have hcC := cc _ _ _ HI2.hi hG
      have hfC : w1'.frozen? ⟨W2.heap.size, 3, none⟩ = false := grown_free hgrow (Nat.lt_of_lt_of_le HI2.hi (Nat.le_trans HI2.size (Lat.alloc _ _).size)) ((Lat.alloc _ _).free_at (Nat.lt_of_lt_of_le HI2.hi HI2.size) (HI2.free _ HI2.hi FRC.out)) (Own.not HI2.own HI2.hi)
      have f0 := cc _ _ _ LS hF.1
      have f1 := cc _ _ _ LB hF.2
      refine hK _ _ (FG.past (by kernel_rfl) ⟨f0, f1⟩) ?_
      clear hK K
      refine gate_takeF (i := 13) (v := ?_) rfl (by kernel_rfl) (by kernel_rfl) (by kernel_rfl) (fun _ _ _ h => h) (by decide) (FG.past (by kernel_rfl) ⟨f0, f1⟩) (Or.inl ⟨by rfl, ?_⟩) ?_
      rotate_left
      · intro wq hSw; go_simp; rfl
      simp only [Act.put]
      refine gate_one (i := 14) (by kernel_rfl) rfl (fun K hK => ?_)
      have HH := Lib.hid hstep
      clear hstep
      go_simp
      refine hK _ _ (FG.past (by kernel_rfl) ⟨so _ _ _ NS f0, so _ _ _ NB f1⟩) ?_
      clear hK K
      refine gate_done (by kernel_rfl) ?_ _
      clear hF hG cc so hcC hfC f0 f1 hgrow hown HI2 hsl
      go_wp2
      go_roundw
      case rel =>
        refine ⟨k + 1, by omega, by go_num, ?_⟩
        show AccSome _ _ _ _ _ (mrs SS ys s (k + 1))
        rw [HST.out]; exact ⟨_, HH.out⟩
      case measure => simp [intOf]; omega
    · obtain rfl : k = n := by omega
      have hEW := HS4.out
      have hne2 := fun (i : Nat) => hI.same ⟨w.heap.size + 1 + 1, i, none⟩
      have r0 := hne2 0 _ (by intro e; injection e with e _ _; omega) hEW.r.c0
      have r1 := hne2 1 _ (by intro e; injection e with e _ _; omega) hEW.r.c1
      have r2 := hne2 2 _ (by intro e; injection e with e _ _; omega) hEW.r.c2
      have r3 := hne2 3 _ (by intro e; injection e with e _ _; omega) hEW.r.c3
      have f0 := hI.free ⟨w.heap.size + 1 + 1, 0, none⟩ hEW.sz (hEW.f 0 (by omega))
      have f1 := hI.free ⟨w.heap.size + 1 + 1, 1, none⟩ hEW.sz (hEW.f 1 (by omega))
      have f2 := hI.free ⟨w.heap.size + 1 + 1, 2, none⟩ hEW.sz (hEW.f 2 (by omega))
      have f3 := hI.free ⟨w.heap.size + 1 + 1, 3, none⟩ hEW.sz (hEW.f 3 (by omega))
      obtain ⟨ra, rc, rfl, hrat⟩ := OwnInts.sliceN hI.own HWF.out (mrs_length _ _ _ _)
      have c0 := hI.same ⟨W2.heap.size, 0, none⟩ _ (by simp) C4.out.c0
      have c1 := hI.same ⟨W2.heap.size, 1, none⟩ _ (by simp) C4.out.c1
      have c2 := hI.same ⟨W2.heap.size, 2, none⟩ _ (by simp) C4.out.c2
      have c3 := hI.at_
      have Q := four_set ⟨r0, r1, r2, r3⟩ (.bool false) (.int .i64 X) (.int .i64 Y) (.slice ra k rc)
      have hlat := lat_four (hI.lat hEW.lat) (show w.heap.size ≤ w.heap.size + 1 + 1 by omega) (.bool false) (.int .i64 X) (.int .i64 Y) (.slice ra k rc)
      have hii := ints_four (g := w.heap.size + 1 + 1) hrat (own_ne hI.own (show w.heap.size + 1 + 1 < W4.heap.size from hEW.sz)) (.bool false) (.int .i64 X) (.int .i64 Y) (.slice ra k rc)
      unfold four at Q hlat hii
      have HL := Lib.hid hlat
      have HII := Lib.hid hii
      have Q := Lib.hid Q
      have FR := Lib.hid (Fresh.of hI.own hEW.lat.size)
      clear hrel hI hEW hne2 hrat hlat hii
      go_wp2
      exact bodyPost_ret (v := .tuple #[codV false X Y ra k rc, .nilIface]) (by simp [results, Tryz.results40, go_sem, Q.out.c0, Q.out.c1, Q.out.c2, Q.out.c3]) rfl ⟨ra, rc, rfl, HII.out, FR.out, HL.out⟩
end Go.Proofs.YtheimfdbadjpoaaGreatDoor

namespace Go.Proofs.YtheimfdbadjpoaaGreatDoor
open Go.ChangeShapes Go.WideShapes Go.ChangeAt Go.RowKit

def oneB (x y : Int) : Bool := decide (-1 ≤ x ∧ x ≤ 1 ∧ -1 ≤ y ∧ y ≤ 1)
def behE (wd hg : Int) (zs : List Int) (al : Bool) (x y : Int) (rs : List Int) (s : Int) : Nat :=
  if chkPic wd hg zs ≠ 0 then chkPic wd hg zs else if stepB s = false then 1 else if al = true then 3 else if oneB x y = false then 1 else rstE rs zs.length
theorem behE_zero {wd hg : Int} {zs : List Int} {al : Bool} {x y : Int} {rs : List Int} {s : Int} (h : behE wd hg zs al x y rs s = 0) :
    chkPic wd hg zs = 0 ∧ 1 ≤ s ∧ s ≤ 64 ∧ al = false ∧ (-1 ≤ x ∧ x ≤ 1 ∧ -1 ≤ y ∧ y ≤ 1) ∧ rstE rs zs.length = 0 := by
  unfold behE at h
  split at h
  · omega
  · rename_i h1
    split at h
    · omega
    · rename_i h2
      split at h
      · omega
      · rename_i h3
        split at h
        · omega
        · rename_i h4
          have a2 : stepB s = true := by cases hq : stepB s <;> simp_all
          have a3 : al = false := by cases hq : al <;> simp_all
          have a4 : oneB x y = true := by cases hq : oneB x y <;> simp_all
          simp only [stepB, oneB, decide_eq_true_eq] at a2 a4
          exact ⟨by omega, a2.1, a2.2, a3, a4, h⟩
theorem behE_of {wd hg : Int} {zs : List Int} {x y : Int} {rs : List Int} {s : Int} (h : chkPic wd hg zs = 0) (h1 : 1 ≤ s) (h2 : s ≤ 64) (h3 : -1 ≤ x ∧ x ≤ 1 ∧ -1 ≤ y ∧ y ≤ 1) (h4 : rstE rs zs.length = 0) : behE wd hg zs false x y rs s = 0 := by
  unfold behE
  rw [if_neg (by omega), if_neg (by simp [stepB, h1, h2]), if_neg (by simp), if_neg (by simp [oneB, h3]), h4]
structure DW (w W : World) (wd hg : Int) (a : Option Addr) (n cap : Nat) (al : Bool) (x y : Int) (b : Option Addr) (m cap2 : Nat) : Prop where
  lat : Lat w W
  p : Cells3 W w.heap.size 0 (.int .i64 wd) (.int .i64 hg) (.slice a n cap)
  q : Cells4 W (w.heap.size + 1) (.bool al) (.int .i64 x) (.int .i64 y) (.slice b m cap2)
  r : Cells3 W (w.heap.size + 1 + 1) 0 (.int .i64 0) (.int .i64 0) (.slice none 0 0)
  f : ∀ k, k < 3 → W.frozen? ⟨w.heap.size + 1 + 1, k, none⟩ = false
  sz : w.heap.size + 1 + 1 < W.heap.size
theorem DW.keep {w W W' : World} {wd hg : Int} {a : Option Addr} {n cap : Nat} {al : Bool} {x y : Int} {b : Option Addr} {m cap2 : Nat} (h : DW w W wd hg a n cap al x y b m cap2) (hb : Lat W W') : DW w W' wd hg a n cap al x y b m cap2 :=
  ⟨Lat.trans h.lat hb, h.p.keep hb, h.q.keep hb, h.r.keep hb, fun k hk => hb.free_at h.sz (h.f k hk), Nat.lt_of_lt_of_le h.sz hb.size⟩
theorem dw_open (w : World) (wd hg : Int) (a : Option Addr) (n cap : Nat) (al : Bool) (x y : Int) (b : Option Addr) (m cap2 : Nat) :
    DW w (((w.alloc (.cells #[.int .i64 wd, .int .i64 hg, .slice a n cap] 33)).alloc (.cells #[.bool al, .int .i64 x, .int .i64 y, .slice b m cap2] 83)).alloc (.cells #[.int .i64 0, .int .i64 0, .slice none 0 0] 33)) wd hg a n cap al x y b m cap2 := by
  have l3 := Lat.alloc ((w.alloc (.cells #[.int .i64 wd, .int .i64 hg, .slice a n cap] 33)).alloc (.cells #[.bool al, .int .i64 x, .int .i64 y, .slice b m cap2] 83)) (.cells #[.int .i64 0, .int .i64 0, .slice none 0 0] 33)
  have l2 := Lat.alloc (w.alloc (.cells #[.int .i64 wd, .int .i64 hg, .slice a n cap] 33)) (.cells #[.bool al, .int .i64 x, .int .i64 y, .slice b m cap2] 83)
  have l1 := Lat.alloc w (.cells #[.int .i64 wd, .int .i64 hg, .slice a n cap] 33)
  exact ⟨Lat.trans l1 (Lat.trans l2 l3), (cells3_new rfl rfl rfl rfl).keep (Lat.trans l2 l3), (cells4_new (by simp) rfl rfl rfl rfl).keep l3, cells3_new (by simp) rfl rfl rfl, fun k _ => free_new (by simp), by simp⟩

set_option maxHeartbeats 4000000 in
set_option maxRecDepth 100000 in
theorem mdecode_bad (wd hg : Int) (a : Option Addr) (n cap : Nat) (zs : List Int) (al : Bool) (x y : Int) (b : Option Addr) (m cap2 : Nat) (rs : List Int) (s : Int) (w : World) (h : IntsAt w a n cap zs) (h2 : IntsAt w b m cap2 rs) (he : behE wd hg zs al x y rs s ≠ 0) :
    Calls Tryz.prog 86 #[picV wd hg a n cap, codV al x y b m cap2, .int .i64 s] w fun e w' => e = .returned (.tuple #[picV 0 0 none 0 0, eno (behE wd hg zs al x y rs s)]) ∧ Lat w w' := by
  obtain ⟨W0, hW0⟩ : ∃ W, W = ((w.alloc (.cells #[.int .i64 wd, .int .i64 hg, .slice a n cap] 33)).alloc (.cells #[.bool al, .int .i64 x, .int .i64 y, .slice b m cap2] 83)).alloc (.cells #[.int .i64 0, .int .i64 0, .slice none 0 0] 33) := ⟨_, rfl⟩
  have hs := dw_open w wd hg a n cap al x y b m cap2
  rw [← hW0] at hs
  have hc := pchk_any wd hg a n cap zs W0 (h.keep hs.lat)
  obtain ⟨E, hE⟩ : ∃ E, E = behE wd hg zs al x y rs s := ⟨_, rfl⟩
  rw [← hE] at he ⊢
  have HS := Lib.hid hs
  have hlz := h.len
  have H2 := Lib.hid h2
  by_cases h1 : chkPic wd hg zs = 0
  case neg =>
    have e1 : E = chkPic wd hg zs := by rw [hE]; unfold behE; rw [if_pos h1]
    rw [← e1, errv_pos he] at hc
    have HC := Lib.hid hc
    clear hc h h2 he h1 e1 hE hs hlz
    go_enter Tryz.func86, Tryz.ntmps86
    go_upto_region 1 with fail
    rw [← hW0]
    clear hW0
    have p0 : W0.cell? ⟨w.heap.size, 0, none⟩ = _ := HS.out.p.c0
    have p1 : W0.cell? ⟨w.heap.size, 1, none⟩ = _ := HS.out.p.c1
    have p2 : W0.cell? ⟨w.heap.size, 2, none⟩ = _ := HS.out.p.c2
    go_wp2_with fail
    refine HC.out.mono ?_
    rintro e w1 ⟨rfl, hb1⟩
    have hs1 := HS.out.keep hb1
    clear p0 p1 p2 hb1
    have r0 := hs1.r.c0
    have r1 := hs1.r.c1
    have r2 := hs1.r.c2
    have f0 := hs1.f 0 (by omega)
    have f1 := hs1.f 1 (by omega)
    have f2 := hs1.f 2 (by omega)
    have Q := Lib.hid (three_set r0 r1 r2 (.int .i64 0) (.int .i64 0) (.slice none 0 0))
    have HL := Lib.hid (lat_three hs1.lat (show w.heap.size ≤ w.heap.size + 1 + 1 by omega) (.int .i64 0) (.int .i64 0) (.slice none 0 0))
    clear hs1
    go_wp2
    exact bodyPost_ret (v := .tuple #[picV 0 0 none 0 0, eno E]) (by simp [results, Tryz.results86, go_sem, Q.out.1, Q.out.2.1, Q.out.2.2]) rfl ⟨rfl, HL.out⟩
  rw [h1, errv_zero rfl] at hc
  have HC := Lib.hid hc
  cases h3 : stepB s with
  | false =>
    have e1 : E = 1 := by rw [hE]; unfold behE; rw [if_neg (by omega), if_pos h3]
    rw [e1]
    clear hc h h2 he h1 e1 hE hs hlz
    go_enter Tryz.func86, Tryz.ntmps86
    go_upto_region 1 with fail
    rw [← hW0]
    clear hW0
    have p0 : W0.cell? ⟨w.heap.size, 0, none⟩ = _ := HS.out.p.c0
    have p1 : W0.cell? ⟨w.heap.size, 1, none⟩ = _ := HS.out.p.c1
    have p2 : W0.cell? ⟨w.heap.size, 2, none⟩ = _ := HS.out.p.c2
    go_wp2_with fail
    refine HC.out.mono ?_
    rintro e w1 ⟨rfl, hb1⟩
    have hs1 := HS.out.keep hb1
    clear p0 p1 p2 hb1
    go_wp2_with fail
    refine (step_any s _).mono ?_
    rw [h3]
    clear h3
    rintro e w' ⟨rfl, rfl⟩
    have r0 := hs1.r.c0
    have r1 := hs1.r.c1
    have r2 := hs1.r.c2
    have f0 := hs1.f 0 (by omega)
    have f1 := hs1.f 1 (by omega)
    have f2 := hs1.f 2 (by omega)
    have Q := Lib.hid (three_set r0 r1 r2 (.int .i64 0) (.int .i64 0) (.slice none 0 0))
    have HL := Lib.hid (lat_three hs1.lat (show w.heap.size ≤ w.heap.size + 1 + 1 by omega) (.int .i64 0) (.int .i64 0) (.slice none 0 0))
    clear hs1
    go_wp2
    exact bodyPost_ret (v := .tuple #[picV 0 0 none 0 0, eno 1]) (by simp [results, Tryz.results86, go_sem, Q.out.1, Q.out.2.1, Q.out.2.2]) rfl ⟨rfl, HL.out⟩
  | true =>
  cases h4 : al with
  | true =>
    have e1 : E = 3 := by rw [hE]; unfold behE; rw [if_neg (by omega), if_neg (by simp [h3]), if_pos h4]
    rw [e1]
    subst h4
    clear hc h h2 he h1 e1 hE hs hlz
    go_enter Tryz.func86, Tryz.ntmps86
    go_upto_region 1 with fail
    rw [← hW0]
    clear hW0
    have p0 : W0.cell? ⟨w.heap.size, 0, none⟩ = _ := HS.out.p.c0
    have p1 : W0.cell? ⟨w.heap.size, 1, none⟩ = _ := HS.out.p.c1
    have p2 : W0.cell? ⟨w.heap.size, 2, none⟩ = _ := HS.out.p.c2
    go_wp2_with fail
    refine HC.out.mono ?_
    rintro e w1 ⟨rfl, hb1⟩
    have hs1 := HS.out.keep hb1
    clear p0 p1 p2 hb1
    go_wp2_with fail
    refine (step_any s _).mono ?_
    rw [h3]
    clear h3
    rintro e w' ⟨rfl, rfl⟩
    have q0 := hs1.q.c0
    have r0 := hs1.r.c0
    have r1 := hs1.r.c1
    have r2 := hs1.r.c2
    have f0 := hs1.f 0 (by omega)
    have f1 := hs1.f 1 (by omega)
    have f2 := hs1.f 2 (by omega)
    have Q := Lib.hid (three_set r0 r1 r2 (.int .i64 0) (.int .i64 0) (.slice none 0 0))
    have HL := Lib.hid (lat_three hs1.lat (show w.heap.size ≤ w.heap.size + 1 + 1 by omega) (.int .i64 0) (.int .i64 0) (.slice none 0 0))
    clear hs1
    go_wp2
    exact bodyPost_ret (v := .tuple #[picV 0 0 none 0 0, eno 3]) (by simp [results, Tryz.results86, go_sem, Q.out.1, Q.out.2.1, Q.out.2.2]) rfl ⟨rfl, HL.out⟩
  | false =>
  subst h4
  cases h5 : oneB x y with
  | false =>
    have e1 : E = 1 := by rw [hE]; unfold behE; rw [if_neg (by omega), if_neg (by simp [h3]), if_neg (by simp), if_pos h5]
    rw [e1]
    have hd : (decide (x < -1) = true) ∨ (decide (x < -1) = false ∧ decide (1 < x) = true) ∨ (decide (x < -1) = false ∧ decide (1 < x) = false ∧ decide (y < -1) = true) ∨ (decide (x < -1) = false ∧ decide (1 < x) = false ∧ decide (y < -1) = false ∧ decide (1 < y) = true) := by
      simp only [oneB, decide_eq_false_iff_not] at h5
      simp only [decide_eq_true_eq, decide_eq_false_iff_not]
      omega
    clear hc h h2 he h1 e1 hE hs hlz h5
    rcases hd with d1 | ⟨d1, d2⟩ | ⟨d1, d2, d3⟩ | ⟨d1, d2, d3, d4⟩
    all_goals
      go_enter Tryz.func86, Tryz.ntmps86
      go_upto_region 1 with fail
      rw [← hW0]
      clear hW0
      have p0 : W0.cell? ⟨w.heap.size, 0, none⟩ = _ := HS.out.p.c0
      have p1 : W0.cell? ⟨w.heap.size, 1, none⟩ = _ := HS.out.p.c1
      have p2 : W0.cell? ⟨w.heap.size, 2, none⟩ = _ := HS.out.p.c2
      go_wp2_with fail
      refine HC.out.mono ?_
      rintro e w1 ⟨rfl, hb1⟩
      have hs1 := HS.out.keep hb1
      clear p0 p1 p2 hb1
      go_wp2_with fail
      refine (step_any s _).mono ?_
      rw [h3]
      clear h3
      rintro e w' ⟨rfl, rfl⟩
      have q0 := hs1.q.c0
      have q1 := hs1.q.c1
      have q2 := hs1.q.c2
      have r0 := hs1.r.c0
      have r1 := hs1.r.c1
      have r2 := hs1.r.c2
      have f0 := hs1.f 0 (by omega)
      have f1 := hs1.f 1 (by omega)
      have f2 := hs1.f 2 (by omega)
      have Q := Lib.hid (three_set r0 r1 r2 (.int .i64 0) (.int .i64 0) (.slice none 0 0))
      have HL := Lib.hid (lat_three hs1.lat (show w.heap.size ≤ w.heap.size + 1 + 1 by omega) (.int .i64 0) (.int .i64 0) (.slice none 0 0))
      clear hs1
      go_wp2
      exact bodyPost_ret (v := .tuple #[picV 0 0 none 0 0, eno 1]) (by simp [results, Tryz.results86, go_sem, Q.out.1, Q.out.2.1, Q.out.2.2]) rfl ⟨rfl, HL.out⟩
  | true =>
  have e1 : E = rstE rs n := by rw [hE]; unfold behE; rw [if_neg (by omega), if_neg (by simp [h3]), if_neg (by simp), if_neg (by simp [h5]), hlz]
  have hrc := fun W hW => rests_any b m cap2 rs (n : Int) W (H2.out.keep hW)
  rw [← e1, errv_pos he] at hrc
  have HRC := Lib.hid hrc
  simp only [oneB, decide_eq_true_eq] at h5
  obtain ⟨x1, x2, y1, y2⟩ := h5
  clear hc h h2 he h1 e1 hE hs hlz hrc
  go_enter Tryz.func86, Tryz.ntmps86
  go_upto_region 1 with fail
  rw [← hW0]
  clear hW0
  have p0 : W0.cell? ⟨w.heap.size, 0, none⟩ = _ := HS.out.p.c0
  have p1 : W0.cell? ⟨w.heap.size, 1, none⟩ = _ := HS.out.p.c1
  have p2 : W0.cell? ⟨w.heap.size, 2, none⟩ = _ := HS.out.p.c2
  go_wp2_with fail
  refine HC.out.mono ?_
  rintro e w1 ⟨rfl, hb1⟩
  have hs1 := HS.out.keep hb1
  clear p0 p1 p2 hb1
  go_wp2_with fail
  refine (step_any s _).mono ?_
  rw [h3]
  clear h3
  rintro e w' ⟨rfl, rfl⟩
  have q0 := hs1.q.c0
  have q1 := hs1.q.c1
  have q2 := hs1.q.c2
  have q3 := hs1.q.c3
  have p2 := hs1.p.c2
  go_wp2_with fail
  refine (HRC.out _ hs1.lat).mono ?_
  rintro e w' ⟨rfl, rfl⟩
  have r0 := hs1.r.c0
  have r1 := hs1.r.c1
  have r2 := hs1.r.c2
  have f0 := hs1.f 0 (by omega)
  have f1 := hs1.f 1 (by omega)
  have f2 := hs1.f 2 (by omega)
  have Q := Lib.hid (three_set r0 r1 r2 (.int .i64 0) (.int .i64 0) (.slice none 0 0))
  have HL := Lib.hid (lat_three hs1.lat (show w.heap.size ≤ w.heap.size + 1 + 1 by omega) (.int .i64 0) (.int .i64 0) (.slice none 0 0))
  clear hs1
  go_wp2
  exact bodyPost_ret (v := .tuple #[picV 0 0 none 0 0, eno E]) (by simp [results, Tryz.results86, go_sem, Q.out.1, Q.out.2.1, Q.out.2.2]) rfl ⟨rfl, HL.out⟩

theorem blk_of_own {w : World} {B n : Nat} {v : Value} {L : List Int} (h : OwnInts w B v L) (hl : L.length = n) (hn : 0 < n) : ∃ g c, v = .slice (some ⟨g, 0, none⟩) n c ∧ n ≤ c ∧ c ≤ maxLen ∧ B ≤ g ∧ Blk w g n (fun j => .int .i64 (L.getD j 0)) := by
  have h0 := h
  obtain ⟨_, h2⟩ := h
  rw [List.length_map, hl] at h2
  rcases h2 with ⟨rfl, hz⟩ | ⟨g, cap, cur, rfl, hg, hh, hc1, hc2, hs, ht⟩
  · omega
  · refine ⟨g, cap, rfl, hc1, hc2, hg, (Array.getElem?_eq_some_iff.1 hh).1, fun j hj => ?_, fun j hj => ?_⟩
    · have := World.ownsRow.cells h0 (g := g) rfl j (.int .i64 (L.getD j 0)) (by
        rw [List.getElem?_map, List.getD_eq_getElem?_getD, List.getElem?_eq_getElem (by omega)]; rfl)
      rw [Addr.add_lit, Nat.zero_add] at this
      exact this
    · simp [World.frozen?, hh]
structure DInv (w W4 wr : World) (g n : Nat) (L : List Int) : Prop where
  lat : Lat w wr
  same : ∀ p x, p.block ≠ g → W4.cell? p = some x → wr.cell? p = some x
  free : ∀ p, W4.frozen? p = false → wr.frozen? p = false
  blk : Blk wr g n (fun j => .int .i64 (L.getD j 0))
  lo : w.heap.size ≤ g
theorem DInv.set {w W4 wr : World} {g n : Nat} {L : List Int} {k : Nat} {x : Int} {M : List Int} (h : DInv w W4 wr g n L) (hk : k < n) (hM : ∀ j, j < n → M.getD j 0 = if j = k then x else L.getD j 0) : DInv w W4 (wr.setCell ⟨g, k, none⟩ (.int .i64 x)) g n M :=
  ⟨Below.setCell h.lat h.lo _, fun p y hp hy => by
    rw [World.cell?_setCell_other _ _ _ _ (fun e => hp (by rw [← e]))]; exact h.same p y hp hy, fun p hp => by rw [World.frozen?_setCell]; exact h.free p hp,
    (h.blk.set hk (.int .i64 x)).congr fun j hj => by rw [hM j hj]; split <;> rfl, h.lo⟩
theorem DInv.drew {w W4 wr : World} {g n : Nat} {L : List Int} (h : DInv w W4 wr g n L) : DInv w W4 wr.drew g n L :=
  ⟨Lat.trans h.lat (Lat.drew _), h.same, h.free, ⟨h.blk.lt, h.blk.cell, h.blk.free⟩, h.lo⟩
theorem mtl_step (ss rs : List Int) (s : Int) (k : Nat) (hk : k < ss.length) : ∀ j, j < ss.length → (mtl ss rs s (k + 1)).getD j 0 = if j = k then clamp (ss.getD k 0 + rs.getD k 0 * s) else (mtl ss rs s k).getD j 0 := by
  intro j hj
  rw [mtl_getD _ _ _ _ _ hj, mtl_getD _ _ _ _ _ hj]
  by_cases e : j = k
  · subst e; rw [if_pos (by omega), if_pos rfl]
  · by_cases e2 : j < k
    · rw [if_pos (by omega), if_neg e, if_pos e2]
    · rw [if_neg (by omega), if_neg e, if_neg e2]

set_option maxHeartbeats 8000000 in
set_option maxRecDepth 100000 in
theorem mdecode_ok (wd hg : Nat) (a : Option Addr) (n cap : Nat) (zs : List Int) (x y : Int) (b : Option Addr) (m cap2 : Nat) (rs : List Int) (s : Int) (w : World) (h : IntsAt w a n cap zs) (h2 : IntsAt w b m cap2 rs) (he : behE wd hg zs false x y rs s = 0) :
    Calls Tryz.prog 86 #[picV wd hg a n cap, codV false x y b m cap2, .int .i64 s] w fun e w' => ∃ c cc, e = .returned (.tuple #[picV wd hg c n cc, .nilIface]) ∧ IntsAt w' c n cc (mtl (shf wd hg zs x y n) rs s n) ∧ Fresh w c n ∧ Lat w w' := by
  obtain ⟨hk, s1, s64, _, ⟨x1, x2, y1, y2⟩, hre⟩ := behE_zero he
  have oa := chkPic_ok hk
  have hlz := h.len
  rw [hlz] at hre
  have hn : wd * hg = n := by
    have := oa.len
    rw [h.len, ← Int.natCast_mul] at this
    omega
  have w1 : 1 ≤ wd := by have := oa.w1; omega
  have w6 : wd ≤ 6 := by have := oa.w6; omega
  have g1 : 1 ≤ hg := by have := oa.h1; omega
  have g6 : hg ≤ 6 := by have := oa.h6; omega
  have hn36 : n ≤ 36 := by rw [← hn]; exact Nat.mul_le_mul w6 g6
  have hn1 : 0 < n := by rw [← hn]; exact Nat.mul_pos w1 g1
  obtain ⟨hml, hrs⟩ := rstE_zero hre
  have hmn : m = n := by have := h2.len; omega
  subst hmn
  have h3 : stepB s = true := by simp [stepB, s1, s64]
  obtain ⟨W0, hW0⟩ : ∃ W, W = ((w.alloc (.cells #[.int .i64 wd, .int .i64 hg, .slice a m cap] 33)).alloc (.cells #[.bool false, .int .i64 x, .int .i64 y, .slice b m cap2] 83)).alloc (.cells #[.int .i64 0, .int .i64 0, .slice none 0 0] 33) := ⟨_, rfl⟩
  have hs := dw_open w wd hg a m cap false x y b m cap2
  rw [← hW0] at hs
  have hc := pchk_any wd hg a m cap zs W0 (h.keep hs.lat)
  rw [hk, errv_zero rfl] at hc
  have hrc : ∀ W, Lat w W → Calls Tryz.prog 125 #[.slice b m cap2, .int .i64 m] W fun e w' => e = .returned .nilIface ∧ W = w' := fun W hW => by
    have := rests_any b m cap2 rs (m : Int) W (h2.keep hW)
    rw [hre, errv_zero rfl] at this
    exact this
  have hshf : ∀ W, Lat w W → Calls Tryz.prog 85 #[picV wd hg a m cap, .agg #[.int .i64 x, .int .i64 y]] W fun e w' => ∃ gv vc, e = .returned (.agg #[.int .i64 wd, .int .i64 hg, .slice (some ⟨gv, 0, none⟩) m vc]) ∧ m ≤ vc ∧ vc ≤ maxLen ∧ W.heap.size ≤ gv ∧
      Blk w' gv m (fun j => .int .i64 ((shf wd hg zs x y m).getD j 0)) ∧ Lat W w' := fun W hW => by
    refine (shifted_any wd hg a m cap zs x y W (h.keep hW) hn w1 w6 g1 g6 (by omega) (by omega) (by omega) (by omega)).mono ?_
    rintro e w1 ⟨v, rfl, hown, hb1⟩
    obtain ⟨gv, vc, rfl, hv1, hv2, hgv, hblk⟩ := blk_of_own hown (shf_length _ _ _ _ _ _) hn1
    exact ⟨gv, vc, rfl, hv1, hv2, hgv, hblk, hb1⟩
  obtain ⟨SS, hSS⟩ : ∃ S, S = shf wd hg zs x y m := ⟨_, rfl⟩
  have pS : ∀ z ∈ SS, 0 ≤ z ∧ z ≤ 255 := by rw [hSS]; exact shf_mem oa.pix
  have lS : SS.length = m := by rw [hSS]; exact shf_length _ _ _ _ _ _
  rw [← hSS] at hshf ⊢
  have LSS := Lib.hid lS
  have HWF := Lib.hid (wf_pix (mtl_pix (ss := SS) (rs := rs) (s := s) (k := m) pS))
  have PS := Lib.hid pS
  have HRS := Lib.hid hrs
  have HSHF := Lib.hid hshf
  have HRC := Lib.hid hrc
  have HC := Lib.hid hc
  have HS := Lib.hid hs
  have H2 := Lib.hid h2
  have d1 : decide (x < -1) = false := decide_eq_false (by omega)
  have d2 : decide (1 < x) = false := decide_eq_false (by omega)
  have d3 : decide (y < -1) = false := decide_eq_false (by omega)
  have d4 : decide (1 < y) = false := decide_eq_false (by omega)
  clear h h2 he hk oa hlz hre hn hml hrs hs hc hrc hshf hSS pS lS
  go_enter Tryz.func86, Tryz.ntmps86
  go_upto_region 1 with fail
  rw [← hW0]
  clear hW0
  have p0 : W0.cell? ⟨w.heap.size, 0, none⟩ = _ := HS.out.p.c0
  have p1 : W0.cell? ⟨w.heap.size, 1, none⟩ = _ := HS.out.p.c1
  have p2 : W0.cell? ⟨w.heap.size, 2, none⟩ = _ := HS.out.p.c2
  go_wp2_with fail
  refine HC.out.mono ?_
  rintro e W1 ⟨rfl, hb1⟩
  clear p0 p1 p2
  have HS1 := Lib.hid (HS.out.keep hb1)
  clear hb1
  have q0 : W1.cell? ⟨w.heap.size + 1, 0, none⟩ = _ := HS1.out.q.c0
  have q1 : W1.cell? ⟨w.heap.size + 1, 1, none⟩ = _ := HS1.out.q.c1
  have q2 : W1.cell? ⟨w.heap.size + 1, 2, none⟩ = _ := HS1.out.q.c2
  have q3 : W1.cell? ⟨w.heap.size + 1, 3, none⟩ = _ := HS1.out.q.c3
  have p0 : W1.cell? ⟨w.heap.size, 0, none⟩ = _ := HS1.out.p.c0
  have p1 : W1.cell? ⟨w.heap.size, 1, none⟩ = _ := HS1.out.p.c1
  have p2 : W1.cell? ⟨w.heap.size, 2, none⟩ = _ := HS1.out.p.c2
  go_wp2_with fail
  refine (step_any s _).mono ?_
  rw [h3]
  clear h3
  rintro e w' ⟨rfl, rfl⟩
  go_wp2_with fail
  refine (HRC.out _ HS1.out.lat).mono ?_
  rintro e w' ⟨rfl, rfl⟩
  go_wp2_with fail
  refine (HSHF.out _ HS1.out.lat).mono ?_
  rintro e W3 ⟨gv, vc, rfl, hv1, hv2, hgv, hblk, hb3⟩
  have hl4 := Lat.alloc W3 (.cells #[.int .i64 wd, .int .i64 hg, .slice (some ⟨gv, 0, none⟩) m vc] 33)
  obtain ⟨W4, hW4⟩ : ∃ W, W = W3.alloc (.cells #[.int .i64 wd, .int .i64 hg, .slice (some ⟨gv, 0, none⟩) m vc] 33) := ⟨_, rfl⟩
  rw [← hW4] at hl4
  have hs4 := HS1.out.keep (Lat.trans hb3 hl4)
  have HS4 := Lib.hid hs4
  have SC := Lib.hid (show Cells3 W4 W3.heap.size 0 (.int .i64 wd) (.int .i64 hg) (.slice (some ⟨gv, 0, none⟩) m vc) by rw [hW4]; exact cells3_new rfl rfl rfl rfl)
  have BLK := Lib.hid (hblk.keep hl4)
  have H24 := Lib.hid (H2.out.keep hs4.lat)
  have NS : W3.heap.size ≠ gv := by have := hblk.lt; omega
  have NR : w.heap.size + 1 + 1 < gv := Nat.lt_of_lt_of_le HS1.out.sz hgv
  have q3b : W4.cell? ⟨w.heap.size + 1, 3, none⟩ = _ := hs4.q.c3
  clear p0 p1 p2 q0 q1 q2 q3 hblk hb3 hl4 hgv hs4
  go_upto_region 14 with fail
  rw [← hW4]
  clear hW4
  go_wp2_with fail
  go_loopw [72] (fun i wr => ∃ k : Nat, k ≤ m ∧ i = .int .i64 k ∧ Hid (DInv w W4 wr gv m (mtl SS rs s k))) (fun i _ => m - (intOf i).toNat)
  case atStart => exact ⟨0, Nat.zero_le _, rfl, HS4.out.lat, fun _ _ _ h => h, fun _ h => h, by rw [mtl_zero]; exact BLK.out, by omega⟩
  case round =>
    clear q3b
    obtain ⟨k, hk, rfl, hrel⟩ := hrel
    have hI := hrel.out
    by_cases hlt : k < m
    · obtain ⟨bb, ob, rfl, hcb⟩ := H24.out.row.at_ (by omega)
      obtain ⟨b', o', hb', hcw⟩ := H2.out.row.at_ (by omega)
      injection hb' with hb'
      injection hb' with hb1 hb2 _
      subst hb1 hb2
      have hbw : bb < w.heap.size := World.block_lt_of_cell? _ _ (hcw k hlt)
      have c1 := hI.same _ _ (show bb ≠ gv by omega) (hcb k hlt)
      have hF0 := hI.same _ _ (show W3.heap.size ≠ gv from NS) SC.out.c2
      have hG0 := hI.blk.cell k hlt
      have hfr := hI.blk.free k hlt
      have hz := getD_pix PS.out k
      have hr := HRS.out _ (mem_getD rs k (by rw [H2.out.len]; exact hlt))
      have hst := mtl_step SS rs s k (by rw [LSS.out]; exact hlt)
      rw [mtl_getD _ _ _ _ _ (by rw [LSS.out]; exact hlt), if_neg (by omega)] at hG0
      obtain ⟨z, hzd⟩ : ∃ z, z = SS.getD k 0 := ⟨_, rfl⟩
      obtain ⟨r, hrd⟩ : ∃ z, z = rs.getD k 0 := ⟨_, rfl⟩
      rw [← hzd] at hG0 hz hst
      rw [← hrd] at c1 hr hst
      rw [LSS.out] at hst
      have hm := mul_bd r s hr.1 hr.2 s1 s64
      obtain ⟨p, hp⟩ : ∃ p, p = r * s := ⟨_, rfl⟩
      obtain ⟨t, ht⟩ : ∃ t, t = clamp (z + r * s) := ⟨_, rfl⟩
      rw [← ht] at hst
      have hcl : ∀ W, Calls Tryz.prog 83 #[.int .i64 (z + r * s)] W fun e w' => e = .returned (.int .i64 t) ∧ w' = W := fun W => by
        rw [ht]; exact (clamp_any (z + r * s) W).mono fun _ _ ⟨x, y⟩ => ⟨x, y.symm⟩
      have hset := hI.set hlt hst
      have hFS : (wr.setCell ⟨gv, k, none⟩ (.int .i64 t)).cell? ⟨W3.heap.size, 2, none⟩ = some (.slice (some ⟨gv, 0, none⟩) m vc) := hset.same _ _ (show W3.heap.size ≠ gv from NS) SC.out.c2
      have HCL := Lib.hid hcl
      have HSET := Lib.hid hset
      have FS := Lib.hid hFS
      have HF0 := Lib.hid hF0
      have HG0 := Lib.hid hG0
      have e1 : IntKind.i64.wrap (r * s) = r * s := IntWalk.i64_in _ (by omega)
      have e2 : IntKind.i64.wrap (z + r * s) = z + r * s := IntWalk.i64_in _ (by omega)
      have i1 : (0 : Int) ≤ (k : Int) := by omega
      have i2 : (k : Int) < (m : Int) := by omega
      clear hcb hcw hzd hrd ht hcl hst hI hrel hF0 hG0 hset hFS hp
      go_upto_region 17 with fail
      have hF : wr.drew.cell? ⟨W3.heap.size, 2, none⟩ = some (.slice (some ⟨gv, 0, none⟩) m vc) := HF0.out
      have hG : wr.drew.cell? ⟨gv, k, none⟩ = some (.int .i64 z) := HG0.out
      clear c1
      refine wp_region_gate (fun w' => w'.cell? ⟨W3.heap.size, 2, none⟩ = some (.slice (some ⟨gv, 0, none⟩) m vc)) (fun w' => w'.cell? ⟨gv, k, none⟩ = some (.int .i64 z)) 11 (by kernel_rfl) ?_
      refine gate_takeF (i := 0) (v := ?_) rfl (by kernel_rfl) (by kernel_rfl) (by kernel_rfl) (fun _ _ _ h => h) (by decide) ⟨hF, fun _ => hG⟩ (Or.inl ⟨by rfl, ?_⟩) ?_
      rotate_left
      · intro wq hSw; go_simp; rfl
      simp only [Act.put]
      refine gate_takeF (i := 1) (v := ?_) rfl (by kernel_rfl) (by kernel_rfl) (by kernel_rfl) (fun _ _ _ h => h) (by decide) ⟨hF, fun _ => hG⟩ (Or.inl ⟨by rfl, ?_⟩) ?_
      rotate_left
      · intro wq hSw; go_simp; rfl
      simp only [Act.put]
      refine gate_takeF (i := 2) (v := ?_) rfl (by kernel_rfl) (by kernel_rfl) (by kernel_rfl) (fun _ _ _ h => h) (by decide) ⟨hF, fun _ => hG⟩ (Or.inl ⟨by rfl, ?_⟩) ?_
      rotate_left
      · intro wq hSw; go_simp; rfl
      simp only [Act.put]
      refine gate_takeF (i := 3) (v := ?_) rfl (by kernel_rfl) (by kernel_rfl) (by kernel_rfl) (fun _ _ _ h => h) (by decide) ⟨hF, fun _ => hG⟩ (Or.inl ⟨by rfl, ?_⟩) ?_
      rotate_left
      · intro wq hSw; go_simp; rfl
      simp only [Act.put]
      refine gate_takeF (i := 4) (v := ?_) rfl (by kernel_rfl) (by kernel_rfl) (by kernel_rfl) (fun _ _ _ h => h) (by decide) ⟨hF, fun _ => hG⟩ (Or.inl ⟨by rfl, ?_⟩) ?_
      rotate_left
      · intro wq hSw; go_simp; rfl
      simp only [Act.put]
      refine gate_takeF (i := 5) (v := ?_) rfl (by kernel_rfl) (by kernel_rfl) (by kernel_rfl) (fun _ _ _ h => h) (by decide) ⟨hF, fun _ => hG⟩ (Or.inl ⟨by rfl, ?_⟩) ?_
      rotate_left
      · intro wq hSw; go_simp; rfl
      simp only [Act.put]
      refine gate_takeF (i := 6) (v := ?_) rfl (by kernel_rfl) (by kernel_rfl) (by kernel_rfl) (fun _ _ _ h => h) (by decide) ⟨hF, fun _ => hG⟩ (Or.inl ⟨by rfl, ?_⟩) ?_
      rotate_left
      · intro wq hSw; go_simp; rfl
      simp only [Act.put]
      refine gate_takeG (i := 7) (v := ?_) rfl (by kernel_rfl) (by kernel_rfl) (by kernel_rfl) (fun _ _ _ h => h) (by decide) (by kernel_rfl) (by kernel_rfl) ⟨hF, fun _ => hG⟩ (Or.inl ⟨by rfl, ?_⟩) ?_
      rotate_left
      · intro wq hSw; obtain ⟨s0, s1⟩ := hSw; go_simp; rfl
      simp only [Act.put]
      refine gate_takeF (i := 8) (v := ?_) rfl (by kernel_rfl) (by kernel_rfl) (by kernel_rfl) (fun _ _ _ h => h) (by decide) ⟨hF, fun _ => hG⟩ (Or.inl ⟨by rfl, ?_⟩) ?_
      rotate_left
      · intro wq hSw; go_simp; rfl
      simp only [Act.put]
      refine gate_takeF (i := 9) (v := ?_) rfl (by kernel_rfl) (by kernel_rfl) (by kernel_rfl) (fun _ _ _ h => h) (by decide) ⟨hF, fun _ => hG⟩ (Or.inl ⟨by rfl, ?_⟩) ?_
      rotate_left
      · intro wq hSw; go_simp; rfl
      simp only [Act.put]
      refine gate_takeF (i := 10) (v := ?_) rfl (by kernel_rfl) (by kernel_rfl) (by kernel_rfl) (fun _ _ _ h => h) (by decide) ⟨hF, fun _ => hG⟩ (Or.inl ⟨by rfl, ?_⟩) ?_
      rotate_left
      · intro wq hSw; go_simp; rfl
      simp only [Act.put]
      refine gate_one (i := 11) (by kernel_rfl) rfl (fun K hK => ?_)
      go_simp
      refine hK _ _ ⟨hF, fun _ => hG⟩ ?_
      clear hK K
      refine gate_one (i := 12) (by kernel_rfl) rfl (fun K hK => ?_)
      go_simp
      refine (HCL.out _).mono ?_
      rintro e w' ⟨rfl, rfl⟩
      refine hK _ _ ⟨hF, fun _ => hG⟩ ?_
      clear hK K
      refine gate_takeF (i := 13) (v := ?_) rfl (by kernel_rfl) (by kernel_rfl) (by kernel_rfl) (fun _ _ _ h => h) (by decide) ⟨hF, fun _ => hG⟩ (Or.inl ⟨by rfl, ?_⟩) ?_
      rotate_left
      · intro wq hSw; go_simp; rfl
      simp only [Act.put]
      refine gate_one (i := 14) (by kernel_rfl) rfl (fun K hK => ?_)
      go_simp
      refine hK _ _ (FG.past (by kernel_rfl) FS.out) ?_
      clear hK K
      refine gate_done (by kernel_rfl) ?_ _
      clear hF hG
      go_wp2
      go_roundw
      case rel => exact ⟨k + 1, by omega, by go_num, HSET.out.drew⟩
      case measure => simp [intOf]; omega
    · obtain rfl : k = m := by omega
      have hr0 := hI.same ⟨w.heap.size + 1 + 1, 0, none⟩ _ (show w.heap.size + 1 + 1 ≠ gv by omega) HS4.out.r.c0
      have hr1 := hI.same ⟨w.heap.size + 1 + 1, 1, none⟩ _ (show w.heap.size + 1 + 1 ≠ gv by omega) HS4.out.r.c1
      have hr2 := hI.same ⟨w.heap.size + 1 + 1, 2, none⟩ _ (show w.heap.size + 1 + 1 ≠ gv by omega) HS4.out.r.c2
      have f0 := hI.free _ (HS4.out.f 0 (by omega))
      have f1 := hI.free _ (HS4.out.f 1 (by omega))
      have f2 := hI.free _ (HS4.out.f 2 (by omega))
      have s0 := hI.same ⟨W3.heap.size, 0, none⟩ _ (show W3.heap.size ≠ gv from NS) SC.out.c0
      have s1' := hI.same ⟨W3.heap.size, 1, none⟩ _ (show W3.heap.size ≠ gv from NS) SC.out.c1
      have s2 := hI.same ⟨W3.heap.size, 2, none⟩ _ (show W3.heap.size ≠ gv from NS) SC.out.c2
      have Q := Lib.hid (three_set hr0 hr1 hr2 (.int .i64 wd) (.int .i64 hg) (.slice (some ⟨gv, 0, none⟩) k vc))
      have hat : IntsAt wr (some ⟨gv, 0, none⟩) k vc (mtl SS rs s k) := ⟨by rw [mtl_length, LSS.out], ⟨hv1, hv2, fun _ => ⟨gv, 0, rfl, fun j hj => by rw [Nat.zero_add]; exact hI.blk.cell j hj⟩⟩, HWF.out⟩
      have HII := Lib.hid (ints_three (g := w.heap.size + 1 + 1) hat (fun b o e _ => by injection e with e; injection e with e _ _; omega) (.int .i64 wd) (.int .i64 hg) (.slice (some ⟨gv, 0, none⟩) k vc))
      have HL := Lib.hid (lat_three hI.lat (show w.heap.size ≤ w.heap.size + 1 + 1 by omega) (.int .i64 wd) (.int .i64 hg) (.slice (some ⟨gv, 0, none⟩) k vc))
      have FR := Lib.hid (show Fresh w (some ⟨gv, 0, none⟩) k from fun g hg b o e _ => by injection e with e; injection e with e _ _; omega)
      clear hrel hI hat
      go_wp2
      exact bodyPost_ret (v := .tuple #[picV wd hg (some ⟨gv, 0, none⟩) k vc, .nilIface]) (by simp [results, Tryz.results86, go_sem, Q.out.1, Q.out.2.1, Q.out.2.2]) rfl ⟨_, _, rfl, HII.out, FR.out, HL.out⟩
end Go.Proofs.YtheimfdbadjpoaaGreatDoor

namespace Go.Proofs.YtheimfdbadjpoaaGreatDoor
open Go.ChangeShapes Go.WideShapes Go.ChangeAt Go.RowKit

structure BB (w W : World) (wd hg : Int) (a : Option Addr) (n cap : Nat) (wd2 hg2 : Int) (b : Option Addr) (m cap2 : Nat) : Prop where
  lat : Lat w W
  p : Cells3 W w.heap.size 0 (.int .i64 wd) (.int .i64 hg) (.slice a n cap)
  q : Cells3 W (w.heap.size + 1) 0 (.int .i64 wd2) (.int .i64 hg2) (.slice b m cap2)
  r0 : W.cell? ⟨w.heap.size + 1 + 1, 0, none⟩ = some (.int .i64 0)
  r1 : W.cell? ⟨w.heap.size + 1 + 1, 1, none⟩ = some (.int .i64 0)
  f0 : W.frozen? ⟨w.heap.size + 1 + 1, 0, none⟩ = false
  f1 : W.frozen? ⟨w.heap.size + 1 + 1, 1, none⟩ = false
  sz : w.heap.size + 1 + 1 < W.heap.size
theorem BB.keep {w W W' : World} {wd hg : Int} {a : Option Addr} {n cap : Nat} {wd2 hg2 : Int} {b : Option Addr} {m cap2 : Nat} (h : BB w W wd hg a n cap wd2 hg2 b m cap2) (hb : Lat W W') : BB w W' wd hg a n cap wd2 hg2 b m cap2 :=
  ⟨Lat.trans h.lat hb, h.p.keep hb, h.q.keep hb, hb.cell_at h.r0, hb.cell_at h.r1, hb.free_at h.sz h.f0, hb.free_at h.sz h.f1, Nat.lt_of_lt_of_le h.sz hb.size⟩
theorem bb_open (w : World) (wd hg : Int) (a : Option Addr) (n cap : Nat) (wd2 hg2 : Int) (b : Option Addr) (m cap2 : Nat) :
    BB w (((w.alloc (.cells #[.int .i64 wd, .int .i64 hg, .slice a n cap] 33)).alloc (.cells #[.int .i64 wd2, .int .i64 hg2, .slice b m cap2] 33)).alloc (.cells #[.int .i64 0, .int .i64 0] 81)) wd hg a n cap wd2 hg2 b m cap2 := by
  have l3 := Lat.alloc ((w.alloc (.cells #[.int .i64 wd, .int .i64 hg, .slice a n cap] 33)).alloc (.cells #[.int .i64 wd2, .int .i64 hg2, .slice b m cap2] 33)) (.cells #[.int .i64 0, .int .i64 0] 81)
  have l2 := Lat.alloc (w.alloc (.cells #[.int .i64 wd, .int .i64 hg, .slice a n cap] 33)) (.cells #[.int .i64 wd2, .int .i64 hg2, .slice b m cap2] 33)
  have l1 := Lat.alloc w (.cells #[.int .i64 wd, .int .i64 hg, .slice a n cap] 33)
  exact ⟨Lat.trans l1 (Lat.trans l2 l3), (cells3_new rfl rfl rfl rfl).keep (Lat.trans l2 l3), (cells3_new (by simp) rfl rfl rfl).keep l3, cell_new (by simp) rfl, cell_new (by simp) rfl, free_new (by simp), free_new (by simp), by simp⟩
def bI (wd hg : Int) (zs ys : List Int) : Nat := bst wd.toNat hg.toNat zs ys 9
theorem bI_lt (wd hg : Int) (zs ys : List Int) : bI wd hg zs ys < 9 := by have := bst_lt wd.toNat hg.toNat zs ys 9; unfold bI; omega
def bX (wd hg : Int) (zs : List Int) (wd2 hg2 : Int) (ys : List Int) : Int := if alkE wd hg zs wd2 hg2 ys = 0 then mvX (bI wd hg zs ys) else 0
def bY (wd hg : Int) (zs : List Int) (wd2 hg2 : Int) (ys : List Int) : Int := if alkE wd hg zs wd2 hg2 ys = 0 then mvY (bI wd hg zs ys) else 0
def shI (wd hg : Int) (zs : List Int) (x y : Int) : List Int := shf wd.toNat hg.toNat zs x y zs.length
theorem shI_length (wd hg : Int) (zs : List Int) (x y : Int) : (shI wd hg zs x y).length = zs.length := shf_length _ _ _ _ _ _
structure EncOk (wd hg : Int) (zs ys : List Int) (n m : Nat) (s x y : Int) (k : Nat) (L : List Int) (wd2 hg2 : Int) : Prop where
  ew : wd2 = wd
  eh : hg2 = hg
  em : m = n
  ex : x = mvX (bI wd hg zs ys)
  ey : y = mvY (bI wd hg zs ys)
  ek : k = n
  eL : L = mrs (shI wd hg zs x y) ys s n
theorem mencode_tot (wd hg : Int) (a : Option Addr) (n cap : Nat) (zs : List Int) (wd2 hg2 : Int) (b : Option Addr) (m cap2 : Nat) (ys : List Int) (s : Int) (w : World) (h : IntsAt w a n cap zs) (h2 : IntsAt w b m cap2 ys) :
    Calls Tryz.prog 40 #[picV wd hg a n cap, picV wd2 hg2 b m cap2, .int .i64 s] w fun e w' => ∃ x y c k cc L, e = .returned (.tuple #[codV false x y c k cc, errv (movE wd hg zs wd2 hg2 ys s)]) ∧ IntsAt w' c k cc L ∧
      (movE wd hg zs wd2 hg2 ys s = 0 → EncOk wd hg zs ys n m s x y k L wd2 hg2) ∧ (movE wd hg zs wd2 hg2 ys s ≠ 0 → x = 0 ∧ y = 0 ∧ k = 0 ∧ L = []) ∧ Fresh w c k ∧ Lat w w' := by
  by_cases he : movE wd hg zs wd2 hg2 ys s = 0
  · have hd := he
    obtain ⟨ha, _, _⟩ := movE_zero he
    obtain ⟨ka, kb, rfl, rfl⟩ := alkE_zero.1 ha
    have oa := chkPic_ok ka
    have ob := chkPic_ok kb
    obtain ⟨wd, rfl⟩ := Int.eq_ofNat_of_zero_le (show 0 ≤ wd by have := oa.w1; omega)
    obtain ⟨hg, rfl⟩ := Int.eq_ofNat_of_zero_le (show 0 ≤ hg by have := oa.h1; omega)
    have hmn : m = n := by have := oa.len; have := ob.len; have := h.len; have := h2.len; omega
    subst hmn
    refine (mencode_ok wd hg a m cap zs b cap2 ys s w h h2 he (bI wd hg zs ys) rfl).mono ?_
    rintro e w' ⟨c, cc, rfl, hat, hf, hb⟩
    exact ⟨_, _, c, m, cc, _, by rw [he, errv_zero rfl], hat, fun _ => ⟨rfl, rfl, rfl, rfl, rfl, rfl, by unfold shI; rw [h.len]; rfl⟩, fun h => absurd he h, hf, hb⟩
  · refine (mencode_bad wd hg a n cap zs wd2 hg2 b m cap2 ys s w h h2 he).mono ?_
    rintro e w' ⟨rfl, hb⟩
    exact ⟨0, 0, none, 0, 0, [], by rw [errv_pos he], IntsAt.nil _, fun h0 => absurd h0 he, fun _ => ⟨rfl, rfl, rfl, rfl⟩, fun _ _ _ _ _ h => absurd rfl h, hb⟩
theorem mdecode_tot (wd hg : Int) (a : Option Addr) (n cap : Nat) (zs : List Int) (al : Bool) (x y : Int) (b : Option Addr) (m cap2 : Nat) (rs : List Int) (s : Int) (w : World) (h : IntsAt w a n cap zs) (h2 : IntsAt w b m cap2 rs) :
    Calls Tryz.prog 86 #[picV wd hg a n cap, codV al x y b m cap2, .int .i64 s] w fun e w' => ∃ wd' hg' c k cc L, e = .returned (.tuple #[picV wd' hg' c k cc, errv (behE wd hg zs al x y rs s)]) ∧ IntsAt w' c k cc L ∧
      (behE wd hg zs al x y rs s = 0 → wd' = wd ∧ hg' = hg ∧ k = n ∧ L = mtl (shI wd hg zs x y) rs s n) ∧ (behE wd hg zs al x y rs s ≠ 0 → wd' = 0 ∧ hg' = 0 ∧ k = 0 ∧ L = []) ∧ Fresh w c k ∧ Lat w w' := by
  by_cases he : behE wd hg zs al x y rs s = 0
  · obtain ⟨hk, _, _, rfl, _, _⟩ := behE_zero he
    have oa := chkPic_ok hk
    obtain ⟨wd, rfl⟩ := Int.eq_ofNat_of_zero_le (show 0 ≤ wd by have := oa.w1; omega)
    obtain ⟨hg, rfl⟩ := Int.eq_ofNat_of_zero_le (show 0 ≤ hg by have := oa.h1; omega)
    refine (mdecode_ok wd hg a n cap zs x y b m cap2 rs s w h h2 he).mono ?_
    rintro e w' ⟨c, cc, rfl, hat, hf, hb⟩
    exact ⟨_, _, c, n, cc, _, by rw [he, errv_zero rfl], hat, fun _ => ⟨rfl, rfl, rfl, by unfold shI; rw [h.len]; rfl⟩, fun h => absurd he h, hf, hb⟩
  · refine (mdecode_bad wd hg a n cap zs al x y b m cap2 rs s w h h2 he).mono ?_
    rintro e w' ⟨rfl, hb⟩
    exact ⟨0, 0, none, 0, 0, [], by rw [errv_pos he], IntsAt.nil _, fun h0 => absurd h0 he, fun _ => ⟨rfl, rfl, rfl, rfl⟩, fun _ _ _ _ _ h => absurd rfl h, hb⟩
theorem told_ok {wd hg : Int} {zs ys : List Int} {n m k : Nat} {s x y : Int} {L : List Int} {wd2 hg2 : Int} (he : movE wd hg zs wd2 hg2 ys s = 0) (h : EncOk wd hg zs ys n m s x y k L wd2 hg2) (hl : zs.length = n) :
    behE wd hg zs false x y L s = 0 ∧ alkE wd hg ys wd hg (mtl (shI wd hg zs x y) L s n) = 0 ∧ unl ys (mtl (shI wd hg zs x y) L s n) n ≤ s / 2 := by
  obtain ⟨ha, s1, s64⟩ := movE_zero he
  obtain ⟨ka, kb, e1, e2⟩ := alkE_zero.1 ha
  have oa := chkPic_ok ka
  have ob := chkPic_ok kb
  obtain ⟨ew, eh, em, ex, ey, ek, eL⟩ := h
  subst ew eh
  have hmv := mv_bd _ (bI_lt wd2 hg2 zs ys)
  rw [← ex, ← ey] at hmv
  have pS : ∀ z ∈ shI wd2 hg2 zs x y, 0 ≤ z ∧ z ≤ 255 := shf_mem oa.pix
  have lS : (shI wd2 hg2 zs x y).length = n := by rw [shI_length, hl]
  have hb := mrs_bd s1 pS ob.pix n
  have hll : L.length = n := by rw [eL, mrs_length]
  refine ⟨behE_of ka s1 s64 hmv (rstE_of (by rw [hll, hl]) (by rw [eL]; exact hb)), alkE_zero.2 ⟨kb, chkPic_of ⟨oa.w1, oa.w6, oa.h1, oa.h6, by rw [mtl_length, lS, ← hl]; exact oa.len, mtl_pix pS⟩, rfl, rfl⟩, ?_⟩
  rw [eL]
  exact mtl_near _ ys s s1 ob.pix n lS.symm
end Go.Proofs.YtheimfdbadjpoaaGreatDoor

namespace Go.Proofs.YtheimfdbadjpoaaGreatDoor
open Go.ChangeShapes Go.WideShapes Go.ChangeAt Go.RowKit

def behR (wd hg : Int) (zs : List Int) (al : Bool) (x y : Int) (rs : List Int) (s : Int) : List Int := if behE wd hg zs al x y rs s = 0 then mtl (shI wd hg zs x y) rs s zs.length else []
def behD (wd hg : Int) (zs : List Int) (al : Bool) (x y : Int) (rs : List Int) (s : Int) : Int := if behE wd hg zs al x y rs s = 0 then wd else 0
def behG (wd hg : Int) (zs : List Int) (al : Bool) (x y : Int) (rs : List Int) (s : Int) : Int := if behE wd hg zs al x y rs s = 0 then hg else 0
theorem mdecode_same (wd hg : Int) (a : Option Addr) (n cap : Nat) (zs : List Int) (al : Bool) (x y : Int) (b : Option Addr) (m cap2 : Nat) (rs : List Int) (s : Int) (w : World) (h : IntsAt w a n cap zs) (h2 : IntsAt w b m cap2 rs) :
    Calls Tryz.prog 86 #[picV wd hg a n cap, codV al x y b m cap2, .int .i64 s] w fun e w' => ∃ c k cc, e = .returned (.tuple #[picV (behD wd hg zs al x y rs s) (behG wd hg zs al x y rs s) c k cc, errv (behE wd hg zs al x y rs s)]) ∧ IntsAt w' c k cc (behR wd hg zs al x y rs s) ∧ Lat w w' := by
  refine (mdecode_tot wd hg a n cap zs al x y b m cap2 rs s w h h2).mono ?_
  rintro e w' ⟨d, g, c, k, cc, L, rfl, hat, h0, h1, _, hb⟩
  unfold behR behD behG
  by_cases he : behE wd hg zs al x y rs s = 0
  · obtain ⟨rfl, rfl, rfl, rfl⟩ := h0 he
    rw [if_pos he, if_pos he, if_pos he]
    exact ⟨c, k, cc, rfl, by rw [h.len]; exact hat, hb⟩
  · obtain ⟨rfl, rfl, rfl, rfl⟩ := h1 he
    rw [if_neg he, if_neg he, if_neg he]
    exact ⟨c, 0, cc, rfl, hat, hb⟩
def menR (wd hg : Int) (zs : List Int) (wd2 hg2 : Int) (ys : List Int) (s : Int) : List Int := if movE wd hg zs wd2 hg2 ys s = 0 then mrs (shI wd hg zs (mvX (bI wd hg zs ys)) (mvY (bI wd hg zs ys))) ys s zs.length else []
def menX (wd hg : Int) (zs : List Int) (wd2 hg2 : Int) (ys : List Int) (s : Int) : Int := if movE wd hg zs wd2 hg2 ys s = 0 then mvX (bI wd hg zs ys) else 0
def menY (wd hg : Int) (zs : List Int) (wd2 hg2 : Int) (ys : List Int) (s : Int) : Int := if movE wd hg zs wd2 hg2 ys s = 0 then mvY (bI wd hg zs ys) else 0
theorem mencode_same (wd hg : Int) (a : Option Addr) (n cap : Nat) (zs : List Int) (wd2 hg2 : Int) (b : Option Addr) (m cap2 : Nat) (ys : List Int) (s : Int) (w : World) (h : IntsAt w a n cap zs) (h2 : IntsAt w b m cap2 ys) :
    Calls Tryz.prog 40 #[picV wd hg a n cap, picV wd2 hg2 b m cap2, .int .i64 s] w fun e w' => ∃ c k cc, e = .returned (.tuple #[codV false (menX wd hg zs wd2 hg2 ys s) (menY wd hg zs wd2 hg2 ys s) c k cc, errv (movE wd hg zs wd2 hg2 ys s)]) ∧ IntsAt w' c k cc (menR wd hg zs wd2 hg2 ys s) ∧ Lat w w' := by
  refine (mencode_tot wd hg a n cap zs wd2 hg2 b m cap2 ys s w h h2).mono ?_
  rintro e w' ⟨x, y, c, k, cc, L, rfl, hat, h0, h1, _, hb⟩
  unfold menR menX menY
  by_cases he : movE wd hg zs wd2 hg2 ys s = 0
  · obtain ⟨_, _, _, rfl, rfl, rfl, rfl⟩ := h0 he
    rw [if_pos he, if_pos he, if_pos he]
    exact ⟨c, k, cc, rfl, by rw [h.len]; exact hat, hb⟩
  · obtain ⟨rfl, rfl, rfl, rfl⟩ := h1 he
    rw [if_neg he, if_neg he, if_neg he]
    exact ⟨c, 0, cc, rfl, hat, hb⟩
end Go.Proofs.YtheimfdbadjpoaaGreatDoor

namespace Go.Proofs.YtheimfdbadjpoaaGreatDoor
theorem quiet_left {P : Program} {f : FuncId} {args : Array Value} {w : World} {n : Nat} {v : Value}
    (h : Calls P f args (w.drewN n) fun e w' => e = .returned v ∧ w.drewN n = w') : Calls P f args (w.drewN n) fun e w'' => e = .returned v ∧ ∃ m, w'' = w.drewN m :=
  h.mono fun _ _ ⟨he, hm⟩ => ⟨he, n, hm.symm⟩
theorem quiet_more {P : Program} {f : FuncId} {args : Array Value} {w : World} {a n : Nat} {v : Value}
    (h : Calls P f args (w.drewN (a + n)) fun e w' => e = .returned v ∧ w.drewN (a + n) = w') : Calls P f args (w.drewN (a + n)) fun e w'' => e = .returned v ∧ ∃ m, w'' = w.drewN (a + m) :=
  h.mono fun _ _ ⟨he, hm⟩ => ⟨he, n, hm.symm⟩
end Go.Proofs.YtheimfdbadjpoaaGreatDoor

namespace Go.Proofs.YtheimfdbadjpoaaGreatDoor
open Go.ChangeShapes Go.WideShapes Go.ChangeAt Go.RowKit

def fchkE (n : Nat) : Nat := if n = 0 then 5 else if 6 < n then 4 else 0
theorem fcheck_any (n : Nat) (w : World) :
    Calls Tryz.prog 36 #[.int .i64 n] w fun e w' => e = .returned (errv (fchkE n)) ∧ w = w' := by
  have hd : (((n : Int) == 0) = true ∧ fchkE n = 5) ∨ (((n : Int) == 0) = false ∧ decide (6 < (n : Int)) = true ∧ fchkE n = 4) ∨ (((n : Int) == 0) = false ∧ decide (6 < (n : Int)) = false ∧ fchkE n = 0) := by
    unfold fchkE
    by_cases h0 : n = 0
    · exact .inl ⟨beq_iff_eq.2 (by omega), if_pos h0⟩
    · by_cases h6 : 6 < n
      · exact .inr (.inl ⟨beq_eq_false_iff_ne.2 (by omega), decide_eq_true (by omega), by rw [if_neg h0, if_pos h6]⟩)
      · exact .inr (.inr ⟨beq_eq_false_iff_ne.2 (by omega), decide_eq_false (by omega), by rw [if_neg h0, if_neg h6]⟩)
  rcases hd with ⟨d1, e⟩ | ⟨d1, d2, e⟩ | ⟨d1, d2, e⟩
  · rw [e, errv_pos (by omega)]
    clear e
    go_enter Tryz.func36, Tryz.ntmps36
    go_wp2
    go_ret
    exact ⟨rfl, rfl⟩
  · rw [e, errv_pos (by omega)]
    clear e
    go_enter Tryz.func36, Tryz.ntmps36
    go_wp2
    go_ret
    exact ⟨rfl, rfl⟩
  · rw [e, errv_zero rfl]
    clear e
    go_enter Tryz.func36, Tryz.ntmps36
    go_wp2
    go_ret
    exact ⟨rfl, rfl⟩

def tldE (wd hg : Int) (zs : List Int) (W H s : Int) (al : Bool) (x y : Int) (rs : List Int) : Nat := if al = false then behE wd hg zs al x y rs s else if x ≠ 0 ∨ y ≠ 0 then 3 else dcE W H s rs
def tldD (wd hg : Int) (zs : List Int) (W H s : Int) (al : Bool) (x y : Int) (rs : List Int) : Int := if al = false then behD wd hg zs al x y rs s else if x ≠ 0 ∨ y ≠ 0 then 0 else tolD W H s rs
def tldG (wd hg : Int) (zs : List Int) (W H s : Int) (al : Bool) (x y : Int) (rs : List Int) : Int := if al = false then behG wd hg zs al x y rs s else if x ≠ 0 ∨ y ≠ 0 then 0 else tolG W H s rs
def tldR (wd hg : Int) (zs : List Int) (W H s : Int) (al : Bool) (x y : Int) (rs : List Int) : List Int := if al = false then behR wd hg zs al x y rs s else if x ≠ 0 ∨ y ≠ 0 then [] else tolR W H s rs
theorem mdecode_sameF (wd hg : Int) (a : Option Addr) (n cap : Nat) (zs : List Int) (al : Bool) (x y : Int) (b : Option Addr) (m cap2 : Nat) (rs : List Int) (s : Int) (w : World) (h : IntsAt w a n cap zs) (h2 : IntsAt w b m cap2 rs) :
    Calls Tryz.prog 86 #[picV wd hg a n cap, codV al x y b m cap2, .int .i64 s] w fun e w' => ∃ c k cc, e = .returned (.tuple #[picV (behD wd hg zs al x y rs s) (behG wd hg zs al x y rs s) c k cc, errv (behE wd hg zs al x y rs s)]) ∧ IntsAt w' c k cc (behR wd hg zs al x y rs s) ∧ Fresh w c k ∧ Lat w w' := by
  refine (mdecode_tot wd hg a n cap zs al x y b m cap2 rs s w h h2).mono ?_
  rintro e w' ⟨d, g, c, k, cc, L, rfl, hat, h0, h1, hf, hb⟩
  unfold behR behD behG
  by_cases he : behE wd hg zs al x y rs s = 0
  · obtain ⟨rfl, rfl, rfl, rfl⟩ := h0 he
    rw [if_pos he, if_pos he, if_pos he]
    exact ⟨c, k, cc, rfl, by rw [h.len]; exact hat, hf, hb⟩
  · obtain ⟨rfl, rfl, rfl, rfl⟩ := h1 he
    rw [if_neg he, if_neg he, if_neg he]
    exact ⟨c, 0, cc, rfl, hat, hf, hb⟩
theorem decode_sameF (wd hg s : Int) (a : Option Addr) (n cap : Nat) (rs : List Int) (w : World) (h : IntsAt w a n cap rs) :
    Calls Tryz.prog 87 #[.int .i64 wd, .int .i64 hg, .int .i64 s, .slice a n cap] w fun e w' => ∃ b m c, e = .returned (.tuple #[picV (tolD wd hg s rs) (tolG wd hg s rs) b m c, errv (dcE wd hg s rs)]) ∧ IntsAt w' b m c (tolR wd hg s rs) ∧ Fresh w b m ∧ Lat w w' := by
  unfold tolD tolG tolR
  by_cases he : dcE wd hg s rs = 0
  · rw [if_pos he, if_pos he, if_pos he, he, errv_zero rfl]
    refine (decode_okF wd hg s a n cap rs w h he).mono ?_
    rintro e w' ⟨b, c, rfl, hat, hf, hb⟩
    exact ⟨b, n, c, rfl, by rw [h.len]; exact hat, hf, hb⟩
  · rw [if_neg he, if_neg he, if_neg he, errv_pos he]
    refine (decode_bad wd hg s a n cap rs w h he).mono ?_
    rintro e w' ⟨rfl, hb⟩
    exact ⟨none, 0, 0, rfl, IntsAt.nil _, fun _ _ _ _ _ hn => absurd rfl hn, hb⟩

set_option maxHeartbeats 2000000 in
set_option maxRecDepth 100000 in
theorem told_any (wd hg : Int) (a : Option Addr) (n cap : Nat) (zs : List Int) (W H s : Int) (al : Bool) (x y : Int) (b : Option Addr) (m cap2 : Nat) (rs : List Int) (w : World) (h : IntsAt w a n cap zs) (h2 : IntsAt w b m cap2 rs) :
    Calls Tryz.prog 41 #[picV wd hg a n cap, .int .i64 W, .int .i64 H, .int .i64 s, codV al x y b m cap2] w fun e w' => ∃ c k cc, e = .returned (.tuple #[picV (tldD wd hg zs W H s al x y rs) (tldG wd hg zs W H s al x y rs) c k cc, errv (tldE wd hg zs W H s al x y rs)]) ∧ IntsAt w' c k cc (tldR wd hg zs W H s al x y rs) ∧ Fresh w c k ∧ Lat w w' := by
  obtain ⟨W0, hW0⟩ : ∃ X, X = ((w.alloc (.cells #[.int .i64 wd, .int .i64 hg, .slice a n cap] 33)).alloc (.cells #[.bool al, .int .i64 x, .int .i64 y, .slice b m cap2] 83)).alloc (.cells #[.int .i64 0, .int .i64 0, .slice none 0 0] 33) := ⟨_, rfl⟩
  have hd := dw_open w wd hg a n cap al x y b m cap2
  rw [← hW0] at hd
  have q0 := hd.q.c0
  have q1 := hd.q.c1
  have q2 := hd.q.c2
  have q3 := hd.q.c3
  have HD := Lib.hid hd
  cases al with
  | false =>
    have hc := mdecode_sameF wd hg a n cap zs false x y b m cap2 rs s W0 (h.keep hd.lat) (h2.keep hd.lat)
    have e1 : tldE wd hg zs W H s false x y rs = behE wd hg zs false x y rs s := if_pos rfl
    have e2 : tldD wd hg zs W H s false x y rs = behD wd hg zs false x y rs s := if_pos rfl
    have e3 : tldG wd hg zs W H s false x y rs = behG wd hg zs false x y rs s := if_pos rfl
    have e4 : tldR wd hg zs W H s false x y rs = behR wd hg zs false x y rs s := if_pos rfl
    rw [e1, e2, e3, e4]
    obtain ⟨E, hE⟩ : ∃ E, E = behE wd hg zs false x y rs s := ⟨_, rfl⟩
    obtain ⟨D, hD⟩ : ∃ E, E = behD wd hg zs false x y rs s := ⟨_, rfl⟩
    obtain ⟨G, hG⟩ : ∃ E, E = behG wd hg zs false x y rs s := ⟨_, rfl⟩
    obtain ⟨R, hR⟩ : ∃ E, E = behR wd hg zs false x y rs s := ⟨_, rfl⟩
    rw [← hE, ← hD, ← hG, ← hR] at hc ⊢
    have p0 := hd.p.c0
    have p1 := hd.p.c1
    have p2 := hd.p.c2
    have HC := Lib.hid hc
    clear hc hd h h2 e1 e2 e3 e4 hE hD hG hR
    go_enter Tryz.func41, Tryz.ntmps41
    go_upto_region 1 with fail
    rw [← hW0]
    clear hW0
    go_wp2_with fail
    refine HC.out.mono ?_
    rintro e w1 ⟨c, k, cc, rfl, hat, hf, hb1⟩
    have hd1 := HD.out.keep hb1
    have hsz : w.heap.size + 1 + 1 < W0.heap.size := HD.out.sz
    have hat2 := ints_three (g := w.heap.size + 1 + 1) hat (hf _ hsz) (.int .i64 D) (.int .i64 G) (.slice c k cc)
    have hl2 := lat_three (g := w.heap.size + 1 + 1) hd1.lat (by omega) (.int .i64 D) (.int .i64 G) (.slice c k cc)
    have r0 := hd1.r.c0
    have r1 := hd1.r.c1
    have r2 := hd1.r.c2
    have Q := Lib.hid (three_set r0 r1 r2 (.int .i64 D) (.int .i64 G) (.slice c k cc))
    have f0 := hd1.f 0 (by omega)
    have f1 := hd1.f 1 (by omega)
    have f2 := hd1.f 2 (by omega)
    have HAT := Lib.hid hat2
    have HL := Lib.hid hl2
    have HF := Lib.hid (hf.mono HD.out.lat.size)
    clear hat hf hb1 hd1 hsz hat2 hl2 p0 p1 p2 q0 q1 q2 q3
    go_wp2
    exact bodyPost_ret (v := .tuple #[picV D G c k cc, errv E]) (by simp [results, Tryz.results41, go_sem, Q.out.1, Q.out.2.1, Q.out.2.2]) rfl ⟨c, k, cc, rfl, HAT.out, HF.out, HL.out⟩
  | true =>
    have hq : (x ≠ 0 ∨ y ≠ 0) ∨ (x = 0 ∧ y = 0) := by omega
    rcases hq with hq | ⟨rfl, rfl⟩
    · have e1 : tldE wd hg zs W H s true x y rs = 3 := by unfold tldE; rw [if_neg (by simp), if_pos hq]
      have e2 : tldD wd hg zs W H s true x y rs = 0 := by unfold tldD; rw [if_neg (by simp), if_pos hq]
      have e3 : tldG wd hg zs W H s true x y rs = 0 := by unfold tldG; rw [if_neg (by simp), if_pos hq]
      have e4 : tldR wd hg zs W H s true x y rs = [] := by unfold tldR; rw [if_neg (by simp), if_pos hq]
      rw [e1, e2, e3, e4, show errv 3 = eno 3 from errv_pos (by omega)]
      have f0 := hd.f 0 (by omega)
      have f1 := hd.f 1 (by omega)
      have f2 := hd.f 2 (by omega)
      have p0 := hd.p.c0
      have p1 := hd.p.c1
      have p2 := hd.p.c2
      have r0 := hd.r.c0
      have r1 := hd.r.c1
      have r2 := hd.r.c2
      have Q := Lib.hid (three_set r0 r1 r2 (.int .i64 0) (.int .i64 0) (.slice none 0 0))
      have HL := Lib.hid (lat_three (g := w.heap.size + 1 + 1) hd.lat (by omega) (.int .i64 0) (.int .i64 0) (.slice none 0 0))
      clear hd h h2 e1 e2 e3 e4
      have hq2 : x ≠ 0 ∨ (x = 0 ∧ y ≠ 0) := by omega
      clear hq
      rcases hq2 with hx | ⟨rfl, hy⟩
      all_goals
       go_enter Tryz.func41, Tryz.ntmps41
       go_upto_region 1 with fail
       rw [← hW0]
       clear hW0
       go_wp2_with fail
       exact bodyPost_ret (v := .tuple #[picV 0 0 none 0 0, eno 3]) (by simp [results, Tryz.results41, go_sem, Q.out.1, Q.out.2.1, Q.out.2.2]) rfl ⟨none, 0, 0, rfl, IntsAt.nil _, fun _ _ _ _ _ hn => absurd rfl hn, HL.out⟩
    · have hc := decode_sameF W H s b m cap2 rs W0 (h2.keep hd.lat)
      have e1 : tldE wd hg zs W H s true 0 0 rs = dcE W H s rs := by unfold tldE; rw [if_neg (by simp), if_neg (by simp)]
      have e2 : tldD wd hg zs W H s true 0 0 rs = tolD W H s rs := by unfold tldD; rw [if_neg (by simp), if_neg (by simp)]
      have e3 : tldG wd hg zs W H s true 0 0 rs = tolG W H s rs := by unfold tldG; rw [if_neg (by simp), if_neg (by simp)]
      have e4 : tldR wd hg zs W H s true 0 0 rs = tolR W H s rs := by unfold tldR; rw [if_neg (by simp), if_neg (by simp)]
      rw [e1, e2, e3, e4]
      obtain ⟨E, hE⟩ : ∃ E, E = dcE W H s rs := ⟨_, rfl⟩
      obtain ⟨D, hD⟩ : ∃ E, E = tolD W H s rs := ⟨_, rfl⟩
      obtain ⟨G, hG⟩ : ∃ E, E = tolG W H s rs := ⟨_, rfl⟩
      obtain ⟨R, hR⟩ : ∃ E, E = tolR W H s rs := ⟨_, rfl⟩
      rw [← hE, ← hD, ← hG, ← hR] at hc ⊢
      have HC := Lib.hid hc
      clear hc hd h h2 e1 e2 e3 e4 hE hD hG hR
      go_enter Tryz.func41, Tryz.ntmps41
      go_upto_region 1 with fail
      rw [← hW0]
      clear hW0
      go_wp2_with fail
      refine HC.out.mono ?_
      rintro e w1 ⟨c, k, cc, rfl, hat, hf, hb1⟩
      have hd1 := HD.out.keep hb1
      have hsz : w.heap.size + 1 + 1 < W0.heap.size := HD.out.sz
      have hat2 := ints_three (g := w.heap.size + 1 + 1) hat (hf _ hsz) (.int .i64 D) (.int .i64 G) (.slice c k cc)
      have hl2 := lat_three (g := w.heap.size + 1 + 1) hd1.lat (by omega) (.int .i64 D) (.int .i64 G) (.slice c k cc)
      have r0 := hd1.r.c0
      have r1 := hd1.r.c1
      have r2 := hd1.r.c2
      have Q := Lib.hid (three_set r0 r1 r2 (.int .i64 D) (.int .i64 G) (.slice c k cc))
      have f0 := hd1.f 0 (by omega)
      have f1 := hd1.f 1 (by omega)
      have f2 := hd1.f 2 (by omega)
      have HAT := Lib.hid hat2
      have HL := Lib.hid hl2
      have HF := Lib.hid (hf.mono HD.out.lat.size)
      clear hat hf hb1 hd1 hsz hat2 hl2 q0 q1 q2 q3
      go_wp2
      exact bodyPost_ret (v := .tuple #[picV D G c k cc, errv E]) (by simp [results, Tryz.results41, go_sem, Q.out.1, Q.out.2.1, Q.out.2.2]) rfl ⟨c, k, cc, rfl, HAT.out, HF.out, HL.out⟩
end Go.Proofs.YtheimfdbadjpoaaGreatDoor

