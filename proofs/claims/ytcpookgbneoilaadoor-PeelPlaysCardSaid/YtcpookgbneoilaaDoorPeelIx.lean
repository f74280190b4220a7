/- slices.IndexFunc over waiting drops: which is the first that is of one block; slices.Sort of none. -/
import Derived.Test.YtcpookgbneoilaaDoorPeelM
import Derived.Test.YtcpookgbneoilaaDoorSort
import Derived.Shelf.Slices.In.SortNone
namespace Go.Proofs.YtcpookgbneoilaaDoor
open Go.ChangeShapes Go.WideShapes Go.ChangeAt Go.RowKit

theorem sort_none (a : Option Addr) (cap : Nat) (w : World) : Calls Tryd.prog 55 #[.slice a 0 cap] w fun e w' => e = .returned (.tuple #[]) ∧ w' = w :=
  Any.slices_Sort_int_none Tryd.lays189 a cap w
theorem learn1_any (a : Option Addr) (n c : Nat) (s : ByteArray) (w : World) :
    Calls Tryd.prog 58 #[.agg #[.slice a n c, .string s]] w fun e w' => e = .returned (.bool (decide (n = 1))) ∧ Lat w w' := by
  obtain ⟨b, hb⟩ : ∃ b, b = decide (n = 1) := ⟨_, rfl⟩
  have h1 : ((n : Int) == 1) = b := by
    rw [hb]
    by_cases h : n = 1
    · subst h; rfl
    · rw [decide_eq_false h]; exact beq_eq_false_iff_ne.2 (by omega)
  rw [← hb]
  clear hb
  go_enter Tryd.func58, Tryd.ntmps58
  go_wp2
  go_ret
  exact ⟨rfl, Lat.alloc _ _⟩
/-- Which is the first. -/
def IxEnd (L : List Wt) (r : Int) : Prop := (r = -1 ∧ ∀ (j : Nat) (x : Wt), L[j]? = some x → one1 x = false) ∨ ∃ (i : Nat) (x : Wt), r = i ∧ L[i]? = some x ∧ one1 x = true ∧ ∀ j, j < i → ∀ y, L[j]? = some y → one1 y = false

set_option maxHeartbeats 1000000 in
theorem indexW0 (F : Nat) (eF : ∀ args w, (callFunc F args).run Tryd.prog w = .ok (.enter F args) w) (hF : ∀ (a : Option Addr) (n c : Nat) (s : ByteArray) (w : World), Calls Tryd.prog F #[.agg #[.slice a n c, .string s]] w fun e w' => e = .returned (.bool (decide (n = 1))) ∧ Lat w w') (N G : Nat → Prop) (a : Option Addr) (n cap : Nat) (rows : List (List Value)) (L : List Wt) (w : World) (h : RowsAt w 2 a n cap rows) (hw : WtsAt w N G rows L) (hn : n ≤ 1000000) :
    Calls Tryd.prog 57 #[.slice a n cap, .func (.func F) #[] #[]] w fun e w' => ∃ r : Int, e = .returned (.int .i64 r) ∧ IxEnd L r ∧ Lat w w' := by
  have hcap2 := h.cap
  have hle2 := h.le
  have hl : L.length = n := by rw [← hw.1]; exact h.len
  unfold maxLen at hcap2
  have H := Lib.hid h; have HW := Lib.hid hw; have HL := Lib.hid hl; have HF := Lib.hid hF
  clear h hw hl hF
  go_enter Tryd.func57, Tryd.ntmps57
  go_wp2
  go_loopw [8] (fun i wr => ∃ k : Nat, k ≤ n ∧ i = .int .i64 k ∧ Hid ((∀ j, j < k → ∀ y, L[j]? = some y → one1 y = false) ∧ Lat w wr)) (fun i _ => n - (intOf i).toNat)
  case atStart => exact ⟨0, Nat.zero_le _, rfl, fun j hj => absurd hj (Nat.not_lt_zero _), Lat.refl _⟩
  case round =>
    obtain ⟨k, hk, rfl, hrel⟩ := hrel
    by_cases hlt : k < n
    · obtain ⟨b, o, rfl, hc⟩ := (H.out.keep hrel.out.2).at_ (by omega)
      have hkl : k < L.length := by rw [HL.out]; exact hlt
      obtain ⟨x, hx⟩ : ∃ x, x = L[k] := ⟨_, rfl⟩
      have hx2 : L[k]? = some x := by rw [hx]; exact List.getElem?_eq_getElem hkl
      obtain ⟨r, hr, hwt⟩ := (HW.out.keep hrel.out.2).2 k x hx2
      obtain ⟨xa, xc, rfl, hxi, _, _⟩ := hwt.ex
      have c0 := (hc k _ hr).2 0 _ rfl
      have c1 := (hc k _ hr).2 1 _ rfl
      rw [Nat.add_zero] at c0
      rw [← Nat.add_assoc] at c1
      have hcall := HF.out xa x.1.length xc (S x.2)
      obtain ⟨q, hq⟩ : ∃ q, q = decide (x.1.length = 1) := ⟨_, rfl⟩
      have hq1 : one1 x = q := hq.symm
      rw [← hq] at hcall
      obtain ⟨xn, hxn⟩ : ∃ xn, xn = x.1.length := ⟨_, rfl⟩
      obtain ⟨xs, hxs⟩ : ∃ xs, xs = S x.2 := ⟨_, rfl⟩
      rw [← hxn, ← hxs] at hcall
      rw [← hxn] at c0
      rw [← hxs] at c1
      have HX := Lib.hid hx2; have HQ := Lib.hid hq1; have HR := Lib.hid hrel.out; have HC := Lib.hid hcall
      clear hx hx2 hr hwt hxi hc hq hq1 hrel hcall hxn hxs hkl
      cases q with
      | true =>
        go_wp2_with (go_at_fn F; refine (HC.out _).mono ?_; rintro e w5 ⟨rfl, hb5⟩)
        go_ret
        exact ⟨k, rfl, .inr ⟨k, x, rfl, HX.out, HQ.out, HR.out.1⟩, HR.out.2.trans hb5⟩
      | false =>
        go_wp2_with (go_at_fn F; refine (HC.out _).mono ?_; rintro e w5 ⟨rfl, hb5⟩)
        go_roundw
        case rel => exact ⟨k + 1, by omega, by go_num, fun j hj y hy => by
          by_cases e : j = k
          · subst e
            have := HX.out.symm.trans hy
            injection this with this
            subst this
            exact HQ.out
          · exact HR.out.1 j (by omega) y hy, HR.out.2.trans hb5⟩
        case measure => simp [intOf]; omega
    · obtain rfl : k = n := by omega
      have HR := Lib.hid hrel.out
      clear hrel
      go_wp2
      go_ret
      exact ⟨-1, rfl, .inl ⟨rfl, fun j x hx => HR.out.1 j (by
        rcases Nat.lt_or_ge j k with h | h
        · exact h
        · rw [List.getElem?_eq_none (by rw [HL.out]; exact h)] at hx; cases hx) x hx⟩, HR.out.2⟩
theorem indexW (N G : Nat → Prop) (a : Option Addr) (n cap : Nat) (rows : List (List Value)) (L : List Wt) (w : World) (h : RowsAt w 2 a n cap rows) (hw : WtsAt w N G rows L) (hn : n ≤ 1000000) :
    Calls Tryd.prog 57 #[.slice a n cap, .func (.func 58) #[] #[]] w fun e w' => ∃ r : Int, e = .returned (.int .i64 r) ∧ IxEnd L r ∧ Lat w w' :=
  indexW0 _ (enters_of Tryd.func58 (by kernel_rfl) rfl) learn1_any N G a n cap rows L w h hw hn
end Go.Proofs.YtcpookgbneoilaaDoor
