/- The contracts of package air: Give, Lose, Twice, All for every input. -/
import Derived.Test.YtooepflfofgnnaaDoorAir2
import Derived.Test.YtooepflfofgnnaaDoorAirAll
namespace Go.Proofs.YtooepflfofgnnaaDoor
open Go.ChangeShapes Go.WideShapes Go.ChangeAt Go.RowKit

set_option maxRecDepth 100000
theorem air_give_no (S : Nat → Prop) (p : Nat) (ds : List Dr) (i : Int) (w : World) (h : AirO S p ds w) (hi : inA ds i = false) :
    Calls Tryd.prog 24 #[.pointer (some ⟨p, 0, none⟩), .int .i64 i] w fun e w' => e = .returned (.tuple #[.agg #[.int .i64 0, .string .empty], eno 1]) ∧ AirStep S p ds w w' := by
  obtain ⟨a, cap, hc, _, _⟩ := h.row
  have b0 := Lat.alloc w (.cells #[.int .i64 0, .string .empty] 24)
  have hhas := air_has p a ds.length cap i _ (b0.cell_at hc)
  rw [show decide (0 ≤ i ∧ i < (ds.length : Int)) = false from hi] at hhas
  have hst := AirStep.keep h b0
  have HH := Lib.hid hhas; have HST := Lib.hid hst
  clear h hi hc b0 hhas hst
  go_enter Tryd.func24, Tryd.ntmps24
  go_wp2_with (go_at_call 55; refine HH.out.mono ?_; rintro e w' ⟨rfl, rfl⟩)
  exact bodyPost_ret (v := .tuple #[.agg #[.int .i64 0, .string .empty], eno 1]) (by simp [results, Tryd.results24, go_sem]; rfl) rfl ⟨rfl, HST.out⟩
theorem air_give (S : Nat → Prop) (p : Nat) (ds : List Dr) (i : Int) (w : World) (h : AirO S p ds w) (hlen : ds.length ≤ 1000000) :
    Calls Tryd.prog 24 #[.pointer (some ⟨p, 0, none⟩), .int .i64 i] w fun e w' => e = .returned (.tuple #[(giV ds i).v, errv (giE ds i)]) ∧ AirStep S p (giD ds i) w w' := by
  by_cases hi : inA ds i = true
  · obtain ⟨k, rfl, hk⟩ := inA_yes hi
    rw [giV, giE, giD, if_pos hi, if_pos hi, if_pos hi]
    exact air_give_yes S p ds k w h hk hlen
  · rw [giV, giE, giD, if_neg hi, if_neg hi, if_neg hi]
    exact air_give_no S p ds i w h (by simpa using hi)
theorem air_lose (S : Nat → Prop) (p : Nat) (ds : List Dr) (i : Int) (w : World) (h : AirO S p ds w) (hlen : ds.length ≤ 1000000) :
    Calls Tryd.prog 22 #[.pointer (some ⟨p, 0, none⟩), .int .i64 i] w fun e w' => e = .returned (errv (giE ds i)) ∧ AirStep S p (giD ds i) w w' := by
  have hc := air_give S p ds i w h hlen
  obtain ⟨V, hV⟩ : ∃ V, V = giV ds i := ⟨_, rfl⟩
  obtain ⟨E, hE⟩ : ∃ E, E = giE ds i := ⟨_, rfl⟩
  rw [← hV, ← hE] at hc
  rw [← hE]
  obtain ⟨s, t⟩ := V
  have HC := Lib.hid hc
  clear hc hV hE h hlen
  go_enter Tryd.func22, Tryd.ntmps22
  go_wp2_with (go_at_call 24; refine HC.out.mono ?_; rintro e w1 ⟨rfl, hst⟩)
  go_ret
  exact ⟨rfl, hst.next (Lat.alloc _ _)⟩

/-- what is wrong with a number that is to be sent again; what is in the air then -/
def twE (ds : List Dr) (i : Int) : Nat := if inA ds i = true then snE ds (giV ds i) else 1
def twD (ds : List Dr) (i : Int) : List Dr := if inA ds i = true then snD ds (giV ds i) else ds
theorem air_twice (S : Nat → Prop) (p : Nat) (ds : List Dr) (i : Int) (w : World) (h : AirO S p ds w) :
    Calls Tryd.prog 23 #[.pointer (some ⟨p, 0, none⟩), .int .i64 i] w fun e w' => e = .returned (errv (twE ds i)) ∧ AirStep S p (twD ds i) w w' := by
  by_cases hi : inA ds i = true
  · obtain ⟨k, rfl, hk⟩ := inA_yes hi
    rw [twE, twD, if_pos hi, if_pos hi]
    have hs := air_send S p ds (giV ds k) w h
    have hV : giV ds k = ds.getD k ⟨0, .empty⟩ := by rw [giV, if_pos hi]; rfl
    have hd : ds[k]? = some (giV ds k) := by rw [hV, List.getD_eq_getElem?_getD, List.getElem?_eq_getElem hk]; rfl
    obtain ⟨b, cap, hc, _, _, _, hnc, hcm, hcell⟩ := row_cells h hk
    obtain ⟨c0, c1⟩ := hcell k _ hd
    obtain ⟨V, hV2⟩ : ∃ V, V = giV ds k := ⟨_, rfl⟩
    obtain ⟨E, hE⟩ : ∃ E, E = snE ds (giV ds k) := ⟨_, rfl⟩
    rw [← hE] at hs ⊢
    rw [← hV2] at hs c0 c1 ⊢
    have hhas := air_has p _ ds.length cap k w hc
    rw [show decide (0 ≤ (k : Int) ∧ (k : Int) < (ds.length : Int)) = true from hi] at hhas
    obtain ⟨n, hn⟩ : ∃ n, n = ds.length := ⟨_, rfl⟩
    rw [← hn] at hc hk hnc
    obtain ⟨s, t⟩ := V
    simp only at hs c0 c1
    have i1 : (0 : Int) ≤ (k : Int) := by omega
    have i2 : (k : Int) < (n : Int) := by omega
    unfold maxLen at hcm
    have HS := Lib.hid hs; have HH := Lib.hid hhas
    clear h hi hn hV hV2 hE hd hcell hs hhas
    go_enter Tryd.func23, Tryd.ntmps23
    go_wp2_with (first | (go_at_call 55; refine HH.out.mono ?_; rintro e w' ⟨rfl, rfl⟩) | (go_at_call 20; refine HS.out.mono ?_; rintro e w' ⟨rfl, hst⟩))
    go_ret
    exact ⟨rfl, hst⟩
  · rw [twE, twD, if_neg hi, if_neg hi]
    obtain ⟨a, cap, hc, _, _⟩ := h.row
    have hhas := air_has p a ds.length cap i w hc
    rw [show decide (0 ≤ i ∧ i < (ds.length : Int)) = false from by simpa [inA] using hi] at hhas
    have HH := Lib.hid hhas; have HST := Lib.hid h
    clear h hi hc hhas
    go_enter Tryd.func23, Tryd.ntmps23
    go_wp2_with (go_at_call 55; refine HH.out.mono ?_; rintro e w' ⟨rfl, rfl⟩)
    go_ret
    exact ⟨rfl, AirStep.keep HST.out (Lat.refl _)⟩

theorem air_all (S : Nat → Prop) (p : Nat) (ds : List Dr) (w : World) (h : AirO S p ds w) (hlen : ds.length ≤ 1000000) (hwf : ∀ d ∈ ds, I64 d.s) :
    Calls Tryd.prog 21 #[.pointer (some ⟨p, 0, none⟩)] w fun e w' => ∃ a cap, e = .returned (.slice a ds.length cap) ∧ IntsAt w' a ds.length cap (ds.map Dr.s) ∧ Lat w w' := by
  obtain ⟨a, cap, hc, ho, _⟩ := h.row
  obtain ⟨a', cap', hv, hr⟩ := OwnR.slice ho (show (ds.map Dr.row).length = ds.length by rw [List.length_map])
  injection hv with e1 e2 e3
  subst e1
  subst e3
  exact air_all_at p a ds.length cap ds w hc hr rfl hlen hwf
end Go.Proofs.YtooepflfofgnnaaDoor
