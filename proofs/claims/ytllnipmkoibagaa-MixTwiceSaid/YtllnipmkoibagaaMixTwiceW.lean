/- The walk of MixTwice: it returns true, whatever the three strings. -/
import Derived.Test.YtllnipmkoibagaaZero
namespace Go.Proofs.Ytllnipmkoibagaa
open Go.ChangeShapes Go.WideShapes Go.ChangeAt Go.RowKit

theorem mixTwice_fact (w : World) : Calls Try.prog 15 #[.string { data := #[97] }, .string { data := #[98] }] w fun e w' => e = .returned (.tuple #[.string { data := #[3] }, .nilIface]) ∧ Lat w w' :=
  xorS_ok [97] [98] [3] w (by decide) rfl (by decide)

set_option maxHeartbeats 1000000 in
set_option maxRecDepth 100000 in
theorem walk_mixTwiceS (a b c : List UInt8) (w : World) :
    Calls Try.prog 3 #[.string (S a), .string (S b), .string (S c)] w fun e w' => e = .returned (.bool true) ∧ Lat w w' := by
  go_enter Try.func3, Try.ntmps3
  go_wp2_with fail
  refine (mixTwice_fact _).mono ?_
  rintro e w1 ⟨rfl, hb1⟩
  go_wp2_with fail
  by_cases h1 : 120 < a.length ∨ 120 < b.length
  · refine (xorS_full a b _ h1).mono ?_
    rintro e w2 ⟨rfl, hb2⟩
    go_wp2
    go_ret
    exact ⟨rfl, Lat.trans hb1 hb2⟩
  have ha : a.length ≤ 120 := by omega
  have hbl : b.length ≤ 120 := by omega
  by_cases h2 : a.length = b.length
  case neg =>
    refine (xorS_shape a b _ ha hbl h2).mono ?_
    rintro e w2 ⟨rfl, hb2⟩
    go_wp2
    go_ret
    exact ⟨rfl, Lat.trans hb1 hb2⟩
  obtain ⟨x, hx⟩ : ∃ x, xorL a b = x := ⟨_, rfl⟩
  have lx : x.length = a.length := by rw [← hx]; exact xorL_length a b h2
  have H2 := Lib.hid h2; have HX := Lib.hid hx; have HL := Lib.hid lx; clear h2 hx lx
  refine (xorS_ok a b x _ ha H2.out HX.out).mono ?_
  rintro e w2 ⟨rfl, hb2⟩
  go_wp2_with fail
  refine (xorS_ok x b a _ (by rw [HL.out]; exact ha) (by rw [HL.out]; exact H2.out) (by rw [← HX.out]; exact xorL_back a b H2.out)).mono ?_
  rintro e w3 ⟨rfl, hb3⟩
  go_wp2_with fail
  refine (xorS_ok b a x _ hbl H2.out.symm (by rw [xorL_comm]; exact HX.out)).mono ?_
  rintro e w4 ⟨rfl, hb4⟩
  go_wp2_with fail
  refine (xorS_ok a a (noughts a.length) _ ha rfl (xorL_self a)).mono ?_
  rintro e w5 ⟨rfl, hb5⟩
  go_wp2_with fail
  refine (zero_any a.length _ (by omega)).mono ?_
  rintro e w6 ⟨rfl, hb6⟩
  go_wp2_with fail
  have hb06 : Lat w w6 := Lat.trans (Lat.trans (Lat.trans (Lat.trans (Lat.trans hb1 hb2) hb3) hb4) hb5) hb6
  by_cases h3 : 120 < b.length ∨ 120 < c.length
  · refine (xorS_full b c _ h3).mono ?_
    rintro e w7 ⟨rfl, hb7⟩
    go_wp2
    go_ret
    exact ⟨rfl, Lat.trans hb06 hb7⟩
  by_cases h4 : b.length = c.length
  case neg =>
    refine (xorS_shape b c _ hbl (by omega) h4).mono ?_
    rintro e w7 ⟨rfl, hb7⟩
    go_wp2
    go_ret
    exact ⟨rfl, Lat.trans hb06 hb7⟩
  obtain ⟨p, hp⟩ : ∃ p, xorL b c = p := ⟨_, rfl⟩
  have lp : p.length = b.length := by rw [← hp]; exact xorL_length b c h4
  have H4 := Lib.hid h4; have HP := Lib.hid hp; have HLP := Lib.hid lp; clear h4 hp lp
  refine (xorS_ok b c p _ hbl H4.out HP.out).mono ?_
  rintro e w7 ⟨rfl, hb7⟩
  go_wp2_with fail
  refine (xorS_ok a p (xorL a p) _ ha (by rw [HLP.out]; exact H2.out) rfl).mono ?_
  rintro e w8 ⟨rfl, hb8⟩
  go_wp2_with fail
  refine (xorS_ok x c (xorL a p) _ (by rw [HL.out]; exact ha) (by rw [HL.out, ← H4.out]; exact H2.out) (by rw [← HX.out, xorL_assoc, HP.out])).mono ?_
  rintro e w9 ⟨rfl, hb9⟩
  go_wp2
  go_ret
  exact ⟨rfl, Lat.trans (Lat.trans (Lat.trans hb06 hb7) hb8) hb9⟩

theorem walk_mixTwice (a b c : ByteArray) (w : World) (_ : a.size ≤ maxLen) (_ : b.size ≤ maxLen) (_ : c.size ≤ maxLen) :
    Calls Try.prog 3 #[.string a, .string b, .string c] w fun e w' => e = .returned (.bool true) ∧ Lat w w' := by
  obtain ⟨a, rfl⟩ := S_of a
  obtain ⟨b, rfl⟩ := S_of b
  obtain ⟨c, rfl⟩ := S_of c
  exact walk_mixTwiceS a b c w
end Go.Proofs.Ytllnipmkoibagaa
