/- The contracts of film.check, film.told: one answer whatever is asked. -/
import Derived.Test.YtooepflfofgnnaaDoorMovSame
import Derived.Test.YtooepflfofgnnaaDoorAloneSame
import Derived.Test.YtooepflfofgnnaaDoorQuiet
namespace Go.Proofs.YtooepflfofgnnaaDoor
open Go.ChangeShapes Go.WideShapes Go.ChangeAt Go.RowKit

def fchkE (n : Nat) : Nat := if n = 0 then 5 else if 6 < n then 4 else 0
theorem fcheck_any (n : Nat) (w : World) :
    Calls Tryd.prog 90 #[.int .i64 n] w fun e w' => e = .returned (errv (fchkE n)) ∧ w = w' := by
  have hd : (((n : Int) == 0) = true ∧ fchkE n = 5) ∨ (((n : Int) == 0) = false ∧ decide (6 < (n : Int)) = true ∧ fchkE n = 4) ∨ (((n : Int) == 0) = false ∧ decide (6 < (n : Int)) = false ∧ fchkE n = 0) := by
    unfold fchkE
    by_cases h0 : n = 0
    · exact .inl ⟨beq_iff_eq.2 (by omega), if_pos h0⟩
    · by_cases h6 : 6 < n
      · exact .inr (.inl ⟨beq_eq_false_iff_ne.2 (by omega), decide_eq_true (by omega), by rw [if_neg h0, if_pos h6]⟩)
      · exact .inr (.inr ⟨beq_eq_false_iff_ne.2 (by omega), decide_eq_false (by omega), by rw [if_neg h0, if_neg h6]⟩)
  rcases hd with ⟨d1, e⟩ | ⟨d1, d2, e⟩ | ⟨d1, d2, e⟩
  · rw [e, errv_pos (by omega)]
    clear e
    go_enter Tryd.func90, Tryd.ntmps90
    go_wp2
    go_ret
    exact ⟨rfl, rfl⟩
  · rw [e, errv_pos (by omega)]
    clear e
    go_enter Tryd.func90, Tryd.ntmps90
    go_wp2
    go_ret
    exact ⟨rfl, rfl⟩
  · rw [e, errv_zero rfl]
    clear e
    go_enter Tryd.func90, Tryd.ntmps90
    go_wp2
    go_ret
    exact ⟨rfl, rfl⟩

/-- What is told of a coded picture behind another: what is wrong, how wide, how high, the pixels. -/
def tldE (wd hg : Int) (zs : List Int) (W H s : Int) (al : Bool) (x y : Int) (rs : List Int) : Nat := if al = false then behE wd hg zs al x y rs s else if x ≠ 0 ∨ y ≠ 0 then 3 else dcE W H s rs
def tldD (wd hg : Int) (zs : List Int) (W H s : Int) (al : Bool) (x y : Int) (rs : List Int) : Int := if al = false then behD wd hg zs al x y rs s else if x ≠ 0 ∨ y ≠ 0 then 0 else tolD W H s rs
def tldG (wd hg : Int) (zs : List Int) (W H s : Int) (al : Bool) (x y : Int) (rs : List Int) : Int := if al = false then behG wd hg zs al x y rs s else if x ≠ 0 ∨ y ≠ 0 then 0 else tolG W H s rs
def tldR (wd hg : Int) (zs : List Int) (W H s : Int) (al : Bool) (x y : Int) (rs : List Int) : List Int := if al = false then behR wd hg zs al x y rs s else if x ≠ 0 ∨ y ≠ 0 then [] else tolR W H s rs
theorem mdecode_sameF (wd hg : Int) (a : Option Addr) (n cap : Nat) (zs : List Int) (al : Bool) (x y : Int) (b : Option Addr) (m cap2 : Nat) (rs : List Int) (s : Int) (w : World) (h : IntsAt w a n cap zs) (h2 : IntsAt w b m cap2 rs) :
    Calls Tryd.prog 111 #[picV wd hg a n cap, codV al x y b m cap2, .int .i64 s] w fun e w' => ∃ c k cc, e = .returned (.tuple #[picV (behD wd hg zs al x y rs s) (behG wd hg zs al x y rs s) c k cc, errv (behE wd hg zs al x y rs s)]) ∧ IntsAt w' c k cc (behR wd hg zs al x y rs s) ∧ Fresh w c k ∧ Lat w w' := by
  refine (mdecode_tot wd hg a n cap zs al x y b m cap2 rs s w h h2).mono ?_
  rintro e w' ⟨d, g, c, k, cc, L, rfl, hat, h0, h1, hf, hb⟩
  unfold behR behD behG
  by_cases he : behE wd hg zs al x y rs s = 0
  · obtain ⟨rfl, rfl, rfl, rfl⟩ := h0 he
    rw [if_pos he, if_pos he, if_pos he]
    exact ⟨c, k, cc, rfl, by rw [h.len]; exact hat, hf, hb⟩
  · obtain ⟨rfl, rfl, rfl, rfl⟩ := h1 he
    rw [if_neg he, if_neg he, if_neg he]
    exact ⟨c, 0, cc, rfl, hat, hf, hb⟩
theorem decode_sameF (wd hg s : Int) (a : Option Addr) (n cap : Nat) (rs : List Int) (w : World) (h : IntsAt w a n cap rs) :
    Calls Tryd.prog 112 #[.int .i64 wd, .int .i64 hg, .int .i64 s, .slice a n cap] w fun e w' => ∃ b m c, e = .returned (.tuple #[picV (tolD wd hg s rs) (tolG wd hg s rs) b m c, errv (dcE wd hg s rs)]) ∧ IntsAt w' b m c (tolR wd hg s rs) ∧ Fresh w b m ∧ Lat w w' := by
  unfold tolD tolG tolR
  by_cases he : dcE wd hg s rs = 0
  · rw [if_pos he, if_pos he, if_pos he, he, errv_zero rfl]
    refine (decode_okF wd hg s a n cap rs w h he).mono ?_
    rintro e w' ⟨b, c, rfl, hat, hf, hb⟩
    exact ⟨b, n, c, rfl, by rw [h.len]; exact hat, hf, hb⟩
  · rw [if_neg he, if_neg he, if_neg he, errv_pos he]
    refine (decode_bad wd hg s a n cap rs w h he).mono ?_
    rintro e w' ⟨rfl, hb⟩
    exact ⟨none, 0, 0, rfl, IntsAt.nil _, fun _ _ _ _ _ hn => absurd rfl hn, hb⟩

set_option maxHeartbeats 2000000 in
set_option maxRecDepth 100000 in
theorem told_any (wd hg : Int) (a : Option Addr) (n cap : Nat) (zs : List Int) (W H s : Int) (al : Bool) (x y : Int) (b : Option Addr) (m cap2 : Nat) (rs : List Int) (w : World) (h : IntsAt w a n cap zs) (h2 : IntsAt w b m cap2 rs) :
    Calls Tryd.prog 93 #[picV wd hg a n cap, .int .i64 W, .int .i64 H, .int .i64 s, codV al x y b m cap2] w fun e w' => ∃ c k cc, e = .returned (.tuple #[picV (tldD wd hg zs W H s al x y rs) (tldG wd hg zs W H s al x y rs) c k cc, errv (tldE wd hg zs W H s al x y rs)]) ∧ IntsAt w' c k cc (tldR wd hg zs W H s al x y rs) ∧ Fresh w c k ∧ Lat w w' := by
  obtain ⟨W0, hW0⟩ : ∃ X, X = ((w.alloc (.cells #[.int .i64 wd, .int .i64 hg, .slice a n cap] 132)).alloc (.cells #[.bool al, .int .i64 x, .int .i64 y, .slice b m cap2] 110)).alloc (.cells #[.int .i64 0, .int .i64 0, .slice none 0 0] 132) := ⟨_, rfl⟩
  have hd := dw_open w wd hg a n cap al x y b m cap2
  rw [← hW0] at hd
  have q0 := hd.q.c0
  have q1 := hd.q.c1
  have q2 := hd.q.c2
  have q3 := hd.q.c3
  have HD := Lib.hid hd
  cases al with
  | false =>
    have hc := mdecode_sameF wd hg a n cap zs false x y b m cap2 rs s W0 (h.keep hd.lat) (h2.keep hd.lat)
    have e1 : tldE wd hg zs W H s false x y rs = behE wd hg zs false x y rs s := if_pos rfl
    have e2 : tldD wd hg zs W H s false x y rs = behD wd hg zs false x y rs s := if_pos rfl
    have e3 : tldG wd hg zs W H s false x y rs = behG wd hg zs false x y rs s := if_pos rfl
    have e4 : tldR wd hg zs W H s false x y rs = behR wd hg zs false x y rs s := if_pos rfl
    rw [e1, e2, e3, e4]
    obtain ⟨E, hE⟩ : ∃ E, E = behE wd hg zs false x y rs s := ⟨_, rfl⟩
    obtain ⟨D, hD⟩ : ∃ E, E = behD wd hg zs false x y rs s := ⟨_, rfl⟩
    obtain ⟨G, hG⟩ : ∃ E, E = behG wd hg zs false x y rs s := ⟨_, rfl⟩
    obtain ⟨R, hR⟩ : ∃ E, E = behR wd hg zs false x y rs s := ⟨_, rfl⟩
    rw [← hE, ← hD, ← hG, ← hR] at hc ⊢
    have p0 := hd.p.c0
    have p1 := hd.p.c1
    have p2 := hd.p.c2
    have HC := Lib.hid hc
    clear hc hd h h2 e1 e2 e3 e4 hE hD hG hR
    go_enter Tryd.func93, Tryd.ntmps93
    go_upto_region 1 with fail
    rw [← hW0]
    clear hW0
    go_wp2_with fail
    refine HC.out.mono ?_
    rintro e w1 ⟨c, k, cc, rfl, hat, hf, hb1⟩
    have hd1 := HD.out.keep hb1
    have hsz : w.heap.size + 1 + 1 < W0.heap.size := HD.out.sz
    have hat2 := ints_three (g := w.heap.size + 1 + 1) hat (hf _ hsz) (.int .i64 D) (.int .i64 G) (.slice c k cc)
    have hl2 := lat_three (g := w.heap.size + 1 + 1) hd1.lat (by omega) (.int .i64 D) (.int .i64 G) (.slice c k cc)
    have r0 := hd1.r.c0
    have r1 := hd1.r.c1
    have r2 := hd1.r.c2
    have Q := Lib.hid (three_set r0 r1 r2 (.int .i64 D) (.int .i64 G) (.slice c k cc))
    have f0 := hd1.f 0 (by omega)
    have f1 := hd1.f 1 (by omega)
    have f2 := hd1.f 2 (by omega)
    have HAT := Lib.hid hat2
    have HL := Lib.hid hl2
    have HF := Lib.hid (hf.mono HD.out.lat.size)
    clear hat hf hb1 hd1 hsz hat2 hl2 p0 p1 p2 q0 q1 q2 q3
    go_wp2
    exact bodyPost_ret (v := .tuple #[picV D G c k cc, errv E]) (by simp [results, Tryd.results93, go_sem, Q.out.1, Q.out.2.1, Q.out.2.2]) rfl ⟨c, k, cc, rfl, HAT.out, HF.out, HL.out⟩
  | true =>
    have hq : (x ≠ 0 ∨ y ≠ 0) ∨ (x = 0 ∧ y = 0) := by omega
    rcases hq with hq | ⟨rfl, rfl⟩
    · have e1 : tldE wd hg zs W H s true x y rs = 3 := by unfold tldE; rw [if_neg (by simp), if_pos hq]
      have e2 : tldD wd hg zs W H s true x y rs = 0 := by unfold tldD; rw [if_neg (by simp), if_pos hq]
      have e3 : tldG wd hg zs W H s true x y rs = 0 := by unfold tldG; rw [if_neg (by simp), if_pos hq]
      have e4 : tldR wd hg zs W H s true x y rs = [] := by unfold tldR; rw [if_neg (by simp), if_pos hq]
      rw [e1, e2, e3, e4, show errv 3 = eno 3 from errv_pos (by omega)]
      have f0 := hd.f 0 (by omega)
      have f1 := hd.f 1 (by omega)
      have f2 := hd.f 2 (by omega)
      have p0 := hd.p.c0
      have p1 := hd.p.c1
      have p2 := hd.p.c2
      have r0 := hd.r.c0
      have r1 := hd.r.c1
      have r2 := hd.r.c2
      have Q := Lib.hid (three_set r0 r1 r2 (.int .i64 0) (.int .i64 0) (.slice none 0 0))
      have HL := Lib.hid (lat_three (g := w.heap.size + 1 + 1) hd.lat (by omega) (.int .i64 0) (.int .i64 0) (.slice none 0 0))
      clear hd h h2 e1 e2 e3 e4
      have hq2 : x ≠ 0 ∨ (x = 0 ∧ y ≠ 0) := by omega
      clear hq
      rcases hq2 with hx | ⟨rfl, hy⟩
      all_goals
       go_enter Tryd.func93, Tryd.ntmps93
       go_upto_region 1 with fail
       rw [← hW0]
       clear hW0
       go_wp2_with fail
       exact bodyPost_ret (v := .tuple #[picV 0 0 none 0 0, eno 3]) (by simp [results, Tryd.results93, go_sem, Q.out.1, Q.out.2.1, Q.out.2.2]) rfl ⟨none, 0, 0, rfl, IntsAt.nil _, fun _ _ _ _ _ hn => absurd rfl hn, HL.out⟩
    · have hc := decode_sameF W H s b m cap2 rs W0 (h2.keep hd.lat)
      have e1 : tldE wd hg zs W H s true 0 0 rs = dcE W H s rs := by unfold tldE; rw [if_neg (by simp), if_neg (by simp)]
      have e2 : tldD wd hg zs W H s true 0 0 rs = tolD W H s rs := by unfold tldD; rw [if_neg (by simp), if_neg (by simp)]
      have e3 : tldG wd hg zs W H s true 0 0 rs = tolG W H s rs := by unfold tldG; rw [if_neg (by simp), if_neg (by simp)]
      have e4 : tldR wd hg zs W H s true 0 0 rs = tolR W H s rs := by unfold tldR; rw [if_neg (by simp), if_neg (by simp)]
      rw [e1, e2, e3, e4]
      obtain ⟨E, hE⟩ : ∃ E, E = dcE W H s rs := ⟨_, rfl⟩
      obtain ⟨D, hD⟩ : ∃ E, E = tolD W H s rs := ⟨_, rfl⟩
      obtain ⟨G, hG⟩ : ∃ E, E = tolG W H s rs := ⟨_, rfl⟩
      obtain ⟨R, hR⟩ : ∃ E, E = tolR W H s rs := ⟨_, rfl⟩
      rw [← hE, ← hD, ← hG, ← hR] at hc ⊢
      have HC := Lib.hid hc
      clear hc hd h h2 e1 e2 e3 e4 hE hD hG hR
      go_enter Tryd.func93, Tryd.ntmps93
      go_upto_region 1 with fail
      rw [← hW0]
      clear hW0
      go_wp2_with fail
      refine HC.out.mono ?_
      rintro e w1 ⟨c, k, cc, rfl, hat, hf, hb1⟩
      have hd1 := HD.out.keep hb1
      have hsz : w.heap.size + 1 + 1 < W0.heap.size := HD.out.sz
      have hat2 := ints_three (g := w.heap.size + 1 + 1) hat (hf _ hsz) (.int .i64 D) (.int .i64 G) (.slice c k cc)
      have hl2 := lat_three (g := w.heap.size + 1 + 1) hd1.lat (by omega) (.int .i64 D) (.int .i64 G) (.slice c k cc)
      have r0 := hd1.r.c0
      have r1 := hd1.r.c1
      have r2 := hd1.r.c2
      have Q := Lib.hid (three_set r0 r1 r2 (.int .i64 D) (.int .i64 G) (.slice c k cc))
      have f0 := hd1.f 0 (by omega)
      have f1 := hd1.f 1 (by omega)
      have f2 := hd1.f 2 (by omega)
      have HAT := Lib.hid hat2
      have HL := Lib.hid hl2
      have HF := Lib.hid (hf.mono HD.out.lat.size)
      clear hat hf hb1 hd1 hsz hat2 hl2 q0 q1 q2 q3
      go_wp2
      exact bodyPost_ret (v := .tuple #[picV D G c k cc, errv E]) (by simp [results, Tryd.results93, go_sem, Q.out.1, Q.out.2.1, Q.out.2.2]) rfl ⟨c, k, cc, rfl, HAT.out, HF.out, HL.out⟩
end Go.Proofs.YtooepflfofgnnaaDoor
