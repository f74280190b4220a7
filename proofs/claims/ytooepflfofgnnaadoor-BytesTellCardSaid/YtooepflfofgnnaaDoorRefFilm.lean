/- The document's words on films: what is wrong with pictures, and pictures coded. -/
import Derived.Test.YtooepflfofgnnaaDoorFilmRow
import Derived.Test.YtooepflfofgnnaaDoorRefSame
import Derived.Test.YtooepflfofgnnaaDoorRefPic
import Derived.Test.YtooepflfofgnnaaDoorFilmEnc
import Derived.StillTailTactics
import Derived.Test.YtooepflfofgnnaaDoorGate2
import Derived.Deep.DeepCutAuto
import Derived.Deep.CutBlock
namespace Go.Proofs.YtooepflfofgnnaaDoor
open Go.ChangeShapes Go.WideShapes Go.ChangeAt Go.RowKit

theorem FInv.onlyNew {g gc : Nat} {W1 wr wr' : World} {v : Value} {L : Pt} {la : Option Addr} {ln lc : Nat} {cs : List Cd} (h : FInv g W1 wr v L la ln lc cs) (ho : Only gc wr wr') (h1 : g ≠ gc) (h2 : W1.heap.size ≤ gc) (hv : v.ownBlock ≠ some gc)
    (hl : ln ≠ 0 → ∀ b o, la = some ⟨b, o, none⟩ → b ≠ gc) (hc : ∀ c ∈ cs, c.n ≠ 0 → ∀ b o, c.a = some ⟨b, o, none⟩ → b ≠ gc) : FInv g W1 wr' v L la ln lc cs := by
  refine ⟨⟨h.own.1, ?_⟩, ⟨ho.os.trans h.but.os, ho.tape.trans h.but.tape, ho.output.trans h.but.output, Nat.le_trans h.but.size (Nat.le_of_eq ho.size.symm), fun k hk hg => (ho.block k (by omega)).trans (h.but.block k hk hg)⟩,
    ⟨by rw [ho.cell h1]; exact h.last.c0, by rw [ho.cell h1]; exact h.last.c1, by rw [ho.cell h1]; exact h.last.c2⟩, fun k hk => by rw [ho.frozen h1]; exact h.frz k hk, h.lint.only ho hl, h.loff, fun c hc' => ⟨(h.rest c hc').1.only ho (hc c hc'), (h.rest c hc').2⟩, h.glt⟩
  obtain ⟨h1', h2'⟩ := h.own.2
  refine ⟨h1', ?_⟩
  rcases h2' with h2' | ⟨k, cap, cur, rfl, hbb, hh, rest⟩
  · exact .inl h2'
  · exact .inr ⟨k, cap, cur, rfl, hbb, by rw [ho.block k (fun e => hv (by rw [← e]; rfl))]; exact hh, rest⟩
theorem tl_alone {pd pg s : Int} {zs : List Int} (hp : PicOk pd pg zs) (hs : 1 ≤ s) (hs2 : s ≤ 64) (L : Pt) : tlS pd pg s L ⟨true, 0, 0, (cod zs pd.toNat s zs.length).1⟩ = ⟨pd, pg, (cod zs pd.toNat s zs.length).2⟩ := by
  have hbd := cod_bd zs pd.toNat s hs hp.pix zs.length
  have hl := cod_len1 zs pd.toNat s zs.length
  have he : dcE pd pg s (cod zs pd.toNat s zs.length).1 = 0 := dcE_of hp.w1 hp.w6 hp.h1 hp.h6 hs hs2 (by rw [hl]; exact hp.len) hbd
  have e2 : tldD L.d L.g L.zs pd pg s true 0 0 (cod zs pd.toNat s zs.length).1 = pd := by unfold tldD tolD; rw [if_neg (by simp), if_neg (by simp), if_pos he]
  have e3 : tldG L.d L.g L.zs pd pg s true 0 0 (cod zs pd.toNat s zs.length).1 = pg := by unfold tldG tolG; rw [if_neg (by simp), if_neg (by simp), if_pos he]
  have e4 : tldR L.d L.g L.zs pd pg s true 0 0 (cod zs pd.toNat s zs.length).1 = (cod zs pd.toNat s zs.length).2 := by
    unfold tldR tolR; rw [if_neg (by simp), if_neg (by simp), if_pos he, hl]; exact tel_cod zs pd.toNat s zs.length zs.length (Nat.le_refl _)
  unfold tlS
  rw [e2, e3, e4]
theorem refBehind_tl (L : Pt) (la : Option Addr) (ln lc : Nat) (W H : Int) (x y : Int) (b : Option Addr) (m cap2 : Nat) (rs : List Int) (s : Int) (w : World) (h : IntsAt w la ln lc L.zs) (h2 : IntsAt w b m cap2 rs) :
    Calls Tryd.prog 89 #[picV L.d L.g la ln lc, codV false x y b m cap2, .int .i64 s] w fun e w' => ∃ c k cc, e = .returned (.tuple #[picV (tlS W H s L ⟨false, x, y, rs⟩).d (tlS W H s L ⟨false, x, y, rs⟩).g c k cc, .int .i64 (tlE W H s L ⟨false, x, y, rs⟩)]) ∧ IntsAt w' c k cc (tlS W H s L ⟨false, x, y, rs⟩).zs ∧ Fresh w c k ∧ Lat w w' := by
  have e1 : (tlS W H s L ⟨false, x, y, rs⟩).d = behD L.d L.g L.zs false x y rs s := by show tldD L.d L.g L.zs W H s false x y rs = _; unfold tldD; rw [if_pos rfl]
  have e2 : (tlS W H s L ⟨false, x, y, rs⟩).g = behG L.d L.g L.zs false x y rs s := by show tldG L.d L.g L.zs W H s false x y rs = _; unfold tldG; rw [if_pos rfl]
  have e3 : (tlS W H s L ⟨false, x, y, rs⟩).zs = behR L.d L.g L.zs false x y rs s := by show tldR L.d L.g L.zs W H s false x y rs = _; unfold tldR; rw [if_pos rfl]
  have e4 : tlE W H s L ⟨false, x, y, rs⟩ = behE L.d L.g L.zs false x y rs s := by unfold tlE tldE; rw [if_pos rfl]
  rw [e1, e2, e3, e4]
  exact refBehind_totF L.d L.g la ln lc L.zs false x y b m cap2 rs s w h h2

end Go.Proofs.YtooepflfofgnnaaDoor
