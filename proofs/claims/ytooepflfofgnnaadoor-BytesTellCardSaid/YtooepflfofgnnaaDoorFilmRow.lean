/- A film under way: the coded pictures so far, the last one told in its cell; what appends, stores and calls leave of it. -/
import Derived.Test.YtooepflfofgnnaaDoorFilmPlain
import Derived.Test.YtooepflfofgnnaaDoorOwnR
import Derived.Test.YtooepflfofgnnaaDoorMovedEnc
namespace Go.Proofs.YtooepflfofgnnaaDoor
open Go.ChangeShapes Go.WideShapes Go.ChangeAt Go.RowKit

theorem info_Coded : (Tryd.prog.info? 110).map (fun i => (i.zero, i.size, i.bytes)) = some (some (codV false 0 0 none 0 0), 4, 48) := by kernel_rfl
theorem info_Picture : (Tryd.prog.info? 132).map (fun i => (i.zero, i.size, i.bytes)) = some (some (picV 0 0 none 0 0), 3, 40) := by kernel_rfl
/-- a coded picture, and where its rests lie -/
structure Cd where
  c : Ct
  a : Option Addr
  n : Nat
  cap : Nat
instance : Inhabited Cd := ⟨⟨default, none, 0, 0⟩⟩
def Cd.row (c : Cd) : List Value := [.bool c.c.al, .int .i64 c.c.x, .int .i64 c.c.y, .slice c.a c.n c.cap]
theorem Cd.row_len (c : Cd) : c.row.length = 4 := rfl
/-- neither in the cell's block nor in the row's own -/
def Off (a : Option Addr) (n g : Nat) (v : Value) : Prop := n ≠ 0 → ∀ b o, a = some ⟨b, o, none⟩ → b ≠ g ∧ v.ownBlock ≠ some b
theorem IntsAt.lt {w : World} {a : Option Addr} {n cap : Nat} {zs : List Int} (h : IntsAt w a n cap zs) (hn : n ≠ 0) {b o : Nat} (ha : a = some ⟨b, o, none⟩) : b < w.heap.size := by
  obtain ⟨b', o', ha', hc⟩ := h.row.at_ hn
  rw [ha] at ha'
  simp only [Option.some.injEq, Addr.mk.injEq] at ha'
  rw [ha'.1]
  exact World.block_lt_of_cell? _ _ (hc 0 (by omega))
theorem IntsAt.step {w w' : World} {v v' : Value} {a : Option Addr} {n cap : Nat} {zs : List Int} (h : IntsAt w a n cap zs) (hs : AppStep w w' v v') {g : Nat} (hf : Off a n g v) : IntsAt w' a n cap zs ∧ Off a n g v' := by
  refine ⟨⟨h.len, ⟨h.row.le, h.row.cap, fun hn => ?_⟩, h.wf⟩, fun hn b o ha => ⟨(hf hn b o ha).1, fun e => ?_⟩⟩
  · obtain ⟨b, o, ha, hc⟩ := h.row.at_ hn
    refine ⟨b, o, ha, fun j hj => ?_⟩
    rw [World.cell?_of_block (w := w) (a := ⟨b, o + j, none⟩) (hs.block b (h.lt hn ha) (fun e => (hf hn b o ha).2 e.symm))]
    exact hc j hj
  · have hb := h.lt hn ha
    rcases hs.loc with hl | ⟨g2, hl, hg2⟩
    · exact (hf hn b o ha).2 (hl ▸ e)
    · rw [hl] at e
      simp only [Option.some.injEq] at e
      omega
theorem IntsAt.onlyOff {w w' : World} {v : Value} {a : Option Addr} {n cap : Nat} {zs : List Int} {g : Nat} (h : IntsAt w a n cap zs) (ho : Only g w w') (hf : Off a n g v) : IntsAt w' a n cap zs :=
  h.only ho (fun hn b o ha => (hf hn b o ha).1)
theorem Off.fresh {w : World} {a : Option Addr} {n g : Nat} {v : Value} (h : Fresh w a n) (hg : g < w.heap.size) (hv : ∀ k, v.ownBlock = some k → k < w.heap.size) : Off a n g v :=
  fun hn b o ha => ⟨h g hg b o ha hn, fun e => h b (hv b e) b o ha hn rfl⟩
theorem Off.none (g : Nat) (v : Value) (c : Nat) : Off none c g v := fun _ _ _ ha => by cases ha

structure FInv (g : Nat) (W1 wr : World) (v : Value) (L : Pt) (la : Option Addr) (ln lc : Nat) (cs : List Cd) : Prop where
  own : OwnR wr W1.heap.size 110 4 v (cs.map Cd.row)
  but : But g W1 wr
  last : Cells3 wr g 0 (.int .i64 L.d) (.int .i64 L.g) (.slice la ln lc)
  frz : ∀ k, k < 3 → wr.frozen? ⟨g, k, none⟩ = false
  lint : IntsAt wr la ln lc L.zs
  loff : Off la ln g v
  rest : ∀ c ∈ cs, IntsAt wr c.a c.n c.cap c.c.rs ∧ Off c.a c.n g v
  glt : g < W1.heap.size
theorem FInv.sz {g : Nat} {W1 wr : World} {v : Value} {L : Pt} {la : Option Addr} {ln lc : Nat} {cs : List Cd} (h : FInv g W1 wr v L la ln lc cs) : g < wr.heap.size := Nat.lt_of_lt_of_le h.glt h.but.size
theorem FInv.lat {g : Nat} {W1 wr wr' : World} {v : Value} {L : Pt} {la : Option Addr} {ln lc : Nat} {cs : List Cd} (h : FInv g W1 wr v L la ln lc cs) (hb : Lat wr wr') : FInv g W1 wr' v L la ln lc cs :=
  ⟨h.own.keep hb, h.but.trans (But.of_lat hb), h.last.keep hb, fun k hk => by rw [hb.frozen h.sz]; exact h.frz k hk, h.lint.keep hb, h.loff, fun c hc => ⟨(h.rest c hc).1.keep hb, (h.rest c hc).2⟩, h.glt⟩
def three (w : World) (g : Nat) (x y z : Value) : World := ((w.setCell ⟨g, 0, none⟩ x).setCell ⟨g, 1, none⟩ y).setCell ⟨g, 2, none⟩ z
theorem Only.three (w : World) (g : Nat) (x y z : Value) : Only g w (three w g x y z) := ((Only.set w ⟨g, 0, none⟩ x).trans (Only.set _ ⟨g, 1, none⟩ y)).trans (Only.set _ ⟨g, 2, none⟩ z)
theorem FInv.store {g : Nat} {W1 wr : World} {v : Value} {L : Pt} {la : Option Addr} {ln lc : Nat} {cs : List Cd} (h : FInv g W1 wr v L la ln lc cs) {L2 : Pt} {a : Option Addr} {n c : Nat} (hat : IntsAt wr a n c L2.zs) (hf : Off a n g v) :
    FInv g W1 (three wr g (.int .i64 L2.d) (.int .i64 L2.g) (.slice a n c)) v L2 a n c cs := by
  have ho := Only.three wr g (.int .i64 L2.d) (.int .i64 L2.g) (.slice a n c)
  have hs := three_set (g := g) h.last.c0 h.last.c1 h.last.c2 (.int .i64 L2.d) (.int .i64 L2.g) (.slice a n c)
  refine ⟨h.own.only ho h.glt, h.but.trans ho.but, ⟨hs.1, hs.2.1, hs.2.2⟩, fun k hk => ?_, hat.onlyOff ho hf, hf, fun x hx => ⟨(h.rest x hx).1.onlyOff ho (h.rest x hx).2, (h.rest x hx).2⟩, h.glt⟩
  unfold three
  simp only [World.frozen?_setCell]
  exact h.frz k hk
theorem FInv.app {g : Nat} {W1 wr w' : World} {v v' : Value} {L : Pt} {la : Option Addr} {ln lc : Nat} {cs : List Cd} (h : FInv g W1 wr v L la ln lc cs) {c : Cd} (hat : IntsAt wr c.a c.n c.cap c.c.rs) (hf : Off c.a c.n g v)
    (ho : OwnR w' W1.heap.size 110 4 v' (cs.map Cd.row ++ [c.row])) (hb : Below W1.heap.size wr w') (hs : AppStep wr w' v v') : FInv g W1 w' v' L la ln lc (cs ++ [c]) := by
  have hl := h.lint.step hs h.loff
  refine ⟨by rw [List.map_append]; exact ho, h.but.below hb, ⟨?_, ?_, ?_⟩, fun k hk => ?_, hl.1, hl.2, fun x hx => ?_, h.glt⟩
  · rw [hb.cell h.glt]; exact h.last.c0
  · rw [hb.cell h.glt]; exact h.last.c1
  · rw [hb.cell h.glt]; exact h.last.c2
  · rw [hb.frozen h.glt]; exact h.frz k hk
  · rcases List.mem_append.1 hx with hx | hx
    · exact (h.rest x hx).1.step hs (h.rest x hx).2
    · rw [List.mem_singleton.1 hx]; exact hat.step hs hf

/-- A slice of coded pictures. -/
structure CodsAt (w : World) (a : Option Addr) (n cap : Nat) (cs : List Cd) : Prop where
  len : cs.length = n
  le : n ≤ cap
  cap : cap ≤ maxLen
  at_ : n ≠ 0 → ∃ b off, a = some ⟨b, off, none⟩ ∧ ∀ j c, cs[j]? = some c → w.cell? ⟨b, off + j * 4, none⟩ = some (.bool c.c.al) ∧ w.cell? ⟨b, off + j * 4 + 1, none⟩ = some (.int .i64 c.c.x) ∧ w.cell? ⟨b, off + j * 4 + 2, none⟩ = some (.int .i64 c.c.y) ∧ w.cell? ⟨b, off + j * 4 + 3, none⟩ = some (.slice c.a c.n c.cap)
  rest : ∀ c ∈ cs, IntsAt w c.a c.n c.cap c.c.rs
theorem CodsAt.nil (w : World) : CodsAt w none 0 0 [] := ⟨rfl, Nat.le_refl _, Nat.zero_le _, fun h => absurd rfl h, by simp⟩
theorem CodsAt.keep {w w' : World} {a : Option Addr} {n cap : Nat} {cs : List Cd} (h : CodsAt w a n cap cs) (hb : Lat w w') : CodsAt w' a n cap cs :=
  ⟨h.len, h.le, h.cap, fun hn => by
    obtain ⟨b, o, ha, hc⟩ := h.at_ hn
    exact ⟨b, o, ha, fun j c hj => ⟨hb.cell_at (hc j c hj).1, hb.cell_at (hc j c hj).2.1, hb.cell_at (hc j c hj).2.2.1, hb.cell_at (hc j c hj).2.2.2⟩⟩, fun c hc => (h.rest c hc).keep hb⟩
theorem CodsAt.of {w : World} {B : Nat} {v : Value} {cs : List Cd} {n : Nat} (h : OwnR w B 110 4 v (cs.map Cd.row)) (hr : ∀ c ∈ cs, IntsAt w c.a c.n c.cap c.c.rs) (hn : cs.length = n) : ∃ a cap, v = .slice a n cap ∧ CodsAt w a n cap cs := by
  obtain ⟨a, cap, rfl, hat⟩ := h.slice (n := n) (by rw [List.length_map, hn])
  refine ⟨a, cap, rfl, hn, hat.le, hat.cap, fun hn0 => ?_, hr⟩
  obtain ⟨b, o, ha, hc⟩ := hat.at_ hn0
  refine ⟨b, o, ha, fun j c hj => ?_⟩
  have hrow := (hc j c.row (by rw [List.getElem?_map, hj]; rfl)).2
  refine ⟨hrow 0 _ rfl, ?_, ?_, ?_⟩
  · have := hrow 1 _ rfl; rw [← Nat.add_assoc] at this; exact this
  · have := hrow 2 _ rfl; rw [← Nat.add_assoc] at this; exact this
  · have := hrow 3 _ rfl; rw [← Nat.add_assoc] at this; exact this
/-- The boxed picture and coded picture of a round. -/
structure RW (w W : World) (p : Pc) : Prop where
  lat : Lat w W
  sz : w.heap.size + 1 < W.heap.size
  p3 : Cells3 W w.heap.size 0 (.int .i64 p.wd) (.int .i64 p.hg) (.slice p.a p.n p.cap)
  c4 : Cells4 W (w.heap.size + 1) (.bool true) (.int .i64 0) (.int .i64 0) (.slice none 0 0)
  frz : ∀ k, W.frozen? ⟨w.heap.size + 1, k, none⟩ = false
theorem rw_open (w : World) (p : Pc) : RW w ((w.alloc (.cells #[.int .i64 p.wd, .int .i64 p.hg, .slice p.a p.n p.cap] 132)).alloc (.cells #[.bool true, .int .i64 0, .int .i64 0, .slice none 0 0] 110)) p :=
  ⟨Lat.trans (Lat.alloc _ _) (Lat.alloc _ _), by simp, (cells3_new (g := w.heap.size) (o := 0) rfl rfl rfl rfl).keep (Lat.alloc _ _), cells4_new (by simp) rfl rfl rfl rfl, fun k => free_new (by simp)⟩

/-- Pictures told, and where their pixels lie. -/
structure Pd where
  p : Pt
  a : Option Addr
  n : Nat
  cap : Nat
instance : Inhabited Pd := ⟨⟨default, none, 0, 0⟩⟩
def Pd.row (c : Pd) : List Value := [.int .i64 c.p.d, .int .i64 c.p.g, .slice c.a c.n c.cap]
structure DvI (g : Nat) (W1 wr : World) (v : Value) (L : Pt) (la : Option Addr) (ln lc : Nat) (cs : List Pd) : Prop where
  own : OwnR wr W1.heap.size 132 3 v (cs.map Pd.row)
  but : But g W1 wr
  last : Cells3 wr g 0 (.int .i64 L.d) (.int .i64 L.g) (.slice la ln lc)
  frz : ∀ k, k < 3 → wr.frozen? ⟨g, k, none⟩ = false
  lint : IntsAt wr la ln lc L.zs
  loff : Off la ln g v
  rest : ∀ c ∈ cs, IntsAt wr c.a c.n c.cap c.p.zs ∧ Off c.a c.n g v
  glt : g < W1.heap.size
theorem DvI.sz {g : Nat} {W1 wr : World} {v : Value} {L : Pt} {la : Option Addr} {ln lc : Nat} {cs : List Pd} (h : DvI g W1 wr v L la ln lc cs) : g < wr.heap.size := Nat.lt_of_lt_of_le h.glt h.but.size
theorem DvI.lat {g : Nat} {W1 wr wr' : World} {v : Value} {L : Pt} {la : Option Addr} {ln lc : Nat} {cs : List Pd} (h : DvI g W1 wr v L la ln lc cs) (hb : Lat wr wr') : DvI g W1 wr' v L la ln lc cs :=
  ⟨h.own.keep hb, h.but.trans (But.of_lat hb), h.last.keep hb, fun k hk => by rw [hb.frozen h.sz]; exact h.frz k hk, h.lint.keep hb, h.loff, fun c hc => ⟨(h.rest c hc).1.keep hb, (h.rest c hc).2⟩, h.glt⟩
theorem DvI.store {g : Nat} {W1 wr : World} {v : Value} {L : Pt} {la : Option Addr} {ln lc : Nat} {cs : List Pd} (h : DvI g W1 wr v L la ln lc cs) {L2 : Pt} {a : Option Addr} {n c : Nat} (hat : IntsAt wr a n c L2.zs) (hf : Off a n g v) :
    DvI g W1 (three wr g (.int .i64 L2.d) (.int .i64 L2.g) (.slice a n c)) v L2 a n c cs := by
  have ho := Only.three wr g (.int .i64 L2.d) (.int .i64 L2.g) (.slice a n c)
  have hs := three_set (g := g) h.last.c0 h.last.c1 h.last.c2 (.int .i64 L2.d) (.int .i64 L2.g) (.slice a n c)
  refine ⟨h.own.only ho h.glt, h.but.trans ho.but, ⟨hs.1, hs.2.1, hs.2.2⟩, fun k hk => ?_, hat.onlyOff ho hf, hf, fun x hx => ⟨(h.rest x hx).1.onlyOff ho (h.rest x hx).2, (h.rest x hx).2⟩, h.glt⟩
  unfold three
  simp only [World.frozen?_setCell]
  exact h.frz k hk
theorem DvI.app {g : Nat} {W1 wr w' : World} {v v' : Value} {L : Pt} {la : Option Addr} {ln lc : Nat} {cs : List Pd} (h : DvI g W1 wr v L la ln lc cs) {c : Pd} (hat : IntsAt wr c.a c.n c.cap c.p.zs) (hf : Off c.a c.n g v)
    (ho : OwnR w' W1.heap.size 132 3 v' (cs.map Pd.row ++ [c.row])) (hb : Below W1.heap.size wr w') (hs : AppStep wr w' v v') : DvI g W1 w' v' L la ln lc (cs ++ [c]) := by
  have hl := h.lint.step hs h.loff
  refine ⟨by rw [List.map_append]; exact ho, h.but.below hb, ⟨?_, ?_, ?_⟩, fun k hk => ?_, hl.1, hl.2, fun x hx => ?_, h.glt⟩
  · rw [hb.cell h.glt]; exact h.last.c0
  · rw [hb.cell h.glt]; exact h.last.c1
  · rw [hb.cell h.glt]; exact h.last.c2
  · rw [hb.frozen h.glt]; exact h.frz k hk
  · rcases List.mem_append.1 hx with hx | hx
    · exact (h.rest x hx).1.step hs (h.rest x hx).2
    · rw [List.mem_singleton.1 hx]; exact hat.step hs hf
/-- A slice of pictures told. -/
structure PdsAt (w : World) (a : Option Addr) (n cap : Nat) (cs : List Pd) : Prop where
  len : cs.length = n
  le : n ≤ cap
  cap : cap ≤ maxLen
  at_ : n ≠ 0 → ∃ b off, a = some ⟨b, off, none⟩ ∧ ∀ j c, cs[j]? = some c → Cells3 w b (off + j * 3) (.int .i64 c.p.d) (.int .i64 c.p.g) (.slice c.a c.n c.cap)
  rest : ∀ c ∈ cs, IntsAt w c.a c.n c.cap c.p.zs
theorem PdsAt.nil (w : World) : PdsAt w none 0 0 [] := ⟨rfl, Nat.le_refl _, Nat.zero_le _, fun h => absurd rfl h, by simp⟩
theorem PdsAt.keep {w w' : World} {a : Option Addr} {n cap : Nat} {cs : List Pd} (h : PdsAt w a n cap cs) (hb : Lat w w') : PdsAt w' a n cap cs :=
  ⟨h.len, h.le, h.cap, fun hn => by
    obtain ⟨b, o, ha, hc⟩ := h.at_ hn
    exact ⟨b, o, ha, fun j c hj => (hc j c hj).keep hb⟩, fun c hc => (h.rest c hc).keep hb⟩
theorem PdsAt.of {w : World} {B : Nat} {v : Value} {cs : List Pd} {n : Nat} (h : OwnR w B 132 3 v (cs.map Pd.row)) (hr : ∀ c ∈ cs, IntsAt w c.a c.n c.cap c.p.zs) (hn : cs.length = n) : ∃ a cap, v = .slice a n cap ∧ PdsAt w a n cap cs := by
  obtain ⟨a, cap, rfl, hat⟩ := h.slice (n := n) (by rw [List.length_map, hn])
  refine ⟨a, cap, rfl, hn, hat.le, hat.cap, fun hn0 => ?_, hr⟩
  obtain ⟨b, o, ha, hc⟩ := hat.at_ hn0
  refine ⟨b, o, ha, fun j c hj => ?_⟩
  have hrow := (hc j c.row (by rw [List.getElem?_map, hj]; rfl)).2
  refine ⟨hrow 0 _ rfl, ?_, ?_⟩
  · have := hrow 1 _ rfl; rw [← Nat.add_assoc] at this; exact this
  · have := hrow 2 _ rfl; rw [← Nat.add_assoc] at this; exact this
theorem cods_at {w : World} {a : Option Addr} {n cap : Nat} {cs : List Cd} (h : CodsAt w a n cap cs) (hn : n ≠ 0) : ∃ b off, a = some ⟨b, off, none⟩ ∧ b < w.heap.size ∧ ∀ j, j < n → w.cell? ⟨b, off + j * 4, none⟩ = some (.bool (cs.getD j default).c.al) ∧ w.cell? ⟨b, off + j * 4 + 1, none⟩ = some (.int .i64 (cs.getD j default).c.x) ∧
    w.cell? ⟨b, off + j * 4 + 2, none⟩ = some (.int .i64 (cs.getD j default).c.y) ∧ w.cell? ⟨b, off + j * 4 + 3, none⟩ = some (.slice (cs.getD j default).a (cs.getD j default).n (cs.getD j default).cap) ∧ IntsAt w (cs.getD j default).a (cs.getD j default).n (cs.getD j default).cap (cs.getD j default).c.rs := by
  obtain ⟨b, off, rfl, hc⟩ := h.at_ hn
  have hj : ∀ j, j < n → cs[j]? = some (cs.getD j default) := fun j hj => by rw [List.getD_eq_getElem?_getD, List.getElem?_eq_getElem (by rw [h.len]; exact hj)]; rfl
  refine ⟨b, off, rfl, World.block_lt_of_cell? _ _ (hc 0 _ (hj 0 (by omega))).1, fun j hlt => ?_⟩
  have := hc j _ (hj j hlt)
  exact ⟨this.1, this.2.1, this.2.2.1, this.2.2.2, h.rest _ (List.mem_of_getElem? (hj j hlt))⟩
theorem cts_getD {cs : List Cd} {k : Nat} (h : k < cs.length) : (cs.map Cd.c).getD k default = (cs.getD k default).c := by
  rw [List.getD_eq_getElem?_getD, List.getD_eq_getElem?_getD, List.getElem?_map, List.getElem?_eq_getElem h]; rfl
end Go.Proofs.YtooepflfofgnnaaDoor
