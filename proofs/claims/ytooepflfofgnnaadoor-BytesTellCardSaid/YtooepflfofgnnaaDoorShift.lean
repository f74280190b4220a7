/- The contract of picture.Shifted. -/
import Derived.Test.YtooepflfofgnnaaDoorUnlike
import Derived.Test.YtooepflfofgnnaaDoorAppG
import Derived.Test.YtooepflfofgnnaaDoorAloneEnc
import Derived.Test.YtooepflfofgnnaaDoorGate
import Derived.Deep.RegionHeld3
import Derived.Deep.DrawnRows
import Derived.StillTailTactics
import Derived.Deep.DeepCutAuto
import Derived.Deep.CutBlock
import Derived.IntWalk
namespace Go.Proofs.YtooepflfofgnnaaDoor
open Go.ChangeShapes Go.WideShapes Go.ChangeAt Go.RowKit
attribute [local go_sem ↓] Go.wp_at_zero Go.wp_at_succ

theorem free_new {w : World} {cs : Array Value} {t : TypeId} {g j : Nat} (h : g = w.heap.size) : (w.alloc (.cells cs t)).frozen? ⟨g, j, none⟩ = false := by
  subst h; simp
/-- What stands between two pixels. -/
structure ShInv (w wr : World) (wd hg : Nat) (a : Option Addr) (n cap : Nat) (mx my : Int) (v : Value) (L : List Int) : Prop where
  lat : Lat w wr
  p : Cells3 wr w.heap.size 0 (.int .i64 wd) (.int .i64 hg) (.slice a n cap)
  m0 : wr.cell? ⟨w.heap.size + 1, 0, none⟩ = some (.int .i64 mx)
  m1 : wr.cell? ⟨w.heap.size + 1, 1, none⟩ = some (.int .i64 my)
  r : Cells3 wr (w.heap.size + 1 + 1) 0 (.int .i64 0) (.int .i64 0) (.slice none 0 0)
  rf0 : wr.frozen? ⟨w.heap.size + 1 + 1, 0, none⟩ = false
  rf1 : wr.frozen? ⟨w.heap.size + 1 + 1, 1, none⟩ = false
  rf2 : wr.frozen? ⟨w.heap.size + 1 + 1, 2, none⟩ = false
  o0 : wr.cell? ⟨w.heap.size + 1 + 1 + 1, 0, none⟩ = some (.int .i64 wd)
  o1 : wr.cell? ⟨w.heap.size + 1 + 1 + 1, 1, none⟩ = some (.int .i64 hg)
  o2 : wr.cell? ⟨w.heap.size + 1 + 1 + 1, 2, none⟩ = some v
  of : wr.frozen? ⟨w.heap.size + 1 + 1 + 1, 2, none⟩ = false
  own : OwnInts wr (w.heap.size + 4) v L
  sz : w.heap.size + 4 ≤ wr.heap.size
def ShSome (w wr : World) (wd hg : Nat) (a : Option Addr) (n cap : Nat) (mx my : Int) (L : List Int) : Prop := ∃ v, ShInv w wr wd hg a n cap mx my v L
theorem ShInv.drewN {w wr : World} {wd hg : Nat} {a : Option Addr} {n cap : Nat} {mx my : Int} {v : Value} {L : List Int} (h : ShInv w wr wd hg a n cap mx my v L) (k : Nat) : ShInv w (wr.drewN k) wd hg a n cap mx my v L :=
  ⟨Lat.trans h.lat (Lat.drewN _ _), h.p.keep (Lat.drewN _ _), h.m0, h.m1, h.r.keep (Lat.drewN _ _), h.rf0, h.rf1, h.rf2, h.o0, h.o1, h.o2, h.of, h.own, h.sz⟩
/-- What a pixel more leaves: an append, and a store into the picture's cell. -/
theorem ShInv.step {w wr w1 : World} {wd hg : Nat} {a : Option Addr} {n cap : Nat} {mx my : Int} {v : Value} {L : List Int} {z : Int} {o : Obj} {g c : Nat} (h : ShInv w wr wd hg a n cap mx my v L)
    (hgrow : (wr.alloc o).grownBy w1 v.ownBlock) (hown : w1.ownsRow (w.heap.size + 4) 3 1 (.slice (some ⟨g, 0, none⟩) (L.length + 1) c) (L.length + 1) (L.map (Value.int .i64) ++ [.int .i64 z])) :
    ShInv w (w1.setCell ⟨w.heap.size + 1 + 1 + 1, 2, none⟩ (.slice (some ⟨g, 0, none⟩) (L.length + 1) c)) wd hg a n cap mx my (.slice (some ⟨g, 0, none⟩) (L.length + 1) c) (L ++ [z]) := by
  have hne : ∀ k, k < w.heap.size + 4 → v.ownBlock ≠ some k := fun k hk => Own.not h.own hk
  have hsz := h.sz
  have cc : ∀ (b j : Nat) (x : Value), b < w.heap.size + 4 → wr.cell? ⟨b, j, none⟩ = some x → w1.cell? ⟨b, j, none⟩ = some x := fun b j x hb hx => grown_cell hgrow ((Lat.alloc _ _).cell_at hx) (hne b hb)
  have ff : ∀ (b j : Nat), b < w.heap.size + 4 → wr.frozen? ⟨b, j, none⟩ = false → w1.frozen? ⟨b, j, none⟩ = false := fun b j hb hx => grown_free hgrow (by simp; omega) ((Lat.alloc _ _).free_at (by simp; omega) hx) (hne b hb)
  have so : ∀ (b j : Nat) (x : Value), b < w.heap.size + 1 + 1 + 1 ∨ j ≠ 2 → w1.cell? ⟨b, j, none⟩ = some x → (w1.setCell ⟨w.heap.size + 1 + 1 + 1, 2, none⟩ (.slice (some ⟨g, 0, none⟩) (L.length + 1) c)).cell? ⟨b, j, none⟩ = some x := fun b j x hb hx => by
    rw [World.cell?_setCell_other _ _ _ _ (by intro e; injection e with e1 e2 _; omega)]; exact hx
  have sf : ∀ (b j : Nat), w1.frozen? ⟨b, j, none⟩ = false → (w1.setCell ⟨w.heap.size + 1 + 1 + 1, 2, none⟩ (.slice (some ⟨g, 0, none⟩) (L.length + 1) c)).frozen? ⟨b, j, none⟩ = false := fun b j hx => by rw [World.frozen?_setCell]; exact hx
  have hl : Lat w w1 := lat_grown (Lat.trans h.lat (Lat.alloc wr o)) hgrow (fun k hk => by
    rcases Nat.lt_or_ge k (w.heap.size + 4) with hlt | hge
    · exact absurd hk (hne k hlt)
    · omega)
  have hz1 := hgrow.size
  simp at hz1
  refine ⟨Below.setCell hl (by simp; omega) _, ⟨?_, ?_, ?_⟩, ?_, ?_, ⟨?_, ?_, ?_⟩, ?_, ?_, ?_, ?_, ?_, ?_, ?_, ?_, ?_⟩
  · exact so _ _ _ (.inl (by omega)) (cc _ _ _ (by omega) h.p.c0)
  · exact so _ _ _ (.inl (by omega)) (cc _ _ _ (by omega) h.p.c1)
  · exact so _ _ _ (.inl (by omega)) (cc _ _ _ (by omega) h.p.c2)
  · exact so _ _ _ (.inl (by omega)) (cc _ _ _ (by omega) h.m0)
  · exact so _ _ _ (.inl (by omega)) (cc _ _ _ (by omega) h.m1)
  · exact so _ _ _ (.inl (by omega)) (cc _ _ _ (by omega) h.r.c0)
  · exact so _ _ _ (.inl (by omega)) (cc _ _ _ (by omega) h.r.c1)
  · exact so _ _ _ (.inl (by omega)) (cc _ _ _ (by omega) h.r.c2)
  · exact sf _ _ (ff _ _ (by omega) h.rf0)
  · exact sf _ _ (ff _ _ (by omega) h.rf1)
  · exact sf _ _ (ff _ _ (by omega) h.rf2)
  · exact so _ _ _ (.inr (by omega)) (cc _ _ _ (by omega) h.o0)
  · exact so _ _ _ (.inr (by omega)) (cc _ _ _ (by omega) h.o1)
  · exact World.cell?_setCell_same _ _ _ (cc _ _ _ (by omega) h.o2)
  · exact sf _ _ (ff _ _ (by omega) h.of)
  · refine Own.set (p := ⟨w.heap.size + 1 + 1 + 1, 2, none⟩) (B := w.heap.size + 4) ?_ (by simp) _
    unfold Own
    rw [List.length_map, List.length_append, List.length_singleton, List.map_append]
    exact hown
  · simp [World.setCell]; omega

set_option maxHeartbeats 8000000 in
set_option maxRecDepth 100000 in
theorem shifted_any (wd hg : Nat) (a : Option Addr) (n cap : Nat) (zs : List Int) (mx my : Int) (w : World) (h : IntsAt w a n cap zs) (hn : wd * hg = n) (w1 : 1 ≤ wd) (w6 : wd ≤ 6) (g1 : 1 ≤ hg) (g6 : hg ≤ 6)
    (x1 : -6 ≤ mx) (x2 : mx ≤ 6) (y1 : -6 ≤ my) (y2 : my ≤ 6) :
    Calls Tryd.prog 132 #[picV wd hg a n cap, .agg #[.int .i64 mx, .int .i64 my]] w fun e w' => ∃ v, e = .returned (.agg #[.int .i64 wd, .int .i64 hg, v]) ∧ OwnInts w' w.heap.size v (shf wd hg zs mx my n) ∧ Lat w w' := by
  have H := Lib.hid h
  have HN := Lib.hid hn
  clear h hn
  go_enter Tryd.func132, Tryd.ntmps132
  go_wp2_with fail
  go_loopw [15] (fun y wr => ∃ k : Nat, k ≤ hg ∧ y = .int .i64 k ∧ Hid (ShSome w wr wd hg a n cap mx my (shf wd hg zs mx my (k * wd)))) (fun y _ => hg - (intOf y).toNat)
  case atStart =>
    refine ⟨0, Nat.zero_le _, rfl, .slice none 0 0, ?_⟩
    rw [Nat.zero_mul]
    have l4 := Lat.alloc (((w.alloc (.cells #[.int .i64 wd, .int .i64 hg, .slice a n cap] 132)).alloc (.cells #[.int .i64 mx, .int .i64 my] 108)).alloc (.cells #[.int .i64 0, .int .i64 0, .slice none 0 0] 132)) (.cells #[.int .i64 wd, .int .i64 hg, .slice none 0 0] 132)
    have l3 := Lat.alloc ((w.alloc (.cells #[.int .i64 wd, .int .i64 hg, .slice a n cap] 132)).alloc (.cells #[.int .i64 mx, .int .i64 my] 108)) (.cells #[.int .i64 0, .int .i64 0, .slice none 0 0] 132)
    have l2 := Lat.alloc (w.alloc (.cells #[.int .i64 wd, .int .i64 hg, .slice a n cap] 132)) (.cells #[.int .i64 mx, .int .i64 my] 108)
    have l1 := Lat.alloc w (.cells #[.int .i64 wd, .int .i64 hg, .slice a n cap] 132)
    exact ⟨Lat.trans l1 (Lat.trans l2 (Lat.trans l3 l4)), (cells3_new rfl rfl rfl rfl).keep (Lat.trans l2 (Lat.trans l3 l4)), (Lat.trans l3 l4).cell_at (cell_new (by simp) rfl), (Lat.trans l3 l4).cell_at (cell_new (by simp) rfl),
      (cells3_new (by simp) rfl rfl rfl).keep l4, l4.free_at (by simp) (free_new (by simp)), l4.free_at (by simp) (free_new (by simp)), l4.free_at (by simp) (free_new (by simp)), cell_new (by simp) rfl, cell_new (by simp) rfl, cell_new (by simp) rfl, free_new (by simp), Own.nil _ _ _, by simp⟩
  case round =>
    obtain ⟨k, hk, rfl, hrel⟩ := hrel
    by_cases hlt : k < hg
    · obtain ⟨v, hI⟩ := hrel.out
      have HI := Lib.hid hI
      have c0 : wr.cell? ⟨w.heap.size, 0, none⟩ = some (.int .i64 wd) := hI.p.c0
      clear hI hrel c0
      have c0 := HI.out.p.c0
      go_wp2_with fail
      go_loopw [20] (fun x wx => ∃ j : Nat, j ≤ wd ∧ x = .int .i64 j ∧ Hid (ShSome w wx wd hg a n cap mx my (shf wd hg zs mx my (k * wd + j)))) (fun x _ => wd - (intOf x).toNat)
      case atStart => exact ⟨0, Nat.zero_le _, rfl, v, HI.out⟩
      case round =>
        obtain ⟨j, hj, rfl, hrel⟩ := hrel
        by_cases hlt2 : j < wd
        · obtain ⟨v, hI⟩ := hrel.out
          have HI := Lib.hid hI
          clear hI hrel c0
          have hsr := srcI_bd wd hg mx my j k (by omega) (by omega)
          obtain ⟨A, hA⟩ : ∃ A, A = insd ((k : Int) - my) hg := ⟨_, rfl⟩
          obtain ⟨B, hB⟩ : ∃ B, B = insd ((j : Int) - mx) wd := ⟨_, rfl⟩
          have a1 := insd_bd ((k : Int) - my) hg (by omega)
          have b1 := insd_bd ((j : Int) - mx) wd (by omega)
          have eS : srcI wd hg mx my j k = A * wd + B := by rw [hA, hB]; rfl
          rw [← hA] at a1
          rw [← hB] at b1
          rw [eS] at hsr
          have hAc : ∀ W, Calls Tryd.prog 148 #[.int .i64 ((k : Int) - my), .int .i64 hg] W fun e w' => e = .returned (.int .i64 A) ∧ w' = W := fun W => by
            rw [hA]; exact (inside_any _ _ W (by omega) (by omega) (by omega) (by omega)).mono fun _ _ ⟨x, y⟩ => ⟨x, y.symm⟩
          have hBc : ∀ W, Calls Tryd.prog 148 #[.int .i64 ((j : Int) - mx), .int .i64 wd] W fun e w' => e = .returned (.int .i64 B) ∧ w' = W := fun W => by
            rw [hB]; exact (inside_any _ _ W (by omega) (by omega) (by omega) (by omega)).mono fun _ _ ⟨x, y⟩ => ⟨x, y.symm⟩
          have HA := Lib.hid hAc
          have HB := Lib.hid hBc
          have p0 : 0 ≤ A * (wd : Int) := Int.mul_nonneg a1.1 (by omega)
          have p1 : A * (wd : Int) ≤ 6 * 6 := Int.mul_le_mul (by omega) (by omega) (by omega) (by omega)
          obtain ⟨s, hs⟩ := Int.eq_ofNat_of_zero_le hsr.1
          have hsn : s < n := by rw [← HN.out]; have := hsr.2; rw [hs, ← Int.natCast_mul] at this; omega
          have e1 : IntKind.i64.wrap ((k : Int) - my) = (k : Int) - my := IntWalk.i64_in _ (by omega)
          have e2 : IntKind.i64.wrap ((j : Int) - mx) = (j : Int) - mx := IntWalk.i64_in _ (by omega)
          have e3 : IntKind.i64.wrap (A * (wd : Int)) = A * (wd : Int) := IntWalk.i64_in _ (by omega)
          have e4 : IntKind.i64.wrap (A * (wd : Int) + B) = (s : Int) := by rw [← hs]; exact IntWalk.i64_in _ (by omega)
          have i1 : (0 : Int) ≤ (s : Int) := by omega
          have i2 : (s : Int) < (n : Int) := by omega
          obtain ⟨b, o, rfl, hc⟩ := H.out.row.at_ (by omega)
          have hbs : b < w.heap.size := World.block_lt_of_cell? _ _ (hc s hsn)
          have cz := HI.out.lat.cell_at (hc s hsn)
          obtain ⟨z, hz⟩ : ∃ z, z = zs.getD s 0 := ⟨_, rfl⟩
          rw [← hz] at cz
          have hst : shf wd hg zs mx my (k * wd + j + 1) = shf wd hg zs mx my (k * wd + j) ++ [z] := by rw [shf_succ _ _ _ _ _ _ _ hlt2, eS, hs, hz]; rfl
          have HST := Lib.hid hst
          obtain ⟨L, hL⟩ : ∃ L, L = shf wd hg zs mx my (k * wd + j) := ⟨_, rfl⟩
          have hlen : L.length ≤ 10000 := by
            rw [hL, shf_length]
            have q1 : k * wd ≤ 6 * 6 := Nat.mul_le_mul (by omega) w6
            omega
          rw [← hL] at HI HST
          clear hA hB eS hAc hBc hsr hs hc hz hst a1 b1 hL
          have c0 := HI.out.p.c0
          have c1 : wr.cell? ⟨w.heap.size, 1, none⟩ = _ := HI.out.p.c1
          have c2 : wr.cell? ⟨w.heap.size, 2, none⟩ = _ := HI.out.p.c2
          have c3 := HI.out.m0
          have c4 := HI.out.m1
          have c5 := HI.out.o2
          have hsz := HI.out.sz
          have hF : wr.drew.cell? ⟨w.heap.size, 0, none⟩ = some (.int .i64 wd) ∧ wr.drew.cell? ⟨w.heap.size, 1, none⟩ = some (.int .i64 hg) ∧ wr.drew.cell? ⟨w.heap.size, 2, none⟩ = some (.slice (some ⟨b, o, none⟩) n cap) ∧
              wr.drew.cell? ⟨w.heap.size + 1, 0, none⟩ = some (.int .i64 mx) ∧ wr.drew.cell? ⟨w.heap.size + 1, 1, none⟩ = some (.int .i64 my) ∧ wr.drew.cell? ⟨b, o + s, none⟩ = some (.int .i64 z) := ⟨c0, c1, c2, c3, c4, cz⟩
          have hG : wr.drew.cell? ⟨w.heap.size + 1 + 1 + 1, 2, none⟩ = some v := c5
          have HF := Lib.hid hF
          have HGG := Lib.hid hG
          clear c0 c1 c2 c3 c4 c5 cz hF hG
          go_wp2_with fail
          have hF := HF.out
          have hG := HGG.out
          refine wp_region_gate (fun w' => w'.cell? ⟨w.heap.size, 0, none⟩ = some (.int .i64 wd) ∧ w'.cell? ⟨w.heap.size, 1, none⟩ = some (.int .i64 hg) ∧ w'.cell? ⟨w.heap.size, 2, none⟩ = some (.slice (some ⟨b, o, none⟩) n cap) ∧
              w'.cell? ⟨w.heap.size + 1, 0, none⟩ = some (.int .i64 mx) ∧ w'.cell? ⟨w.heap.size + 1, 1, none⟩ = some (.int .i64 my) ∧ w'.cell? ⟨b, o + s, none⟩ = some (.int .i64 z)) (fun w' => w'.cell? ⟨w.heap.size + 1 + 1 + 1, 2, none⟩ = some v) 25 (by kernel_rfl) ?_
          refine gate_takeF (i := 0) (v := ?_) rfl (by kernel_rfl) (by kernel_rfl) (by kernel_rfl) (fun _ _ _ h => h) (by decide) ⟨hF, fun _ => hG⟩ (Or.inl ⟨by rfl, ?_⟩) ?_
          rotate_left
          · intro wq hSw; obtain ⟨s0, s1, s2, s3, s4, s5⟩ := hSw; go_simp; rfl
          simp only [Act.put]
          refine gate_takeG (i := 1) (v := ?_) rfl (by kernel_rfl) (by kernel_rfl) (by kernel_rfl) (fun _ _ _ h => h) (by decide) (by kernel_rfl) (by kernel_rfl) ⟨hF, fun _ => hG⟩ (Or.inl ⟨by rfl, ?_⟩) ?_
          rotate_left
          · intro wq hSw; obtain ⟨⟨s0, s1, s2, s3, s4, s5⟩, s6⟩ := hSw; go_simp; rfl
          simp only [Act.put]
          refine gate_takeF (i := 2) (v := ?_) rfl (by kernel_rfl) (by kernel_rfl) (by kernel_rfl) (fun _ _ _ h => h) (by decide) ⟨hF, fun _ => hG⟩ (Or.inl ⟨by rfl, ?_⟩) ?_
          rotate_left
          · intro wq hSw; obtain ⟨s0, s1, s2, s3, s4, s5⟩ := hSw; go_simp; rfl
          simp only [Act.put]
          refine gate_takeF (i := 3) (v := ?_) rfl (by kernel_rfl) (by kernel_rfl) (by kernel_rfl) (fun _ _ _ h => h) (by decide) ⟨hF, fun _ => hG⟩ (Or.inl ⟨by rfl, ?_⟩) ?_
          rotate_left
          · intro wq hSw; obtain ⟨s0, s1, s2, s3, s4, s5⟩ := hSw; go_simp; rfl
          simp only [Act.put]
          refine gate_takeF (i := 4) (v := ?_) rfl (by kernel_rfl) (by kernel_rfl) (by kernel_rfl) (fun _ _ _ h => h) (by decide) ⟨hF, fun _ => hG⟩ (Or.inl ⟨by rfl, ?_⟩) ?_
          rotate_left
          · intro wq hSw; obtain ⟨s0, s1, s2, s3, s4, s5⟩ := hSw; go_simp; rfl
          simp only [Act.put]
          refine gate_takeF (i := 5) (v := ?_) rfl (by kernel_rfl) (by kernel_rfl) (by kernel_rfl) (fun _ _ _ h => h) (by decide) ⟨hF, fun _ => hG⟩ (Or.inl ⟨by rfl, ?_⟩) ?_
          rotate_left
          · intro wq hSw; obtain ⟨s0, s1, s2, s3, s4, s5⟩ := hSw; go_simp; rfl
          simp only [Act.put]
          refine gate_takeF (i := 6) (v := ?_) rfl (by kernel_rfl) (by kernel_rfl) (by kernel_rfl) (fun _ _ _ h => h) (by decide) ⟨hF, fun _ => hG⟩ (Or.inl ⟨by rfl, ?_⟩) ?_
          rotate_left
          · intro wq hSw; obtain ⟨s0, s1, s2, s3, s4, s5⟩ := hSw; go_simp; rfl
          simp only [Act.put]
          refine gate_takeF (i := 7) (v := ?_) rfl (by kernel_rfl) (by kernel_rfl) (by kernel_rfl) (fun _ _ _ h => h) (by decide) ⟨hF, fun _ => hG⟩ (Or.inl ⟨by rfl, ?_⟩) ?_
          rotate_left
          · intro wq hSw; obtain ⟨s0, s1, s2, s3, s4, s5⟩ := hSw; go_simp; rfl
          simp only [Act.put]
          refine gate_takeF (i := 8) (v := ?_) rfl (by kernel_rfl) (by kernel_rfl) (by kernel_rfl) (fun _ _ _ h => h) (by decide) ⟨hF, fun _ => hG⟩ (Or.inl ⟨by rfl, ?_⟩) ?_
          rotate_left
          · intro wq hSw; obtain ⟨s0, s1, s2, s3, s4, s5⟩ := hSw; go_simp; rfl
          simp only [Act.put]
          refine gate_takeF (i := 9) (v := ?_) rfl (by kernel_rfl) (by kernel_rfl) (by kernel_rfl) (fun _ _ _ h => h) (by decide) ⟨hF, fun _ => hG⟩ (Or.inl ⟨by rfl, ?_⟩) ?_
          rotate_left
          · intro wq hSw; obtain ⟨s0, s1, s2, s3, s4, s5⟩ := hSw; go_simp; rfl
          simp only [Act.put]
          refine gate_takeF (i := 11) (v := ?_) rfl (by kernel_rfl) (by kernel_rfl) (by kernel_rfl) (fun _ _ _ h => h) (by decide) ⟨hF, fun _ => hG⟩ (Or.inl ⟨by rfl, ?_⟩) ?_
          rotate_left
          · intro wq hSw; obtain ⟨s0, s1, s2, s3, s4, s5⟩ := hSw; go_simp; rfl
          simp only [Act.put]
          refine gate_takeF (i := 12) (v := ?_) rfl (by kernel_rfl) (by kernel_rfl) (by kernel_rfl) (fun _ _ _ h => h) (by decide) ⟨hF, fun _ => hG⟩ (Or.inl ⟨by rfl, ?_⟩) ?_
          rotate_left
          · intro wq hSw; obtain ⟨s0, s1, s2, s3, s4, s5⟩ := hSw; go_simp; rfl
          simp only [Act.put]
          refine gate_takeF (i := 14) (v := ?_) rfl (by kernel_rfl) (by kernel_rfl) (by kernel_rfl) (fun _ _ _ h => h) (by decide) ⟨hF, fun _ => hG⟩ (Or.inl ⟨by rfl, ?_⟩) ?_
          rotate_left
          · intro wq hSw; obtain ⟨s0, s1, s2, s3, s4, s5⟩ := hSw; go_simp; rfl
          simp only [Act.put]
          refine gate_takeF (i := 15) (v := ?_) rfl (by kernel_rfl) (by kernel_rfl) (by kernel_rfl) (fun _ _ _ h => h) (by decide) ⟨hF, fun _ => hG⟩ (Or.inl ⟨by rfl, ?_⟩) ?_
          rotate_left
          · intro wq hSw; obtain ⟨s0, s1, s2, s3, s4, s5⟩ := hSw; go_simp; rfl
          simp only [Act.put]
          refine gate_takeF (i := 16) (v := ?_) rfl (by kernel_rfl) (by kernel_rfl) (by kernel_rfl) (fun _ _ _ h => h) (by decide) ⟨hF, fun _ => hG⟩ (Or.inl ⟨by rfl, ?_⟩) ?_
          rotate_left
          · intro wq hSw; obtain ⟨s0, s1, s2, s3, s4, s5⟩ := hSw; go_simp; rfl
          simp only [Act.put]
          refine gate_takeF (i := 17) (v := ?_) rfl (by kernel_rfl) (by kernel_rfl) (by kernel_rfl) (fun _ _ _ h => h) (by decide) ⟨hF, fun _ => hG⟩ (Or.inl ⟨by rfl, ?_⟩) ?_
          rotate_left
          · intro wq hSw; obtain ⟨s0, s1, s2, s3, s4, s5⟩ := hSw; go_simp; rfl
          simp only [Act.put]
          refine gate_takeF (i := 18) (v := ?_) rfl (by kernel_rfl) (by kernel_rfl) (by kernel_rfl) (fun _ _ _ h => h) (by decide) ⟨hF, fun _ => hG⟩ (Or.inl ⟨by rfl, ?_⟩) ?_
          rotate_left
          · intro wq hSw; obtain ⟨s0, s1, s2, s3, s4, s5⟩ := hSw; go_simp; rfl
          simp only [Act.put]
          refine gate_takeF (i := 19) (v := ?_) rfl (by kernel_rfl) (by kernel_rfl) (by kernel_rfl) (fun _ _ _ h => h) (by decide) ⟨hF, fun _ => hG⟩ (Or.inl ⟨by rfl, ?_⟩) ?_
          rotate_left
          · intro wq hSw; obtain ⟨s0, s1, s2, s3, s4, s5⟩ := hSw; go_simp; rfl
          simp only [Act.put]
          refine gate_one (i := 10) (by kernel_rfl) rfl (fun K hK => ?_)
          go_simp
          refine (HA.out _).mono ?_
          rintro e w' ⟨rfl, rfl⟩
          refine hK _ _ ⟨hF, fun _ => hG⟩ ?_
          clear hK K
          refine gate_takeF (i := 13) (v := ?_) rfl (by kernel_rfl) (by kernel_rfl) (by kernel_rfl) (fun _ _ _ h => h) (by decide) ⟨hF, fun _ => hG⟩ (Or.inl ⟨by rfl, ?_⟩) ?_
          rotate_left
          · intro wq hSw; obtain ⟨s0, s1, s2, s3, s4, s5⟩ := hSw; go_simp; rfl
          simp only [Act.put]
          refine gate_one (i := 20) (by kernel_rfl) rfl (fun K hK => ?_)
          go_simp
          refine (HB.out _).mono ?_
          rintro e w' ⟨rfl, rfl⟩
          refine hK _ _ ⟨hF, fun _ => hG⟩ ?_
          clear hK K
          refine gate_takeF (i := 21) (v := ?_) rfl (by kernel_rfl) (by kernel_rfl) (by kernel_rfl) (fun _ _ _ h => h) (by decide) ⟨hF, fun _ => hG⟩ (Or.inl ⟨by rfl, ?_⟩) ?_
          rotate_left
          · intro wq hSw; obtain ⟨s0, s1, s2, s3, s4, s5⟩ := hSw; go_simp; rfl
          simp only [Act.put]
          refine gate_takeF (i := 22) (v := ?_) rfl (by kernel_rfl) (by kernel_rfl) (by kernel_rfl) (fun _ _ _ h => h) (by decide) ⟨hF, fun _ => hG⟩ (Or.inl ⟨by rfl, ?_⟩) ?_
          rotate_left
          · intro wq hSw; obtain ⟨s0, s1, s2, s3, s4, s5⟩ := hSw; go_simp; rfl
          simp only [Act.put]
          refine gate_takeF (i := 23) (v := ?_) rfl (by kernel_rfl) (by kernel_rfl) (by kernel_rfl) (fun _ _ _ h => h) (by decide) ⟨hF, fun _ => hG⟩ (Or.inl ⟨by rfl, ?_⟩) ?_
          rotate_left
          · intro wq hSw; obtain ⟨s0, s1, s2, s3, s4, s5⟩ := hSw; go_simp; rfl
          simp only [Act.put]
          refine gate_one (i := 24) (by kernel_rfl) rfl (fun K hK => ?_)
          go_simp
          refine hK _ _ ⟨⟨(Lat.alloc _ _).cell_at hF.1, (Lat.alloc _ _).cell_at hF.2.1, (Lat.alloc _ _).cell_at hF.2.2.1, (Lat.alloc _ _).cell_at hF.2.2.2.1, (Lat.alloc _ _).cell_at hF.2.2.2.2.1, (Lat.alloc _ _).cell_at hF.2.2.2.2.2⟩, fun _ => (Lat.alloc _ _).cell_at hG⟩ ?_
          clear hK K
          refine gate_one (i := 25) (by kernel_rfl) rfl (fun K hK => ?_)
          obtain ⟨i0, hi0, hz0, hz1, hz2⟩ := info_int_parts
          have hsl : L.length ≤ 10000 := hlen
          refine step_append_lies (wr.drew.alloc (.cells #[.int .i64 z] 3)) rfl (.tmp 24) (.tmp 47) 25 rfl (w.heap.size + 4) 3 i0 (.int .i64 0) 1 8 Tryd.underlying25 hi0 hz0 hz1 hz2 rfl (by decide) v L.length (L.map (Value.int .i64)) rfl
            (by have := Own.alloc (Own.drew HI.out.own) (.cells #[.int .i64 z] 3); unfold Own at this; rwa [List.length_map] at this) ⟨wr.heap.size, 0, none⟩ 1 1 [.int .i64 z] rfl rfl ?_ ?_ (by decide) ?_ ?_ ?_ _ rfl ?_
          · intro q u' hq
            match q, hq with
            | 0, hq =>
              simp at hq; subst hq
              rw [Addr.add_lit]; exact cell_new (by simp) rfl
          · intro u' hu'; simp at hu'; subst hu'; rfl
          · unfold maxLen; omega
          · omega
          · simp; omega
          intro g c w1' hown hgrow hat hlt'
          have HI2 : ShInv w wr.drew wd hg (some ⟨b, o, none⟩) n cap mx my v L := HI.out.drewN 1
          have hne : ∀ q, q < w.heap.size + 4 → v.ownBlock ≠ some q := fun q hq => Own.not HI.out.own hq
          have cc : ∀ (b' i' : Nat) (x : Value), b' < w.heap.size + 4 → wr.drew.cell? ⟨b', i', none⟩ = some x → w1'.cell? ⟨b', i', none⟩ = some x := fun b' i' x hb hx => grown_cell hgrow ((Lat.alloc _ _).cell_at hx) (hne b' hb)
          have hszd : w.heap.size + 4 ≤ wr.drew.heap.size := hsz
          have ff : w1'.frozen? ⟨w.heap.size + 1 + 1 + 1, 2, none⟩ = false := grown_free hgrow (Nat.lt_of_lt_of_le (show w.heap.size + 1 + 1 + 1 < wr.drew.heap.size by omega) (Lat.alloc wr.drew _).size) ((Lat.alloc _ _).free_at (show w.heap.size + 1 + 1 + 1 < wr.drew.heap.size by omega) HI2.of) (hne (w.heap.size + 1 + 1 + 1) (by omega))
          have hstep := HI2.step hgrow hown
          have hco := cc _ _ _ (by omega) hG
          have so : ∀ (b' i' : Nat) (x : Value), b' < w.heap.size + 1 + 1 + 1 → w1'.cell? ⟨b', i', none⟩ = some x → (w1'.setCell ⟨w.heap.size + 1 + 1 + 1, 2, none⟩ (.slice (some ⟨g, 0, none⟩) (L.length + 1) c)).cell? ⟨b', i', none⟩ = some x := fun b' i' x hb hx => by
            rw [World.cell?_setCell_other _ _ _ _ (by intro e; injection e with e1 e2 _; omega)]; exact hx
          refine hK _ _ (FG.past (by kernel_rfl) ⟨cc _ _ _ (by omega) hF.1, cc _ _ _ (by omega) hF.2.1, cc _ _ _ (by omega) hF.2.2.1, cc _ _ _ (by omega) hF.2.2.2.1, cc _ _ _ (by omega) hF.2.2.2.2.1, cc _ _ _ (by omega) hF.2.2.2.2.2⟩) ?_
          clear hK K
          refine gate_takeF (i := 26) (v := ?_) rfl (by kernel_rfl) (by kernel_rfl) (by kernel_rfl) (fun _ _ _ h => h) (by decide) (FG.past (by kernel_rfl) ⟨cc _ _ _ (by omega) hF.1, cc _ _ _ (by omega) hF.2.1, cc _ _ _ (by omega) hF.2.2.1, cc _ _ _ (by omega) hF.2.2.2.1, cc _ _ _ (by omega) hF.2.2.2.2.1, cc _ _ _ (by omega) hF.2.2.2.2.2⟩) (Or.inl ⟨by rfl, ?_⟩) ?_
          rotate_left
          · intro wq hSw; go_simp; rfl
          simp only [Act.put]
          refine gate_one (i := 27) (by kernel_rfl) rfl (fun K hK => ?_)
          have HH := Lib.hid hstep
          clear hstep
          go_simp
          refine hK _ _ (FG.past (by kernel_rfl) ⟨so _ _ _ (by omega) (cc _ _ _ (by omega) hF.1), so _ _ _ (by omega) (cc _ _ _ (by omega) hF.2.1), so _ _ _ (by omega) (cc _ _ _ (by omega) hF.2.2.1), so _ _ _ (by omega) (cc _ _ _ (by omega) hF.2.2.2.1), so _ _ _ (by omega) (cc _ _ _ (by omega) hF.2.2.2.2.1), so _ _ _ (by omega) (cc _ _ _ (by omega) hF.2.2.2.2.2)⟩) ?_
          clear hK K
          refine gate_done (by kernel_rfl) ?_ _
          clear hF hG cc ff so hco hne hgrow hown HI2
          go_wp2
          go_roundw
          case rel =>
            refine ⟨j + 1, by omega, by go_num, ?_⟩
            show ShSome _ _ _ _ _ _ _ _ _ (shf wd hg zs mx my (k * wd + j + 1))
            rw [HST.out]; exact ⟨_, HH.out⟩
          case measure => simp [intOf]; omega
        · obtain ⟨v, hI⟩ := hrel.out
          have hk2 : shf wd hg zs mx my (k * wd + j) = shf wd hg zs mx my ((k + 1) * wd) := by rw [Nat.succ_mul, show j = wd by omega]
          rw [hk2] at hI
          have HI := Lib.hid hI
          clear hI hrel c0 hk2
          have c0 := HI.out.p.c0
          go_wp2
          go_roundw
          case rel => exact ⟨k + 1, by omega, by go_num, v, HI.out⟩
          case measure => simp [intOf]; omega
    · obtain ⟨v, hI⟩ := hrel.out
      have hk2 : shf wd hg zs mx my (k * wd) = shf wd hg zs mx my n := by rw [← HN.out, show k = hg by omega, Nat.mul_comm]
      rw [hk2] at hI
      obtain ⟨ra, rc, hv, _⟩ := Own.slice hI.own
      obtain ⟨rn, hrn⟩ : ∃ q, q = (List.map (Value.int .i64) (shf wd hg zs mx my n)).length := ⟨_, rfl⟩
      rw [← hrn] at hv
      subst hv
      have HI := Lib.hid hI
      clear hI hrel hk2 hrn
      have c1 : wr.cell? ⟨w.heap.size, 1, none⟩ = _ := HI.out.p.c1
      have o0 := HI.out.o0
      have o1 := HI.out.o1
      have o2 := HI.out.o2
      have r0 : wr.cell? ⟨w.heap.size + 1 + 1, 0, none⟩ = _ := HI.out.r.c0
      have r1 : wr.cell? ⟨w.heap.size + 1 + 1, 1, none⟩ = _ := HI.out.r.c1
      have r2 : wr.cell? ⟨w.heap.size + 1 + 1, 2, none⟩ = _ := HI.out.r.c2
      have f0 := HI.out.rf0
      have f1 := HI.out.rf1
      have f2 := HI.out.rf2
      have q := three_set r0 r1 r2 (.int .i64 wd) (.int .i64 hg) (.slice ra rn rc)
      obtain ⟨q0, q1, q2⟩ := q
      have hw3 := Own.mono (Own.set (p := ⟨w.heap.size + 1 + 1, 2, none⟩) (Own.set (p := ⟨w.heap.size + 1 + 1, 1, none⟩) (Own.set (p := ⟨w.heap.size + 1 + 1, 0, none⟩) HI.out.own (by simp) (.int .i64 wd)) (by simp) (.int .i64 hg)) (by simp) (.slice ra rn rc)) (show w.heap.size ≤ w.heap.size + 4 by omega)
      have hl3 := lat_three HI.out.lat (show w.heap.size ≤ w.heap.size + 1 + 1 by omega) (.int .i64 wd) (.int .i64 hg) (.slice ra rn rc)
      have HW := Lib.hid hw3
      have HL3 := Lib.hid hl3
      clear hw3 hl3
      have Q0 := Lib.hid q0
      have Q1 := Lib.hid q1
      have Q2 := Lib.hid q2
      clear q0 q1 q2
      go_wp2
      exact bodyPost_ret (v := .agg #[.int .i64 wd, .int .i64 hg, .slice ra rn rc]) (by simp [results, Tryd.results132, go_sem, Q0.out, Q1.out, Q2.out]) rfl ⟨_, rfl, HW.out, HL3.out⟩
end Go.Proofs.YtooepflfofgnnaaDoor
