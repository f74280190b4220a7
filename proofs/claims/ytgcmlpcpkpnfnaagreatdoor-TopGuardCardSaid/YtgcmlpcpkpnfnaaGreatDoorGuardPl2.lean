/- What guard.Add puts behind blocks is blocks again; a row of the call's own as a block. -/
import Derived.Test.YtgcmlpcpkpnfnaaGreatDoorGuardAdd
namespace Go.Proofs.YtgcmlpcpkpnfnaaGreatDoor
open Go.ChangeShapes Go.WideShapes Go.ChangeAt Go.RowKit

theorem ovG_size {ss : List ByteArray} (h : ChkOk ss) (e g : Nat) : (ovG ss e g).size = szAt ss 0 := by
  unfold ovG
  show (ovl (szAt ss 0) (bts (grpAt ss ss.length e g))).toArray.size = szAt ss 0
  rw [List.size_toArray]
  refine ovl_len _ fun b hb => ?_
  exact bts_len (fun s hs => add_sizes h s (List.mem_of_mem_take (List.mem_of_mem_drop (List.mem_of_mem_take hs)))) b hb
theorem addS_length (ss : List ByteArray) (e : Nat) : (addS ss e).length = ss.length + grps ss.length e := by simp [addS]
theorem addS_sizes {ss : List ByteArray} (h : ChkOk ss) (e : Nat) : ∀ s ∈ addS ss e, s.size = szAt ss 0 := fun s hs => by
  rcases List.mem_append.1 hs with hs | hs
  · exact add_sizes h s hs
  · obtain ⟨g, _, rfl⟩ := List.mem_map.1 hs
    exact ovG_size h e g
theorem szAt_mem {ss : List ByteArray} {m : Nat} (h : ∀ s ∈ ss, s.size = m) (j : Nat) (hj : j < ss.length) : szAt ss j = m := by
  unfold szAt
  rw [List.getD_eq_getElem?_getD, List.getElem?_eq_getElem hj]
  exact h _ (List.getElem_mem hj)
theorem addS_ok {ss : List ByteArray} (h : ChkOk ss) (e : Nat) (hf : ss.length + grps ss.length e ≤ 16) : ChkOk (addS ss e) ∧ szAt (addS ss e) 0 = szAt ss 0 := by
  have hp := h.pos
  have hl := addS_length ss e
  have hz := fun j hj => szAt_mem (addS_sizes h e) j hj
  have h0 := hz 0 (by omega)
  exact ⟨⟨by omega, by omega, by rw [h0]; exact h.one, by rw [h0]; exact h.eight, fun j hj => by rw [h0]; exact hz j hj⟩, h0⟩

/-- A row of the call's own that holds something is a block of its own. -/
theorem Own.blk {w : World} {B n cap : Nat} {a : Option Addr} {e : TypeId} {xs : List Value} (h : Own w B e (.slice a n cap) xs) (hn : 1 ≤ xs.length) :
    ∃ g, a = some ⟨g, 0, none⟩ ∧ B ≤ g ∧ n = xs.length ∧ n ≤ cap ∧ cap ≤ maxLen ∧ Blk w g n (fun j => xs.getD j undef) := by
  obtain ⟨a1, c1, hv, hr⟩ := Own.slice h
  injection hv with e1 e2 e3
  subst e1
  subst e2
  subst e3
  obtain ⟨h0, h2⟩ := h
  rcases h2 with ⟨hv, hz⟩ | ⟨g, cap1, cur, hv, hg, hh, hnc, hc, hs, ht⟩
  · omega
  injection hv with e1 _ _
  subst e1
  obtain ⟨b, o, hab, hcell⟩ := hr.at_ (by omega)
  injection hab with hab
  injection hab with hb ho _
  subst hb
  subst ho
  refine ⟨g, rfl, hg, rfl, hr.le, hr.cap, ⟨(Array.getElem?_eq_some_iff.1 hh).1, fun j hj => by have := hcell j hj; rwa [Nat.zero_add] at this, fun j _ => ?_⟩⟩
  simp [World.frozen?, hh]
end Go.Proofs.YtgcmlpcpkpnfnaaGreatDoor
