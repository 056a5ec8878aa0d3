/- Nodes drawn for the laws: walks. -/
import Derived.Test.YtdmmnjnbjigdeaaDoorNodeBent
namespace Go.Proofs.YtdmmnjnbjigdeaaDoor
open Go.RowKit

/-- the call drew a node of its own -/
def DrewN (w : World) (e : Ending) (w' : World) : Prop :=
  ∃ x k n t An ln cn Ai li ci, e = .returned (ndV k n t An ln cn Ai li ci) ∧ InN w' (Fresh w w') x (ndV k n t An ln cn Ai li ci) ∧ Nd.size x ≤ 50000 ∧ Below w.heap.size w w'
set_option maxRecDepth 100000 in
set_option maxHeartbeats 800000 in
theorem spec_DrawNodeWritten (bs : Tx) (A : Option Addr) (c : Nat) (w : World) (hr : Rd w w.heap.size A (bcells bs)) (hc : bs.length ≤ c) (hm : bs.length ≤ 1048576) :
    Calls Tryd.prog 18 #[.slice A bs.length c] w (DrewN w) := by
  go_enter Tryd.func18, Tryd.ntmps18
  have HA := Lib.hid ((Below.refl w.heap.size w).alloc (Nat.le_refl _) (.cells #[.int .i64 0, .int .i64 0, .string ⟨#[]⟩, .slice none 0 0, .slice none 0 0] 26))
  have HR := Lib.hid (hr.below HA.out)
  have HZ0 := Lib.hid (heap_alloc_new w (.cells #[.int .i64 0, .int .i64 0, .string ⟨#[]⟩, .slice none 0 0, .slice none 0 0] 26))
  clear hr
  go_wp2_with fail
  refine (spec_l20Open bs w.heap.size A c _ HR.out HA.out.size hc hm).mono ?_
  rintro e w1 ⟨rfl, hr1, hb1⟩
  have HR1 : Hid (Rdr w1 w.heap.size (w.heap.size + 1) 0) := by show Rdr _ _ _ _; simpa using hr1
  have HB1 := Lib.hid (HA.out.trans (hb1.mono HA.out.size))
  have HZ1 := Lib.hid ((hb1.block w.heap.size (by simp)).trans HZ0.out)
  have hl1 := hr1.lt
  have hs1 : w.heap.size < w1.heap.size := by have := HB1.out.size; simp at hl1; omega
  clear hr1 hb1
  go_wp2_with fail
  refine (spec_l20BentNode w.heap.size (w.heap.size + 1) 0 _ _ HR1.out (by omega) (by omega) (by omega)).mono ?_
  rintro e w2 ⟨x, k, n, t, An, ln, cn, Ai, li, ci, rfl, hin2, hz2, hr2, hg2⟩
  have HI2 := Lib.hid hin2
  have HB2 : Hid (Below w.heap.size w w2) := HB1.out.trans (grown_to_below hg2 (by omega) (fun g h => by injection h with h; omega))
  have HS2 := Lib.hid hz2
  obtain ⟨⟨f0, f1, f2, f3, f4⟩, f5, f6, f7, f8, f9⟩ := box_five ((hg2.block w.heap.size hs1 (by simp)).trans HZ1.out)
  clear hin2 hz2 hr2 hg2
  go_wp2
  refine bodyPost_ret (v := ndV k n t An ln cn Ai li ci) (by simp [results, Tryd.results18, go_sem, *]) rfl ?_
  refine ⟨x, k, n, t, An, ln, cn, Ai, li, ci, rfl, InN.keep (fun p hp => ?_) (fun j hj => ⟨by have := hj.1; omega, by have := hj.2; simpa [World.setCell] using this⟩) _ _ HI2.out, HS2.out, ?_⟩
  · have hpn : p.block ≠ w.heap.size := by have := hp.1; omega
    rw [set_cellN hpn, set_cellN hpn, set_cellN hpn, set_cellN hpn, set_cellN hpn]
  · exact Below.setCell (Below.setCell (Below.setCell (Below.setCell (Below.setCell HB2.out (Nat.le_refl _) _) (Nat.le_refl _) _) (Nat.le_refl _) _) (Nat.le_refl _) _) (Nat.le_refl _) _
end Go.Proofs.YtdmmnjnbjigdeaaDoor
