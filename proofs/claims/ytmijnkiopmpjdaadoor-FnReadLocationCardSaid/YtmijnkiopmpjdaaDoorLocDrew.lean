/- Locations drawn for the laws, and a location stored into a box: walks. -/
import Derived.Test.YtmijnkiopmpjdaaDoorLocDraw
import Derived.Test.YtmijnkiopmpjdaaDoorLocText
import Derived.Test.YtmijnkiopmpjdaaDoorSame
import Derived.Test.YtmijnkiopmpjdaaDoorSameS
import Derived.Test.YtmijnkiopmpjdaaDoorLower
namespace Go.Proofs.YtmijnkiopmpjdaaDoor
open Go.RowKit

/-- the call drew a location of its own -/
def DrewL (w : World) (e : Ending) (w' : World) : Prop :=
  ∃ A c l, e = .returned (lcV l A c) ∧ OwnS w' w.heap.size A c l.path ∧ SmL l ∧ l.path.length ≤ 10 ∧ Below w.heap.size w w'
theorem smL_fit {l : Lc} (h : SmL l) (hn : l.path.length ≤ 10) : FitL l :=
  ⟨by have := h.1; omega, by have := h.2.1; omega, by have := h.2.2.1; omega, by omega, fun x hx => by have := h.2.2.2 x hx; omega⟩
theorem bx_keep {w w' : World} {b : Nat} {o : Obj} (h : w.heap[b]? = some o) (hb : Below w.heap.size w w') : w'.heap[b]? = some o := by
  refine (hb.block b ?_).trans h
  rcases Nat.lt_or_ge b w.heap.size with h1 | h1
  · exact h1
  · rw [Array.getElem?_eq_none h1] at h; cases h

set_option maxRecDepth 100000 in
set_option maxHeartbeats 800000 in
theorem spec_DrawLocationValid (bs : Tx) (A : Option Addr) (c : Nat) (w : World) (hr : Rd w w.heap.size A (bcells bs)) (hc : bs.length ≤ c) (hm : bs.length ≤ 1048576) :
    Calls Tryd.prog 25 #[.slice A bs.length c] w (DrewL w) := by
  go_enter Tryd.func25, Tryd.ntmps25
  have HA := Lib.hid ((Below.refl w.heap.size w).alloc (Nat.le_refl _) (.cells #[.string ⟨#[]⟩, .string ⟨#[]⟩, .slice none 0 0, .string ⟨#[]⟩] 43))
  have HR := Lib.hid (hr.below HA.out)
  have HZ0 := Lib.hid (heap_alloc_new w (.cells #[.string ⟨#[]⟩, .string ⟨#[]⟩, .slice none 0 0, .string ⟨#[]⟩] 43))
  clear hr
  go_wp2_with fail
  refine (spec_l20Open bs w.heap.size A c _ HR.out HA.out.size hc hm).mono ?_
  rintro e w1 ⟨rfl, hr1, hb1⟩
  have HR1 : Hid (Rdr w1 w.heap.size (w.heap.size + 1) 0) := by show Rdr _ _ _ _; simpa using hr1
  have HB1 := Lib.hid (HA.out.trans (hb1.mono HA.out.size))
  have HZ1 := Lib.hid ((hb1.block w.heap.size (by simp)).trans HZ0.out)
  have hz1 : w.heap.size + 1 < w1.heap.size ∨ w.heap.size + 1 ≥ w1.heap.size := by omega
  have hl1 := hr1.lt
  have hs1 : w.heap.size < w1.heap.size := by have := HB1.out.size; simp at hl1; omega
  clear hr1 hb1 hz1
  go_wp2_with fail
  refine (spec_l20Location w.heap.size (w.heap.size + 1) 0 _ _ HR1.out (by omega) (by omega) (by omega)).mono ?_
  rintro e w2 ⟨A2, c2, l, rfl, ho2, hs2, hn2, hr2, hg2⟩
  have HO2 := Lib.hid (own_base ho2 (b := w.heap.size + 1) hs1)
  have HB2 : Hid (Below w.heap.size w w2) := HB1.out.trans (grown_to_below hg2 (by omega) (fun g h => by injection h with h; omega))
  have HS2 := Lib.hid hs2
  obtain ⟨⟨f0, f1, f2, f3⟩, f4, f5, f6, f7⟩ := box_four ((hg2.block w.heap.size hs1 (by simp)).trans HZ1.out)
  clear ho2 hs2 hr2 hg2
  go_wp2
  refine bodyPost_ret (v := lcV l A2 c2) (by simp [results, Tryd.results25, go_sem, *]) rfl ?_
  refine ⟨A2, c2, l, rfl, ?_, HS2.out, hn2, ?_⟩
  · exact own_base (own_off (own_off (own_off (own_off HO2.out (by omega)) (by omega)) (by omega)) (by omega)) (by omega)
  · exact Below.setCell (Below.setCell (Below.setCell (Below.setCell HB2.out (Nat.le_refl _) _) (Nat.le_refl _) _) (Nat.le_refl _) _) (Nat.le_refl _) _
set_option maxRecDepth 100000 in
set_option maxHeartbeats 800000 in
theorem spec_DrawLocationText (bs : Tx) (A : Option Addr) (c : Nat) (w : World) (hr : Rd w w.heap.size A (bcells bs)) (hc : bs.length ≤ c) (hm : bs.length ≤ 1048576) :
    Calls Tryd.prog 33 #[.slice A bs.length c] w (DrewL w) := by
  go_enter Tryd.func33, Tryd.ntmps33
  have HA := Lib.hid ((Below.refl w.heap.size w).alloc (Nat.le_refl _) (.cells #[.string ⟨#[]⟩, .string ⟨#[]⟩, .slice none 0 0, .string ⟨#[]⟩] 43))
  have HR := Lib.hid (hr.below HA.out)
  have HZ0 := Lib.hid (heap_alloc_new w (.cells #[.string ⟨#[]⟩, .string ⟨#[]⟩, .slice none 0 0, .string ⟨#[]⟩] 43))
  clear hr
  go_wp2_with fail
  refine (spec_l20Open bs w.heap.size A c _ HR.out HA.out.size hc hm).mono ?_
  rintro e w1 ⟨rfl, hr1, hb1⟩
  have HR1 : Hid (Rdr w1 w.heap.size (w.heap.size + 1) 0) := by show Rdr _ _ _ _; simpa using hr1
  have HB1 := Lib.hid (HA.out.trans (hb1.mono HA.out.size))
  have HZ1 := Lib.hid ((hb1.block w.heap.size (by simp)).trans HZ0.out)
  have hz1 : w.heap.size + 1 < w1.heap.size ∨ w.heap.size + 1 ≥ w1.heap.size := by omega
  have hl1 := hr1.lt
  have hs1 : w.heap.size < w1.heap.size := by have := HB1.out.size; simp at hl1; omega
  clear hr1 hb1 hz1
  go_wp2_with fail
  refine (spec_l20Location w.heap.size (w.heap.size + 1) 0 _ _ HR1.out (by omega) (by omega) (by omega)).mono ?_
  rintro e w2 ⟨A2, c2, l, rfl, ho2, hs2, hn2, hr2, hg2⟩
  have HO2 := Lib.hid (own_base ho2 (b := w.heap.size + 1) hs1)
  have HB2 : Hid (Below w.heap.size w w2) := HB1.out.trans (grown_to_below hg2 (by omega) (fun g h => by injection h with h; omega))
  have HS2 := Lib.hid hs2
  obtain ⟨⟨f0, f1, f2, f3⟩, f4, f5, f6, f7⟩ := box_four ((hg2.block w.heap.size hs1 (by simp)).trans HZ1.out)
  clear ho2 hs2 hr2 hg2
  go_wp2
  refine bodyPost_ret (v := lcV l A2 c2) (by simp [results, Tryd.results33, go_sem, *]) rfl ?_
  refine ⟨A2, c2, l, rfl, ?_, HS2.out, hn2, ?_⟩
  · exact own_base (own_off (own_off (own_off (own_off HO2.out (by omega)) (by omega)) (by omega)) (by omega)) (by omega)
  · exact Below.setCell (Below.setCell (Below.setCell (Below.setCell HB2.out (Nat.le_refl _) _) (Nat.le_refl _) _) (Nat.le_refl _) _) (Nat.le_refl _) _
end Go.Proofs.YtmijnkiopmpjdaaDoor
