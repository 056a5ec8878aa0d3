/- Drawn styles: walks. -/
import Derived.Test.YtaofgcdpmeeimaaDoorDraw
namespace Go.Proofs.YtaofgcdpmeeimaaDoor
open Go.RowKit

/-- the call drew a pair of short texts, and at most m numbers -/
def DrawnP (w : World) (B g q m : Nat) (e : Ending) (w' : World) : Prop :=
  ∃ a b : Tx, e = .returned (.agg #[sv a, sv b]) ∧ a.length ≤ 100 ∧ b.length ≤ 100 ∧ Rdr w' B g (q + m) ∧ w.grownBy w' (some g)

set_option maxRecDepth 100000 in
set_option maxHeartbeats 2000000 in
theorem spec_l20Style (B g q : Nat) (n : Int) (w : World) (h : Rdr w B g q) (hq : q ≤ 100000000) (hn : n ≤ 1000000000) (hn0 : -1000000000 ≤ n) :
    Calls Tryd.prog 51 #[.pointer (some ⟨g, 0, none⟩), .int .i64 n] w (DrawnP w B g q 2) := by
  have hlt := h.lt
  have H := Lib.hid h
  clear h
  go_enter Tryd.func51, Tryd.ntmps51
  go_wp2_with fail
  refine (spec_odd B g q n _ (H.out.keep ((Below.refl _ _).alloc (Nat.le_refl _) _)) (by omega) hn hn0).mono ?_
  rintro e w1 ⟨b, rfl, hr1, hg1⟩
  have hz1 : w.heap.size < w1.heap.size := by have := hg1.size; simp at this; omega
  have hres1 : w1.heap[w.heap.size]? = (w.alloc (.cells #[.string ⟨#[]⟩, .string ⟨#[]⟩] 35)).heap[w.heap.size]? := hg1.block _ (by simp) (by simp; omega)
  rw [heap_alloc_new] at hres1
  have HR1 := Lib.hid hr1
  have HG1 := Lib.hid (grown_trans (World.grownBy_alloc w _ _) hg1)
  have HRES := Lib.hid hres1
  clear hr1 hg1 hres1
  cases b
  · go_wp2_with fail
    refine (spec_pick B g (q + 1) _ _ (HR1.out.keep ((Below.refl _ _).alloc (Nat.le_refl _) _)) (by omega) (by omega) (by omega)).mono ?_
    rintro e w2 ⟨k, rfl, hk, hr2, hg2⟩
    have hz2 : w1.heap.size < w2.heap.size := by have := hg2.size; simp at this; omega
    have hlit : w2.heap[w1.heap.size]? = _ := (hg2.block w1.heap.size (by simp) (by simp; omega)).trans (heap_alloc_new w1 _)
    have hres : w2.heap[w.heap.size]? = _ := (hg2.block w.heap.size (by simp; omega) (by simp; omega)).trans ((Below.heap_alloc w1 _ _ hz1).trans HRES.out)
    have HR2 := Lib.hid hr2
    have HG2 := Lib.hid (grown_trans (grown_alloc HG1.out _) hg2)
    obtain ⟨x, y, hx, hy, hxl, hyl⟩ := lit_pair (k := k) (B := 100) (n := 6) hlit (by decide +kernel) (by rcases hk with hk | hk <;> omega)
    have h0 : w2.cell? ⟨w.heap.size, 0, none⟩ = some (.string ⟨#[]⟩) := cell_of_row w2 _ 0 _ _ _ hres
    have h1 : w2.cell? ⟨w.heap.size, 1, none⟩ = some (.string ⟨#[]⟩) := cell_of_row w2 _ 1 _ _ _ hres
    have f0 := frozen_of_row w2 w.heap.size 0 _ _ hres
    have f1 := frozen_of_row w2 w.heap.size 1 _ _ hres
    clear hlit hres hr2 hg2
    go_wp2
    refine bodyPost_ret (v := .agg #[sv x, sv y]) (by simp [results, Tryd.results51, go_sem, h0, h1]) rfl ?_
    exact ⟨x, y, rfl, hxl, hyl, (HR2.out.frame (row := some w.heap.size) (grown_set (grown_set (grown_refl _ _) _ _) _ _) (fun k hk => by simp at hk; omega)), grown_set_new (grown_set_new HG2.out (Nat.le_refl _) _) (Nat.le_refl _) _⟩
  · go_wp2_with fail
    refine (spec_pick B g (q + 1) _ _ (HR1.out.keep ((Below.refl _ _).alloc (Nat.le_refl _) _)) (by omega) (by omega) (by omega)).mono ?_
    rintro e w2 ⟨k, rfl, hk, hr2, hg2⟩
    have hz2 : w1.heap.size < w2.heap.size := by have := hg2.size; simp at this; omega
    have hlit : w2.heap[w1.heap.size]? = _ := (hg2.block w1.heap.size (by simp) (by simp; omega)).trans (heap_alloc_new w1 _)
    have hres : w2.heap[w.heap.size]? = _ := (hg2.block w.heap.size (by simp; omega) (by simp; omega)).trans ((Below.heap_alloc w1 _ _ hz1).trans HRES.out)
    have HR2 := Lib.hid hr2
    have HG2 := Lib.hid (grown_trans (grown_alloc HG1.out _) hg2)
    obtain ⟨x, y, hx, hy, hxl, hyl⟩ := lit_pair (k := k) (B := 100) (n := 7) hlit (by decide +kernel) (by rcases hk with hk | hk <;> omega)
    have h0 : w2.cell? ⟨w.heap.size, 0, none⟩ = some (.string ⟨#[]⟩) := cell_of_row w2 _ 0 _ _ _ hres
    have h1 : w2.cell? ⟨w.heap.size, 1, none⟩ = some (.string ⟨#[]⟩) := cell_of_row w2 _ 1 _ _ _ hres
    have f0 := frozen_of_row w2 w.heap.size 0 _ _ hres
    have f1 := frozen_of_row w2 w.heap.size 1 _ _ hres
    clear hlit hres hr2 hg2
    go_wp2
    refine bodyPost_ret (v := .agg #[sv x, sv y]) (by simp [results, Tryd.results51, go_sem, h0, h1]) rfl ?_
    exact ⟨x, y, rfl, hxl, hyl, (HR2.out.frame (row := some w.heap.size) (grown_set (grown_set (grown_refl _ _) _ _) _ _) (fun k hk => by simp at hk; omega)), grown_set_new (grown_set_new HG2.out (Nat.le_refl _) _) (Nat.le_refl _) _⟩



end Go.Proofs.YtaofgcdpmeeimaaDoor
