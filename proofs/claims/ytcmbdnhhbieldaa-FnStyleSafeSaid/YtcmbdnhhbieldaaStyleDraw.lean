/- Drawn styles: walks. -/
import Derived.Test.YtcmbdnhhbieldaaDraw
namespace Go.Proofs.Ytcmbdnhhbieldaa
open Go.RowKit

/-- the call drew a pair of short texts, and at most m numbers -/
def DrawnP (w : World) (B g q m : Nat) (e : Ending) (w' : World) : Prop :=
  ∃ a b : Tx, e = .returned (.agg #[sv a, sv b]) ∧ a.length ≤ 100 ∧ b.length ≤ 100 ∧ Rdr w' B g (q + m) ∧ w.grownBy w' (some g)

set_option maxHeartbeats 2000000 in
theorem spec_l20Style (B g q : Nat) (n : Int) (w : World) (h : Rdr w B g q) (hq : q ≤ 100000000) (hn : n ≤ 1000000000) (hn0 : -1000000000 ≤ n) :
    Calls Try.prog 39 #[.pointer (some ⟨g, 0, none⟩), .int .i64 n] w (DrawnP w B g q 2) := by
  have hlt := h.lt
  have H := Lib.hid h
  clear h
  go_enter Try.func39, Try.ntmps39
  go_wp2_with fail
  refine (spec_odd B g q n _ (H.out.keep ((Below.refl _ _).alloc (Nat.le_refl _) _)) (by omega) hn hn0).mono ?_
  rintro e w1 ⟨b, rfl, hr1, hg1⟩
  have hz1 : w.heap.size < w1.heap.size := by have := hg1.size; simp at this; omega
  have hres1 : w1.heap[w.heap.size]? = (w.alloc (.cells #[.string ⟨#[]⟩, .string ⟨#[]⟩] 26)).heap[w.heap.size]? := hg1.block _ (by simp) (by simp; omega)
  rw [heap_alloc_new] at hres1
  have HR1 := Lib.hid hr1
  have HG1 := Lib.hid (grown_trans (World.grownBy_alloc w _ _) hg1)
  have HRES := Lib.hid hres1
  clear hr1 hg1 hres1
  cases b
  · go_wp2_with fail
    refine (spec_pick B g (q + 1) _ _ (HR1.out.keep ((Below.refl _ _).alloc (Nat.le_refl _) _)) (by omega) (by omega) (by omega)).mono ?_
    rintro e w2 ⟨k, rfl, hk, hr2, hg2⟩
    have hz2 : w1.heap.size < w2.heap.size := by have := hg2.size; simp at this; omega
    have hlit : w2.heap[w1.heap.size]? = _ := (hg2.block w1.heap.size (by simp) (by simp; omega)).trans (heap_alloc_new w1 _)
    have hres : w2.heap[w.heap.size]? = _ := (hg2.block w.heap.size (by simp; omega) (by simp; omega)).trans ((Below.heap_alloc w1 _ _ hz1).trans HRES.out)
    have HR2 := Lib.hid hr2
    have HG2 := Lib.hid (grown_trans (grown_alloc HG1.out _) hg2)
    obtain ⟨x, y, hx, hy, hxl, hyl⟩ := lit_pair (k := k) (B := 100) (n := 6) hlit (by decide +kernel) (by rcases hk with hk | hk <;> omega)
    have h0 : w2.cell? ⟨w.heap.size, 0, none⟩ = some (.string ⟨#[]⟩) := cell_of_row w2 _ 0 _ _ _ hres
    have h1 : w2.cell? ⟨w.heap.size, 1, none⟩ = some (.string ⟨#[]⟩) := cell_of_row w2 _ 1 _ _ _ hres
    have f0 := frozen_of_row w2 w.heap.size 0 _ _ hres
    have f1 := frozen_of_row w2 w.heap.size 1 _ _ hres
    clear hlit hres hr2 hg2
    go_wp2
    refine bodyPost_ret (v := .agg #[sv x, sv y]) (by simp [results, Try.results39, go_sem, h0, h1]) rfl ?_
    exact ⟨x, y, rfl, hxl, hyl, (HR2.out.frame (row := some w.heap.size) (grown_set (grown_set (grown_refl _ _) _ _) _ _) (fun k hk => by simp at hk; omega)), grown_set_new (grown_set_new HG2.out (Nat.le_refl _) _) (Nat.le_refl _) _⟩
  · go_wp2_with fail
    refine (spec_pick B g (q + 1) _ _ (HR1.out.keep ((Below.refl _ _).alloc (Nat.le_refl _) _)) (by omega) (by omega) (by omega)).mono ?_
    rintro e w2 ⟨k, rfl, hk, hr2, hg2⟩
    have hz2 : w1.heap.size < w2.heap.size := by have := hg2.size; simp at this; omega
    have hlit : w2.heap[w1.heap.size]? = _ := (hg2.block w1.heap.size (by simp) (by simp; omega)).trans (heap_alloc_new w1 _)
    have hres : w2.heap[w.heap.size]? = _ := (hg2.block w.heap.size (by simp; omega) (by simp; omega)).trans ((Below.heap_alloc w1 _ _ hz1).trans HRES.out)
    have HR2 := Lib.hid hr2
    have HG2 := Lib.hid (grown_trans (grown_alloc HG1.out _) hg2)
    obtain ⟨x, y, hx, hy, hxl, hyl⟩ := lit_pair (k := k) (B := 100) (n := 7) hlit (by decide +kernel) (by rcases hk with hk | hk <;> omega)
    have h0 : w2.cell? ⟨w.heap.size, 0, none⟩ = some (.string ⟨#[]⟩) := cell_of_row w2 _ 0 _ _ _ hres
    have h1 : w2.cell? ⟨w.heap.size, 1, none⟩ = some (.string ⟨#[]⟩) := cell_of_row w2 _ 1 _ _ _ hres
    have f0 := frozen_of_row w2 w.heap.size 0 _ _ hres
    have f1 := frozen_of_row w2 w.heap.size 1 _ _ hres
    clear hlit hres hr2 hg2
    go_wp2
    refine bodyPost_ret (v := .agg #[sv x, sv y]) (by simp [results, Try.results39, go_sem, h0, h1]) rfl ?_
    exact ⟨x, y, rfl, hxl, hyl, (HR2.out.frame (row := some w.heap.size) (grown_set (grown_set (grown_refl _ _) _ _) _ _) (fun k hk => by simp at hk; omega)), grown_set_new (grown_set_new HG2.out (Nat.le_refl _) _) (Nat.le_refl _) _⟩

/-- the call drew a pair of short texts; below its own blocks nothing has turned -/
def DrewP (w : World) (e : Ending) (w' : World) : Prop := ∃ a b : Tx, e = .returned (.agg #[sv a, sv b]) ∧ a.length ≤ 100 ∧ b.length ≤ 100 ∧ Below w.heap.size w w'

set_option maxHeartbeats 2000000 in
theorem spec_DrawStyleSafe (bs : Tx) (A : Option Addr) (c : Nat) (w : World) (hr : Rd w w.heap.size A (bcells bs)) (hc : bs.length ≤ c) (hm : bs.length ≤ 1048576) :
    Calls Try.prog 20 #[.slice A bs.length c] w (DrewP w) := by
  have HR := Lib.hid hr
  clear hr
  go_enter Try.func20, Try.ntmps20
  go_wp2_with fail
  refine (spec_l20Open bs w.heap.size A c _ (HR.out.below ((Below.refl _ _).alloc (Nat.le_refl _) _)) (by simp) hc hm).mono ?_
  rintro e w1 ⟨rfl, hr1, hb1⟩
  have HR1 := Lib.hid hr1
  have HB1 := Lib.hid hb1
  clear hr1 hb1
  simp only [World.size_alloc] at HR1
  go_wp2_with fail
  refine (spec_l20Style w.heap.size (w.heap.size + 1) 0 2 _ (by simpa using HR1.out) (by omega) (by omega) (by omega)).mono ?_
  rintro e w2 ⟨a, b, rfl, ha, hb, hr2, hg2⟩
  have hb2 : Below w.heap.size w w2 := by
    refine Below.trans ?_ (grown_to_below hg2 (by have := HB1.out.size; simp at this; omega) (fun g h => by simp at h; omega))
    exact ((Below.refl _ _).alloc (Nat.le_refl _) _).trans (HB1.out.mono (by simp))
  have hres : w2.heap[w.heap.size]? = _ := (hg2.block w.heap.size (by have := HB1.out.size; simp at this; omega) (by simp)).trans ((HB1.out.block _ (by simp)).trans (heap_alloc_new w _))
  have h0 : w2.cell? ⟨w.heap.size, 0, none⟩ = some (.string ⟨#[]⟩) := cell_of_row w2 _ 0 _ _ _ hres
  have h1 : w2.cell? ⟨w.heap.size, 1, none⟩ = some (.string ⟨#[]⟩) := cell_of_row w2 _ 1 _ _ _ hres
  have f0 := frozen_of_row w2 w.heap.size 0 _ _ hres
  have f1 := frozen_of_row w2 w.heap.size 1 _ _ hres
  have HB2 := Lib.hid hb2
  clear hres hr2 hg2 hb2
  go_wp2
  refine bodyPost_ret (v := .agg #[sv a, sv b]) (by simp [results, Try.results20, go_sem, h0, h1]) rfl ?_
  exact ⟨a, b, rfl, ha, hb, (HB2.out.setCell (Nat.le_refl _) _).setCell (Nat.le_refl _) _⟩

end Go.Proofs.Ytcmbdnhhbieldaa
