/- Drawn texts and addresses: walks. -/
import Derived.Test.YtginghjgfippiaaDrawS
namespace Go.Proofs.Ytginghjgfippiaa
open Go.RowKit

set_option maxRecDepth 100000 in
set_option maxHeartbeats 2000000 in
theorem spec_l20Address (B g q : Nat) (w : World) (h : Rdr w B g q) (hq : q ≤ 900000000) :
    Calls Try.prog 70 #[.pointer (some ⟨g, 0, none⟩)] w fun e w' => ∃ t : Tx, e = .returned (sv t) ∧ t.length ≤ 40 ∧ Rdr w' B g (q + 1) ∧ w.grownBy w' (some g) := by
  have hlt := h.lt
  have H := Lib.hid h
  clear h
  go_enter Try.func70, Try.ntmps70
  go_wp2_with fail
  refine (spec_pick B g _ 16 _ (H.out.keep ((Below.refl _ _).alloc (Nat.le_refl _) _)) (by omega) (by omega) (by omega)).mono ?_
  rintro e w2 ⟨k, rfl, hk, hr2, hg2⟩
  have hlit : w2.heap[w.heap.size]? = _ := (hg2.block w.heap.size (by simp) (by simp; omega)).trans (heap_alloc_new w _)
  obtain ⟨x, hxc, hx⟩ := lit_str (k := k) (B := 40) (n := 16) hlit (by decide +kernel) (by omega)
  have hk' : k < 16 := by omega
  have HR2 := Lib.hid hr2
  have HG2 := Lib.hid (grown_trans (World.grownBy_alloc w _ _) hg2)
  clear hlit hk hr2 hg2
  go_wp2
  go_ret
  exact ⟨x, rfl, hx, HR2.out.more (by omega), HG2.out⟩
set_option maxRecDepth 100000 in
set_option maxHeartbeats 2000000 in
theorem spec_l20Text (B g q : Nat) (n : Int) (w : World) (h : Rdr w B g q) (hq : q ≤ 900000000) (hn : n ≤ 1000000000) (hn0 : -1000000000 ≤ n) :
    Calls Try.prog 69 #[.pointer (some ⟨g, 0, none⟩), .int .i64 n] w fun e w' => ∃ t : Tx, e = .returned (sv t) ∧ t.length ≤ 100 ∧ Rdr w' B g (q + 10) ∧ w.grownBy w' (some g) := by
  have hlt := h.lt
  have H := Lib.hid h
  clear h
  go_enter Try.func69, Try.ntmps69
  go_wp2_with fail
  refine (spec_pick B g q 7 _ H.out (by omega) (by omega) (by omega)).mono ?_
  rintro e w1 ⟨k1, rfl, hk1, hr1, hg1⟩
  have HR1 := Lib.hid hr1
  have HG1 := Lib.hid hg1
  have hk1' : k1 ≤ 6 := by omega
  clear hr1 hg1 hk1
  go_wp2
  go_loopw [5, 6] (fun t i wr => ∃ (k : Nat) (x : Tx) (qk : Nat), k ≤ 6 ∧ i = .int .i64 (k : Int) ∧ t = sv x ∧ x.length + 12 * k ≤ 72 ∧ Rdr wr B g qk ∧ qk + k ≤ q + 7 ∧ w.grownBy wr (some g)) (fun _ i _ => (intOf i).toNat)
  case atStart => exact ⟨k1, [], q + 1, hk1', rfl, rfl, by simp; omega, HR1.out, by omega, HG1.out⟩
  case round =>
    obtain ⟨k, x, qk, hk, rfl, rfl, hx, hr, hqk, hg⟩ := hrel
    have HR := Lib.hid hr
    have HG := Lib.hid hg
    clear hr hg HR1 HG1
    have hgw : g < wr.heap.size := HR.out.lt
    by_cases hk0 : k = 0
    · subst hk0
      go_wp2_with fail
      refine (spec_odd B g qk n wr HR.out (by omega) hn hn0).mono ?_
      rintro e w2 ⟨bo, rfl, hr2, hg2⟩
      have HR2 := Lib.hid hr2
      have HG2 := Lib.hid (grown_trans HG.out hg2)
      have hgw2 : g < w2.heap.size := HR2.out.lt
      clear hr2 hg2
      cases bo
      · go_wp2
        go_ret
        exact ⟨x, rfl, by omega, HR2.out.more (by omega), HG2.out⟩
      · go_wp2_with fail
        refine (spec_pick B g _ 3 _ (HR2.out.keep ((Below.refl _ _).alloc (Nat.le_refl _) _)) (by omega) (by omega) (by omega)).mono ?_
        rintro e w3 ⟨k3, rfl, hk3, hr3, hg3⟩
        have hlit : w3.heap[w2.heap.size]? = _ := (hg3.block w2.heap.size (by simp) (by simp; omega)).trans (heap_alloc_new w2 _)
        obtain ⟨y, hyc, hy⟩ := lit_str (k := k3) (B := 12) (n := 3) hlit (by decide +kernel) (by omega)
        have hk3' : k3 < 3 := by omega
        have HR3 := Lib.hid hr3
        have HG3 := Lib.hid (grown_trans HG2.out (grown_trans (World.grownBy_alloc w2 _ _) hg3))
        have hsum : (9223372036854775807 < x.length + y.length) = False := by rw [eq_iff_iff, iff_false]; omega
        clear hlit hk3 hr3 hg3
        go_wp2
        go_ret
        exact ⟨x ++ y, rfl, by simp; omega, HR3.out.more (by omega), HG3.out⟩
    · obtain ⟨k, rfl⟩ : ∃ k', k = k' + 1 := ⟨k - 1, by omega⟩
      clear hk0
      go_wp2_with fail
      refine (spec_pick B g _ 20 _ (HR.out.keep ((Below.refl _ _).alloc (Nat.le_refl _) _)) (by omega) (by omega) (by omega)).mono ?_
      rintro e w3 ⟨k3, rfl, hk3, hr3, hg3⟩
      have hlit : w3.heap[wr.heap.size]? = _ := (hg3.block wr.heap.size (by simp) (by simp; omega)).trans (heap_alloc_new wr _)
      obtain ⟨y, hyc, hy⟩ := lit_str (k := k3) (B := 12) (n := 20) hlit (by decide +kernel) (by omega)
      have hk3' : k3 < 20 := by omega
      have HR3 := Lib.hid hr3
      have HG3 := Lib.hid (grown_trans HG.out (grown_trans (World.grownBy_alloc wr _ _) hg3))
      have hsum : (9223372036854775807 < x.length + y.length) = False := by rw [eq_iff_iff, iff_false]; omega
      clear hlit hk3 hr3 hg3
      go_wp2
      go_roundw
      case rel => exact ⟨k, x ++ y, qk + 1, by omega, by go_num, rfl, by simp; omega, HR3.out, by omega, HG3.out⟩
      case measure => first | (simp [intOf]; done) | (simp [intOf]; omega)
end Go.Proofs.Ytginghjgfippiaa
