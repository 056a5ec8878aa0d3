/- NodeValid of both: walks. -/
import Derived.Test.YtdmmnjnbjigdeaaDoorNodeOkS
import Derived.Test.YtdmmnjnbjigdeaaDoorNodeLawP
namespace Go.Proofs.YtdmmnjnbjigdeaaDoor
open Go.RowKit

set_option maxRecDepth 100000 in
set_option maxHeartbeats 4000000 in
theorem impl_NodeValid (a : Nd) (u : Value) (w : World) (hu : InN w (All w) a u) (hsz : Nd.size a ≤ 1048576) :
    Calls Tryd.prog 11 #[u] w fun e w' => e = .returned (.bool (Nd.valid a)) ∧ Below w.heap.size w w' := by
  obtain ⟨k, n, t, An, ln, cn, Ai, li, ci, rfl⟩ := nd_value hu
  have hB0 := (Below.refl w.heap.size w).alloc (Nat.le_refl _) (.cells (ndCells k n t An ln cn Ai li ci) 26)
  have HB0 := Lib.hid hB0
  have HX0 := Lib.hid (heap_alloc_new w (.cells (ndCells k n t An ln cn Ai li ci) 26))
  have HU0 := Lib.hid (hu.now hB0)
  have HC := Lib.hid (impl_countNodes a _ _ HU0.out hsz)
  have HO : Hid (∀ w2, Below _ _ w2 → Calls Tryd.prog 30 #[ndV k n t An ln cn Ai li ci, .int .i64 4] w2 fun e w' => e = .returned (.bool (Nd.ok a 4)) ∧ Below w2.heap.size w2 w') := Lib.hid (fun w2 hb => impl_nodeOk a 4 _ w2 (by omega) (HU0.out.now hb) hsz)
  have hzz : w.heap.size < (w.alloc (.cells (ndCells k n t An ln cn Ai li ci) 26)).heap.size := by simp
  have HV : Hid (Nd.valid a = (Nd.ok a 4 && decide (Nd.count a ≤ 30))) := Lib.hid rfl
  clear hu hB0
  by_cases hc : Nd.count a ≤ 30
  case neg =>
    have hc' : decide ((Nd.count a : Int) ≤ 30) = false := by simp; omega
    have HE : Hid (Nd.valid a = false) := by show _ = _; rw [HV.out]; simp [hc]
    clear hc HO
    go_enter Tryd.func11, Tryd.ntmps11
    go_wp2_with fail
    refine HC.out.mono ?_
    rintro e w1 ⟨rfl, hb⟩
    have HB1 := Lib.hid (HB0.out.trans (hb.mono HB0.out.size))
    clear hb
    go_wp2
    go_ret
    exact ⟨ret_bool HE.out.symm, HB1.out⟩
  have hc' : decide ((Nd.count a : Int) ≤ 30) = true := by simp; omega
  have HE : Hid (Nd.valid a = Nd.ok a 4) := by show _ = _; rw [HV.out]; simp [hc]
  clear hc
  go_enter Tryd.func11, Tryd.ntmps11
  go_wp2_with fail
  refine HC.out.mono ?_
  rintro e w1 ⟨rfl, hb⟩
  have HO1 := Lib.hid (HO.out w1 hb)
  have HB1 := Lib.hid (HB0.out.trans (hb.mono HB0.out.size))
  obtain ⟨⟨y0, y1, y2, y3, y4⟩, -⟩ := box_five (bx_keep HX0.out hb)
  clear hb
  go_wp2_with fail
  refine HO1.out.mono ?_
  rintro e w2 ⟨rfl, hb⟩
  have HB2 := Lib.hid (HB1.out.trans (hb.mono HB1.out.size))
  clear hb
  go_wp2
  go_ret
  exact ⟨ret_bool HE.out.symm, HB2.out⟩

set_option maxRecDepth 100000 in
set_option maxHeartbeats 4000000 in
theorem spec_NodeValid (a : Nd) (u : Value) (w : World) (hu : InN w (All w) a u) (hsz : Nd.size a ≤ 1048576) :
    Calls Tryd.prog 19 #[u] w fun e w' => e = .returned (.bool (Nd.valid a)) ∧ Below w.heap.size w w' := by
  obtain ⟨k, n, t, An, ln, cn, Ai, li, ci, rfl⟩ := nd_value hu
  have hB0 := (Below.refl w.heap.size w).alloc (Nat.le_refl _) (.cells (ndCells k n t An ln cn Ai li ci) 26)
  have HB0 := Lib.hid hB0
  have HX0 := Lib.hid (heap_alloc_new w (.cells (ndCells k n t An ln cn Ai li ci) 26))
  have HU0 := Lib.hid (hu.now hB0)
  have HC := Lib.hid (fun w2 (hb : Below _ _ w2) => spec_l26Count a _ w2 (HU0.out.now hb) hsz)
  have HO : Hid (Calls Tryd.prog 40 #[ndV k n t An ln cn Ai li ci, .int .i64 4] _ fun e w' => e = .returned (.bool (Nd.ok a 4)) ∧ Below _ _ w') := Lib.hid (spec_l26Good a 4 _ _ (by omega) HU0.out hsz)
  have hzz : w.heap.size < (w.alloc (.cells (ndCells k n t An ln cn Ai li ci) 26)).heap.size := by simp
  have HV : Hid (Nd.valid a = (Nd.ok a 4 && decide (Nd.count a ≤ 30))) := Lib.hid rfl
  clear hu hB0
  cases hr : Nd.ok a 4
  · rw [hr] at HO
    have HE : Hid (Nd.valid a = false) := by show _ = _; rw [HV.out, hr]; rfl
    clear hr HC
    go_enter Tryd.func19, Tryd.ntmps19
    go_wp2_with fail
    refine HO.out.mono ?_
    rintro e w1 ⟨rfl, hb⟩
    have HB1 := Lib.hid (HB0.out.trans (hb.mono HB0.out.size))
    clear hb
    go_wp2
    go_ret
    exact ⟨ret_bool HE.out.symm, HB1.out⟩
  rw [hr] at HO
  have HE : Hid (Nd.valid a = decide ((Nd.count a : Int) ≤ 30)) := by show _ = _; rw [HV.out, hr, Bool.true_and, Bool.eq_iff_iff]; simp; omega
  clear hr
  go_enter Tryd.func19, Tryd.ntmps19
  go_wp2_with fail
  refine HO.out.mono ?_
  rintro e w1 ⟨rfl, hb⟩
  have HC1 := Lib.hid (HC.out w1 hb)
  have HB1 := Lib.hid (HB0.out.trans (hb.mono HB0.out.size))
  obtain ⟨⟨y0, y1, y2, y3, y4⟩, -⟩ := box_five (bx_keep HX0.out hb)
  clear hb
  go_wp2_with fail
  refine HC1.out.mono ?_
  rintro e w2 ⟨rfl, hb⟩
  have HB2 := Lib.hid (HB1.out.trans (hb.mono HB1.out.size))
  clear hb
  go_wp2
  go_ret
  exact ⟨ret_bool HE.out.symm, HB2.out⟩
end Go.Proofs.YtdmmnjnbjigdeaaDoor
