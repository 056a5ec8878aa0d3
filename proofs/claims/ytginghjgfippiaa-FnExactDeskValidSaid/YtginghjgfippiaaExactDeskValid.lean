/- For all desks: DeskValid of the program returns what the reference's returns and leaves its argument alone: the law FnExactDeskValid holds. No conditions. -/
import Derived.Test.YtginghjgfippiaaDeskV
import Derived.Test.YtginghjgfippiaaOpenD
import Derived.Test.YtginghjgfippiaaLawKit
namespace Go.Proofs.Ytginghjgfippiaa
open Go.RowKit Go.ChangeShapes Go.WideShapes Go.ChangeAt Go.Joins

/-- a desk that the region has made -/
def bDk (x : Dk) : TyB := fun w v => ∃ Ap lp cp Ad ld cd, v = dkV Ap lp cp Ad ld cd ∧ InD w (All w) x v
theorem keeps_bDk {x : Dk} : ∀ w w' v, KB w w' → bDk x w v → bDk x w' v := fun _ _ _ hk ⟨Ap, lp, cp, Ad, ld, cd, e, h⟩ => ⟨Ap, lp, cp, Ad, ld, cd, e, h.now hk⟩
set_option maxRecDepth 100000 in
set_option maxHeartbeats 8000000 in
theorem exactDeskValid_walk (a : Dk) (u : Value) (w : World) (hu : InD w (All w) a u) (hfa : Dk.Fit a) (hm : Hm w) :
    Calls Try.prog 5 #[u] w fun e w' => e = .returned (.bool true) ∧ Below w.heap.size w w' := by
  obtain ⟨Ap, lp, cp, Ad, ld, cd, rfl⟩ : ∃ Ap lp cp Ad ld cd, u = dkV Ap lp cp Ad ld cd := by
    obtain ⟨Ap, cp, Ad, cd, e, _⟩ := hu
    exact ⟨Ap, _, cp, Ad, _, cd, e⟩
  have hB0 := (Below.refl w.heap.size w).alloc (Nat.le_refl _) (.cells (dkCells Ap lp cp Ad ld cd) 41)
  have HB0 := Lib.hid hB0
  have HM := Lib.hid hm
  have HX0 := Lib.hid (heap_alloc_new w (.cells (dkCells Ap lp cp Ad ld cd) 41))
  have HU0 := Lib.hid (hu.now hB0)
  have HS1 := Lib.hid (laws_szDesk a _ 1048576 _ HU0.out hfa (by omega) (by omega))
  have hzz : w.heap.size < (w.alloc (.cells (dkCells Ap lp cp Ad ld cd) 41)).heap.size := by simp
  clear hu hB0 hm
  by_cases hsa : (Dk.size a : Int) ≤ 1048576
  case neg =>
    rw [szLeft_neg hsa] at HS1
    clear hsa
    go_enter Try.func5, Try.ntmps5
    go_wp2_with fail
    refine HS1.out.mono ?_
    rintro e w1 ⟨rfl, hb⟩
    have HB1 := Lib.hid (HB0.out.trans (hb.mono HB0.out.size))
    clear hb
    go_wp2
    go_ret
    exact ⟨rfl, HB1.out⟩
  rw [szLeft_pos hsa] at HS1
  have hq0 : decide ((1048576 : Int) - (Dk.size a : Int) < 0) = false := by simp; omega
  have hA : Dk.size a ≤ 1048576 := by omega
  have HFA := Lib.hid hfa
  clear hfa
  have HSP := Lib.hid (fun w3 u (hu : InD w3 (All w3) a u) => spec_DeskValid a u w3 hu hA)
  have HIM := Lib.hid (fun w3 u (hu : InD w3 (All w3) a u) hm => impl_DeskValid a u w3 hu hA hm)
  generalize Dk.valid a = r at *
  have hrr : (r != r) = false := by simp
  go_enter Try.func5, Try.ntmps5
  go_wp2_with fail
  refine HS1.out.mono ?_
  rintro e w1 ⟨rfl, hb⟩
  have HB1 := Lib.hid (HB0.out.trans (hb.mono HB0.out.size))
  have HX1 := Lib.hid (bx_keep HX0.out hb)
  have HU1 := Lib.hid (HU0.out.now hb)
  have hz1 : w.heap.size < w1.heap.size := Nat.lt_of_lt_of_le hzz hb.size
  have HTA := Lib.hid (fun w3 (hb : Below w1.heap.size w1 w3) => laws_toDesk a _ w3 (HU1.out.now hb) hA)
  have HTA1 := Lib.hid (HTA.out w1 (Below.refl _ _))
  obtain ⟨⟨y0, y1⟩, -⟩ := box_twoD HX1.out
  clear hb HS1 HX0 HU0 hzz
  go_wp2_with fail
  refine HTA1.out.mono ?_
  rintro e w2 ⟨A4, l4, c4, B4, m4, d4, rfl, hin, hb⟩
  have HSP2 := Lib.hid (HSP.out w2 _ hin)
  have HB12 := Lib.hid hb
  clear hb hin y0 y1
  go_wp2_with fail
  refine HSP2.out.mono ?_
  rintro e w3 ⟨rfl, hb⟩
  have HB13 := Lib.hid (HB12.out.trans (hb.mono HB12.out.size))
  have HX3 := Lib.hid (bx_keep HX1.out HB13.out)
  have HTA3 := Lib.hid (HTA.out w3 HB13.out)
  have hz3 : w.heap.size < w3.heap.size := Nat.lt_of_lt_of_le hz1 HB13.out.size
  obtain ⟨⟨y0, y1⟩, -⟩ := box_twoD HX3.out
  clear hb HX1
  go_wp2_with fail
  refine HTA3.out.mono ?_
  rintro e w4 ⟨A5, l5, c5, B5, m5, d5, rfl, hin, hb⟩
  have HA5 := Lib.hid ((Below.refl w4.heap.size w4).alloc (Nat.le_refl _) (.cells (dkCells A5 l5 c5 B5 m5 d5) 34))
  have HI5 := Lib.hid (hin.now HA5.out)
  have HB35 := Lib.hid (hb.trans (HA5.out.mono hb.size))
  have HB15 := Lib.hid (HB13.out.trans (HB35.out.mono HB13.out.size))
  have HM5 := Lib.hid (HM.out.below (HB1.out.trans (HB15.out.mono HB1.out.size)))
  have HX5 := Lib.hid (bx_keep HX3.out HB35.out)
  have HP5 := Lib.hid (heap_alloc_new w4 (.cells (dkCells A5 l5 c5 B5 m5 d5) 34))
  have hz5 : w.heap.size < w4.heap.size := Nat.lt_of_lt_of_le hz3 hb.size
  have hs5 : (w4.alloc (.cells (dkCells A5 l5 c5 B5 m5 d5) 34)).heap.size = w4.heap.size + 1 := by simp
  obtain ⟨⟨p0, p1⟩, -⟩ := box_twoD HP5.out
  clear hb hin y0 y1
  go_wp2_with fail
  refine (HIM.out _ _ HI5.out HM5.out).mono ?_
  rintro e w6 ⟨rfl, hb⟩
  have HB16 := Lib.hid (HB15.out.trans (hb.mono HB15.out.size))
  have HB6 := Lib.hid (HB1.out.trans (HB16.out.mono HB1.out.size))
  have HI6 := Lib.hid (HI5.out.now hb)
  have HX6 := Lib.hid (bx_keep HX5.out hb)
  have HP6 := Lib.hid (bx_keep HP5.out hb)
  have hz6 : w4.heap.size < w6.heap.size := by have := hb.size; omega
  have hz6a : w.heap.size < w6.heap.size := by omega
  clear hb p0 p1
  have HTA6 := Lib.hid (fun w7 (hb : Below w6.heap.size w6 w7) => HTA.out w7 (HB16.out.trans (hb.mono HB16.out.size)))
  have HEA := Lib.hid (fun w7 v (hb : Below w6.heap.size w6 w7) (hv : InD w7 (All w7) a v) => laws_eqDesk a _ v w7 (HI6.out.now hb) hv HFA.out)
  go_wp2_with fail
  refine wp_region_typed 4 (by kernel_rfl) (by kernel_rfl) (fun _ w => Below (World.heap w6).size w6 w) KB (fun i => ([bIs (dkV A5 l5 c5 B5 m5 d5), bIs (dkV Ap lp cp Ad ld cd), bDk a, bIs (.bool true)] : List TyB).getD i bAny) ?hWbB1 ?hkeepB1 ?hstepB1 ?hfinbB1
  case hkeepB1 =>
    refine all_lt_succ (all_lt_succ (all_lt_succ (all_lt_succ all_lt_zero ?_) ?_) ?_) ?_
    · exact keeps_bIs
    · exact keeps_bIs
    · exact keeps_bDk
    · exact keeps_bIs
  case hstepB1 =>
    refine all_lt_succ (all_lt_succ (all_lt_succ (all_lt_succ all_lt_zero ?_) ?_) ?_) ?_
    · (intro o ho m' a w1 hm' hW hb hd K Q hK; obtain rfl := Option.some.inj ho; have e0 : a.tmps[5]?.getD undef = .pointer (some ⟨w4.heap.size, 0, none⟩) := (by rw [hb 5 (by decide +kernel)]; simp); have hbl := (hW.block _ hz6).trans HP6.out; have q0 := cell_of_row w1 _ 0 _ _ _ hbl; have q1 := cell_of_row w1 _ 1 _ _ _ hbl; go_simp; exact hK _ _ hW (kb_refl _) rfl)
    · (intro o ho m' a w1 hm' hW hb hd K Q hK; obtain rfl := Option.some.inj ho; have e0 : a.tmps[1]?.getD undef = .pointer (some ⟨w.heap.size, 0, none⟩) := (by rw [hb 1 (by decide +kernel)]; simp); have hbl := (hW.block _ hz6a).trans HX6.out; have q0 := cell_of_row w1 _ 0 _ _ _ hbl; have q1 := cell_of_row w1 _ 1 _ _ _ hbl; go_simp; exact hK _ _ hW (kb_refl _) rfl)
    · (intro o ho m' a w1 hm' hW hb hd K Q hK; obtain rfl := Option.some.inj ho; have e0 := slotB (hd 1 (by kernel_rfl) 23 rfl); go_simp; refine (HTA6.out _ hW).mono ?_; rintro e w2 ⟨A9, l9, c9, B9, m9, d9, rfl, hin9, hb2⟩; exact hK _ _ (hW.trans (hb2.mono hW.size)) hb2 ⟨A9, l9, c9, B9, m9, d9, rfl, hin9⟩)
    · (intro o ho m' a w1 hm' hW hb hd K Q hK; obtain rfl := Option.some.inj ho; have e1 := slotB (hd 0 (by kernel_rfl) 22 rfl); obtain ⟨A2, l2, c2, B2, m2, d2, e2, h2⟩ := (hd 2 (by kernel_rfl) 24 rfl); rw [e2] at h2; have e2 := slotB e2; go_simp; refine (HEA.out _ _ hW h2).mono ?_; rintro e w2 ⟨rfl, hb2⟩; exact hK _ _ (hW.trans (hb2.mono hW.size)) hb2 rfl)
  case hWbB1 => exact (Below.refl _ _).drew
  case hfinbB1 =>
    intro vs w7 hW hF
    simp only [putAll, hdst, List.getElem?_cons_succ, List.getElem?_cons_zero, Option.bind, List.drop_succ_cons, List.drop_zero, Act.put]
    have h3 : vs 3 = .bool true := hF 3 (by omega)
    rw [h3]
    have HB7 := Lib.hid (HB6.out.trans (hW.mono HB6.out.size))
    clear hW hF h3
    go_simp
    go_wp2
    go_ret
    exact ⟨rfl, HB7.out⟩

set_option maxRecDepth 100000 in
theorem fnExactDeskValid_lifted (os : Os) (started : os.Started) (H : Type) (enc : TypeId × Value → H) :
    ReturnsInHanded {} Try.checked os 5 .any (Rows.fnExactDeskValidSpec.pre6 enc Try.prog Try.f5 Rows.fnExactDeskValidRow.domain false)
      (Rows.fnExactDeskValidSpec.post enc Try.prog Try.f5 false true false false) := by
  refine returnsInHanded_of_change_sh (C := Try.checked) Try.own started (by kernel_rfl) Try.func5
    (ChangeSpec.witness6 (enc := enc) (C := Try.checked) false ⟨#[], #[.agg #[.slice none 0 0, .slice none 0 0]], []⟩ 8 (by kernel_rfl) (by kernel_rfl) (by kernel_rfl) (by kernel_rfl)) ?_
  intro W base args ds gs before hval0 hW _ hsh _
  have hval : ∀ (j : Nat) t v, Try.f5.params[j]? = some t → args[j]? = some v → Value.okWide Try.prog W .any base t v := hval0
  have hW' := hW
  obtain ⟨p, q, hA0, hV, rfl, _, _⟩ := hW
  have hA : DataW.TrodAll enc Try.prog W 0 (fun _ => true) true Try.f5.params.toList args.toList ds p := hA0
  rw [Try.params5] at hA hval
  obtain ⟨v0, d0, rfl, rfl, h0⟩ := trodAll_one hA
  obtain ⟨rfl, rfl⟩ := trodVars_none hV
  obtain ⟨a, hu, hfa⟩ := open_desk Try.underlying41 (by kernel_rfl) (by kernel_rfl) Try.underlying38 Try.underlying39 Try.underlying75 (by kernel_rfl) (by kernel_rfl) Try.underlying3 Try.underlying9 Try.underlying9 Try.underlying38 Try.underlying38 Try.underlying77 (by kernel_rfl) (by kernel_rfl) Try.underlying9 Try.underlying9 Try.underlying4 Try.underlying25 Try.underlying9 (by kernel_rfl) (hval 0 _ v0 rfl rfl) h0
  refine (exactDeskValid_walk a _ W hu hfa (hm_shaped hsh)).mono fun e W' ⟨he, hw⟩ => ?_
  subst he
  exact ⟨_, rfl, law_post hW' rfl rfl (by kernel_rfl) Try.underlying4 Try.laidOut (of_decide_eq_true (by kernel_rfl)) hw⟩

theorem fnExactDeskValid_holds : Rows.FnExactDeskValidSaid :=
  OpenClaim.holds_of_wide 5 Try.f5 rfl rfl rfl rfl rfl rfl rfl ⟨rfl, rfl, rfl, rfl, rfl⟩ rfl rfl rfl rfl rfl (by kernel_rfl) Try.func5 (by kernel_rfl)
    (of_decide_eq_true (by kernel_rfl)) (by unfold Func.isWrapper; first | (rw [if_pos (by decide +kernel)]; kernel_rfl) | (rw [if_neg (by decide +kernel)]; exact ⟨rfl, rfl⟩))
    (fun os started H enc _ => fnExactDeskValid_lifted os started H enc)

#print axioms fnExactDeskValid_holds
end Go.Proofs.Ytginghjgfippiaa
