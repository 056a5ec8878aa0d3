/- For every code: the drawn desk is judged by the program as by the reference, and as its parts and its data are; a desk of nothing is valid: the law FnDeskValid holds. No conditions. -/
import Derived.Test.YtginghjgfippiaaDeskDraw
import Derived.Test.YtginghjgfippiaaLower
import Derived.Test.YtginghjgfippiaaLawKit
import Derived.Test.YtginghjgfippiaaOpenD
namespace Go.Proofs.Ytginghjgfippiaa
open Go.RowKit Go.ChangeShapes Go.WideShapes Go.ChangeAt Go.Joins
theorem InD.both {w : World} {S : Nat → Prop} {x : Dk} {A1 A2 : Option Addr} {l1 c1 l2 c2 : Nat} (h : InD w S x (dkV A1 l1 c1 A2 l2 c2)) : RdP w S A1 x.parts ∧ RdF w S A2 x.data ∧ x.data.length ≤ c2 := by
  obtain ⟨Ap, cp, Ad, cd, e, h1, h2, h3, h4⟩ := h
  injection e with e
  simp only [Array.mk.injEq, List.cons.injEq, and_true, Value.slice.injEq] at e
  obtain ⟨⟨e1, e2, e3⟩, e4, e5, e6⟩ := e
  subst e1 e4 e6
  exact ⟨h1, h3, h4⟩
theorem zero_desk : Dk.valid ⟨[], []⟩ = true := by decide
set_option maxRecDepth 100000 in
set_option maxHeartbeats 8000000 in
theorem deskValid_walk (bs : Tx) (A : Option Addr) (c : Nat) (w : World) (hr : Rd w w.heap.size A (bcells bs)) (hc : bs.length ≤ c) (hm : bs.length ≤ maxLen) (hM : Hm w) :
    Calls Try.prog 4 #[.slice A bs.length c] w fun e w' => e = .returned (.bool true) ∧ Below w.heap.size w w' := by
  unfold maxLen at hm
  by_cases h : 1048576 < bs.length
  · go_enter Try.func4, Try.ntmps4
    go_wp2
    go_ret
    exact ⟨rfl, Below.refl _ _⟩
  have HD := Lib.hid (spec_DrawDeskValid bs A c w hr hc (by omega))
  have HM := Lib.hid hM
  clear hr hM
  go_enter Try.func4, Try.ntmps4
  go_wp2_with fail
  refine HD.out.mono ?_
  rintro e w1 ⟨A1, c1, A2, c2, x, rfl, hin, hsz, hb1⟩
  have hA0 := (Below.refl w1.heap.size w1).alloc (Nat.le_refl _) (.cells (dkCells A1 x.parts.length c1 A2 x.data.length c2) 34)
  have HX0 := Lib.hid (heap_alloc_new w1 (.cells (dkCells A1 x.parts.length c1 A2 x.data.length c2) 34))
  have hU0 := hin.now hA0
  have HB0 := Lib.hid (hb1.trans (hA0.mono hb1.size))
  have HM0 := Lib.hid (HM.out.below HB0.out)
  have hZ : Dk.size x ≤ 1048576 := by omega
  have hZp : x.parts.length + Pt.sizes x.parts ≤ 1048576 := by unfold Dk.size at hZ; omega
  have hZd : x.data.length + Fd.sizes x.data ≤ 1048576 := by unfold Dk.size at hZ; omega
  obtain ⟨hup, hud, hcd⟩ := hU0.both
  have HIM := Lib.hid (impl_DeskValid x _ _ hU0 hZ HM0.out)
  have HSP := Lib.hid (fun w3 (hb : Below _ _ w3) => spec_DeskValid x _ w3 (hU0.now hb) hZ)
  have HPV := Lib.hid (fun w3 (hb : Below _ _ w3) => impl_PartsValid x.parts A1 c1 w3 (hup.now hb) hZp (HM0.out.below hb))
  have HDV := Lib.hid (fun w3 (hb : Below _ _ w3) => impl_DataValid x.data A2 c2 w3 (hud.now hb) hcd hZd)
  have hzd : ∀ w3, Hm w3 → Calls Try.prog 14 #[dkV none 0 0 none 0 0] w3 fun e w' => e = .returned (.bool true) ∧ Below w3.heap.size w3 w' := fun w3 hm3 => by
    have h9 := impl_DeskValid ⟨[], []⟩ (dkV none 0 0 none 0 0) w3 ⟨none, 0, none, 0, rfl, RdP.nil_, Nat.le_refl _, (fun h => absurd rfl h), Nat.le_refl _⟩ (by decide) hm3
    rw [zero_desk] at h9
    exact h9
  have hv : Dk.valid x = (Pt.valid x.parts && Fd.valid x.data) := rfl
  rw [hv] at HIM HSP
  generalize x.parts.length = lp at *
  generalize x.data.length = ld at *
  generalize Pt.valid x.parts = p at *
  generalize Fd.valid x.data = f at *
  clear hv hin hup hud hcd hb1 HD hU0 hZ hZp hZd hsz
  have hrr : ((p && f) != (p && f)) = false := by simp
  have hz0 : w1.heap.size < (w1.alloc (.cells (dkCells A1 lp c1 A2 ld c2) 34)).heap.size := by simp
  go_upto_region 4 with fail
  generalize w1.alloc (.cells (dkCells A1 lp c1 A2 ld c2) 34) = w2 at *
  obtain ⟨⟨y0, y1⟩, -⟩ := box_twoK HX0.out
  clear hA0
  go_wp2_with fail
  refine HIM.out.mono ?_
  rintro e w3 ⟨rfl, hb⟩
  have HX3 := Lib.hid (bx_keep HX0.out hb)
  have HW3 := Lib.hid hb
  clear hb y0 y1 HX0
  obtain ⟨⟨y0, y1⟩, -⟩ := box_twoK HX3.out
  go_wp2_with fail
  refine (HSP.out w3 HW3.out).mono ?_
  rintro e w4 ⟨rfl, hb⟩
  have HX4 := Lib.hid (bx_keep HX3.out hb)
  have HW4 := Lib.hid (HW3.out.trans (hb.mono HW3.out.size))
  clear hb y0 y1 HX3
  obtain ⟨⟨y0, y1⟩, -⟩ := box_twoK HX4.out
  go_wp2_with fail
  refine (HPV.out w4 HW4.out).mono ?_
  rintro e w5 ⟨rfl, hb⟩
  have HX5 := Lib.hid (bx_keep HX4.out hb)
  have HW5 := Lib.hid (HW4.out.trans (hb.mono HW4.out.size))
  clear hb y0 y1 HX4 hrr
  obtain ⟨⟨y0, y1⟩, -⟩ := box_twoK HX5.out
  cases p
  · obtain ⟨w6, hw6⟩ : ∃ w6, w6 = w5 := ⟨_, rfl⟩
    subst hw6
    have HB6 := Lib.hid (HB0.out.trans (HW5.out.mono HB0.out.size))
    have HM6 := Lib.hid (HM.out.below HB6.out)
    simp only [Bool.false_and]
    have HZD := Lib.hid (hzd w6 HM6.out)
    go_wp2_with fail
    refine HZD.out.mono ?_
    rintro e w8 ⟨rfl, hb⟩
    have HB8 := Lib.hid (HB6.out.trans (hb.mono HB6.out.size))
    have HAL := Lib.hid (laws_alive w8)
    clear hb
    go_wp2_with fail
    refine HAL.out.mono ?_
    rintro e w9 ⟨rfl, hb⟩
    have HB9 := Lib.hid (HB8.out.trans (hb.mono HB8.out.size))
    clear hb
    go_wp2
    go_ret
    exact ⟨rfl, HB9.out⟩
  · have HDV5 := Lib.hid (HDV.out w5 HW5.out)
    go_wp2_with fail
    refine HDV5.out.mono ?_
    rintro e w6 ⟨rfl, hb⟩
    have HW6 := Lib.hid (HW5.out.trans (hb.mono HW5.out.size))
    have HB6 := Lib.hid (HB0.out.trans (HW6.out.mono HB0.out.size))
    have HM6 := Lib.hid (HM.out.below HB6.out)
    clear hb y0 y1
    have hff : ((true && f) == f) = true := by simp
    have HZD := Lib.hid (hzd w6 HM6.out)
    go_wp2_with fail
    refine HZD.out.mono ?_
    rintro e w8 ⟨rfl, hb⟩
    have HB8 := Lib.hid (HB6.out.trans (hb.mono HB6.out.size))
    have HAL := Lib.hid (laws_alive w8)
    clear hb
    go_wp2_with fail
    refine HAL.out.mono ?_
    rintro e w9 ⟨rfl, hb⟩
    have HB9 := Lib.hid (HB8.out.trans (hb.mono HB8.out.size))
    clear hb
    go_wp2
    go_ret
    exact ⟨rfl, HB9.out⟩

set_option maxRecDepth 100000 in
theorem fnDeskValid_lifted (os : Os) (started : os.Started) (H : Type) (enc : TypeId × Value → H) :
    ReturnsInHanded {} Try.checked os 4 .any (Rows.fnDeskValidSpec.pre6 enc Try.prog Try.f4 Rows.fnDeskValidRow.domain false)
      (Rows.fnDeskValidSpec.post enc Try.prog Try.f4 false true false false) := by
  refine returnsInHanded_of_change_sh (C := Try.checked) Try.own started (by kernel_rfl) Try.func4
    (ChangeSpec.witness6 (enc := enc) (C := Try.checked) false ⟨#[], #[.slice none 0 0], []⟩ 8 (by kernel_rfl) (by kernel_rfl) (by kernel_rfl) (by kernel_rfl)) ?_
  intro W base args ds gs before hval0 hW _ hsh _
  have hval : ∀ (j : Nat) t v, Try.f4.params[j]? = some t → args[j]? = some v → Value.okWide Try.prog W .any base t v := hval0
  have hW' := hW
  obtain ⟨p, q, hA0, hV, rfl, _, _⟩ := hW
  have hA : DataW.TrodAll enc Try.prog W 0 (fun _ => true) true Try.f4.params.toList args.toList ds p := hA0
  rw [Try.params4] at hA hval
  obtain ⟨v0, d0, rfl, rfl, h0⟩ := trodAll_one hA
  obtain ⟨rfl, rfl⟩ := trodVars_none hV
  obtain ⟨A, c, bs, rfl, hr, hlc, hcm⟩ := open_bytes Try.underlying22 Try.underlying5 (by kernel_rfl) (hval 0 _ v0 rfl rfl) h0
  refine (deskValid_walk bs A c W hr hlc (Nat.le_trans hlc hcm) (hm_shaped hsh)).mono fun e W' ⟨he, hw⟩ => ?_
  subst he
  exact ⟨_, rfl, law_post hW' rfl rfl (by kernel_rfl) Try.underlying4 Try.laidOut (of_decide_eq_true (by kernel_rfl)) hw⟩

theorem fnDeskValid_holds : Rows.FnDeskValidSaid :=
  OpenClaim.holds_of_wide 4 Try.f4 rfl rfl rfl rfl rfl rfl rfl ⟨rfl, rfl, rfl, rfl, rfl⟩ rfl rfl rfl rfl rfl (by kernel_rfl) Try.func4 (by kernel_rfl)
    (of_decide_eq_true (by kernel_rfl)) (by unfold Func.isWrapper; first | (rw [if_pos (by decide +kernel)]; kernel_rfl) | (rw [if_neg (by decide +kernel)]; exact ⟨rfl, rfl⟩))
    (fun os started H enc _ => fnDeskValid_lifted os started H enc)

#print axioms fnDeskValid_holds
end Go.Proofs.Ytginghjgfippiaa
