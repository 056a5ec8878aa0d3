/- For every code: the drawn parts have the program's outline as the reference's; invalid ones have none, and of valid ones each line holds something, and there are as many as parts at least: the law FnOutlineOf holds. No conditions. -/
import Derived.Test.YtginghjgfippiaaOutline
import Derived.Test.YtginghjgfippiaaLower
import Derived.Test.YtginghjgfippiaaSameS
import Derived.Test.YtginghjgfippiaaLawKit
namespace Go.Proofs.Ytginghjgfippiaa
open Go.RowKit Go.ChangeShapes Go.WideShapes Go.ChangeAt Go.Joins
set_option maxRecDepth 100000 in
set_option maxHeartbeats 4000000 in
theorem outlineOf_walk (bs : Tx) (A : Option Addr) (c : Nat) (w : World) (hr : Rd w w.heap.size A (bcells bs)) (hc : bs.length ≤ c) (hm : bs.length ≤ maxLen) (hM : Hm w) :
    Calls Try.prog 3 #[.slice A bs.length c] w fun e w' => e = .returned (.bool true) ∧ Below w.heap.size w w' := by
  unfold maxLen at hm
  by_cases h : 1048576 < bs.length
  · go_enter Try.func3, Try.ntmps3
    go_wp2
    go_ret
    exact ⟨rfl, Below.refl _ _⟩
  have HD := Lib.hid (spec_DrawOutlineOf bs A c w hr hc (by omega))
  have HM := Lib.hid hM
  clear hr hM
  go_enter Try.func3, Try.ntmps3
  go_wp2_with fail
  refine HD.out.mono ?_
  rintro e w1 ⟨A1, c1, xs, rfl, hx, hs, hb1⟩
  have HX := Lib.hid hx
  have HB1 := Lib.hid hb1
  have hz : xs.length + Pt.sizes xs ≤ 1048576 := by omega
  have hmy := manys_two hz
  have HIM := Lib.hid (impl_OutlineOf xs A1 c1 w1 hx hz (HM.out.below hb1))
  have HSP := Lib.hid (fun w3 (hb : Below w1.heap.size w1 w3) => spec_OutlineOf xs A1 c1 w3 (hx.now hb) hz)
  have HPV := Lib.hid (fun w3 (hb : Below w1.heap.size w1 w3) => spec_PartsValid xs A1 c1 w3 (hx.now hb) hz)
  have HPC := Lib.hid (fun w3 (hb : Below w1.heap.size w1 w3) => impl_PartCount xs A1 c1 w3 (hx.now hb) hz (HM.out.below (hb1.trans (hb.mono hb1.size))))
  have hol : (outl xs).length ≤ 4000000 := by
    unfold outl
    split
    · have := Pt.lines_len xs []; omega
    · simp
  have HNE : Hid (∀ l ∈ outl xs, l ≠ []) := by
    show ∀ l ∈ outl xs, l ≠ []
    unfold outl
    split
    · exact Pt.lines_ne xs []
    · intro l hl; cases hl
  have HVAL : Hid (Pt.valid xs = true → Pt.manys xs ≤ (outl xs).length) := fun hv => by rw [outl_ok hv]; exact Pt.lines_ge [] (valid_oks hv)
  have HNO : Hid (Pt.valid xs = false → (outl xs).length = 0) := fun hv => by rw [outl_no hv]; rfl
  clear hx hb1 HD
  generalize Pt.valid xs = r at *
  generalize outl xs = ls at *
  generalize Pt.manys xs = m at *
  go_wp2_with fail
  refine HIM.out.mono ?_
  rintro e w2 ⟨A2, c2, rfl, ho2, hb2⟩
  have HO2 := Lib.hid ho2
  have HB2 := Lib.hid hb2
  clear ho2 hb2
  go_wp2_with fail
  refine (HSP.out w2 HB2.out).mono ?_
  rintro e w3 ⟨A3, c3, rfl, ho3, hb3⟩
  have HSA := Lib.hid (laws_sameTexts ls ls A2 A3 c2 c3 w3 (ownS_rd (ownS_keep HO2.out hb3)) (ownS_rd ho3) (by unfold maxLen; omega))
  have HO3 := Lib.hid (ownS_keep HO2.out hb3)
  have HB3 := Lib.hid (HB2.out.trans (hb3.mono HB2.out.size))
  have hss : (ls == ls) = true := by simp
  rw [hss] at HSA
  clear ho3 hb3 hss
  go_wp2_with fail
  refine HSA.out.mono ?_
  rintro e w4 ⟨rfl, hb4⟩
  have HO4 := Lib.hid (ownS_keep HO3.out hb4)
  have HB4 := Lib.hid (HB3.out.trans (hb4.mono HB3.out.size))
  clear hb4
  go_wp2_with fail
  refine (HPV.out w4 HB4.out).mono ?_
  rintro e w5 ⟨rfl, hb5⟩
  have HO5 := Lib.hid (ownS_keep HO4.out hb5)
  have HB5 := Lib.hid (HB4.out.trans (hb5.mono HB4.out.size))
  have HW5 := Lib.hid (HB1.out.trans (HB5.out.mono HB1.out.size))
  clear hb5
  cases r
  · have hl0 := HNO.out rfl
    have hls : ls = [] := List.eq_nil_of_length_eq_zero hl0
    subst hls
    clear hl0
    have HAL := Lib.hid (laws_alive w5)
    go_wp2_with fail
    refine HAL.out.mono ?_
    rintro e w6 ⟨rfl, hb6⟩
    have HW6 := Lib.hid (HW5.out.trans (hb6.mono HW5.out.size))
    clear hb6
    go_wp2
    go_ret
    exact ⟨rfl, HW6.out⟩
  · have hge := HVAL.out rfl
    have HPC5 := Lib.hid (HPC.out w5 HB5.out rfl)
    have HRD := Lib.hid (ownS_rd HO5.out)
    go_wp2
    go_loopw [5] (fun i wr => ∃ (j : Nat), j ≤ ls.length ∧ i = .int .i64 j ∧ wr = w5) (fun i _ => ls.length - (intOf i).toNat)
    case atStart => exact ⟨0, Nat.zero_le _, rfl, rfl⟩
    case round =>
      obtain ⟨j, hj, rfl, rfl⟩ := hrel
      by_cases hlt : j < ls.length
      · obtain ⟨b, o, rfl, hb, hcell⟩ := Rd.str HRD.out hlt
        have hne : (ls[j] == []) = false := by simpa using HNE.out _ (List.getElem_mem hlt)
        generalize ls[j] = l at *
        go_wp2
        go_roundw
        case rel => exact ⟨j + 1, by omega, by go_num, by first | rfl | trivial⟩
        case measure => simp [intOf]; omega
      · go_wp2_with fail
        refine HPC5.out.mono ?_
        rintro e w6 ⟨rfl, hb6⟩
        have HW6 := Lib.hid (HW5.out.trans (hb6.mono HW5.out.size))
        have hge2 : (m : Int) ≤ (ls.length : Int) := by omega
        clear hb6
        go_wp2
        go_ret
        exact ⟨by simp, HW6.out⟩

set_option maxRecDepth 100000 in
theorem fnOutlineOf_lifted (os : Os) (started : os.Started) (H : Type) (enc : TypeId × Value → H) :
    ReturnsInHanded {} Try.checked os 3 .any (Rows.fnOutlineOfSpec.pre6 enc Try.prog Try.f3 Rows.fnOutlineOfRow.domain false)
      (Rows.fnOutlineOfSpec.post enc Try.prog Try.f3 false true false false) := by
  refine returnsInHanded_of_change_sh (C := Try.checked) Try.own started (by kernel_rfl) Try.func3
    (ChangeSpec.witness6 (enc := enc) (C := Try.checked) false ⟨#[], #[.slice none 0 0], []⟩ 8 (by kernel_rfl) (by kernel_rfl) (by kernel_rfl) (by kernel_rfl)) ?_
  intro W base args ds gs before hval0 hW _ hsh _
  have hval : ∀ (j : Nat) t v, Try.f3.params[j]? = some t → args[j]? = some v → Value.okWide Try.prog W .any base t v := hval0
  have hW' := hW
  obtain ⟨p, q, hA0, hV, rfl, _, _⟩ := hW
  have hA : DataW.TrodAll enc Try.prog W 0 (fun _ => true) true Try.f3.params.toList args.toList ds p := hA0
  rw [Try.params3] at hA hval
  obtain ⟨v0, d0, rfl, rfl, h0⟩ := trodAll_one hA
  obtain ⟨rfl, rfl⟩ := trodVars_none hV
  obtain ⟨A, c, bs, rfl, hr, hlc, hcm⟩ := open_bytes Try.underlying22 Try.underlying5 (by kernel_rfl) (hval 0 _ v0 rfl rfl) h0
  refine (outlineOf_walk bs A c W hr hlc (Nat.le_trans hlc hcm) (hm_shaped hsh)).mono fun e W' ⟨he, hw⟩ => ?_
  subst he
  exact ⟨_, rfl, law_post hW' rfl rfl (by kernel_rfl) Try.underlying4 Try.laidOut (of_decide_eq_true (by kernel_rfl)) hw⟩

theorem fnOutlineOf_holds : Rows.FnOutlineOfSaid :=
  OpenClaim.holds_of_wide 3 Try.f3 rfl rfl rfl rfl rfl rfl rfl ⟨rfl, rfl, rfl, rfl, rfl⟩ rfl rfl rfl rfl rfl (by kernel_rfl) Try.func3 (by kernel_rfl)
    (of_decide_eq_true (by kernel_rfl)) (by unfold Func.isWrapper; first | (rw [if_pos (by decide +kernel)]; kernel_rfl) | (rw [if_neg (by decide +kernel)]; exact ⟨rfl, rfl⟩))
    (fun os started H enc _ => fnOutlineOf_lifted os started H enc)

#print axioms fnOutlineOf_holds
end Go.Proofs.Ytginghjgfippiaa
