/- For all lists of texts: RowText of the program returns what the reference's returns, and leaves the list alone: the card FnExactRowTextCardSaid holds. No conditions. -/
import Derived.Test.YtaofgcdpmeeimaaDoorRow
import Derived.Test.YtaofgcdpmeeimaaDoorStrS
import Derived.Test.YtaofgcdpmeeimaaDoorOpenS
import Derived.Test.YtaofgcdpmeeimaaDoorCardKit
namespace Go.Proofs.YtaofgcdpmeeimaaDoor
open Go.RowKit Go.ChangeShapes Go.WideShapes Go.ChangeAt Go.Joins
open Go.ChangeMaps (open_string shut_string)

theorem rowText_len (ps : List Tx) : (rowText ps).length ≤ 1048576 := by
  unfold rowText
  split
  · rename_i h
    rw [Bool.and_eq_true] at h
    have h6 : ps.length ≤ 6 := by simpa using h.1
    have hall := List.all_eq_true.1 h.2
    have : ∀ k, k ≤ ps.length → (Lib.join (rowParts ps k) comma).length ≤ 63 * k := by
      intro k
      induction k with
      | zero => intro _; simp [rowParts, Lib.join]
      | succ k ih =>
        intro hk
        have ih := ih (by omega)
        have hc := cellText_len ps[k] (cellOk_len (hall _ (List.getElem_mem (by omega))))
        rw [rowParts_succ ps k (by omega), join_snoc]
        split
        · omega
        · have hcl : comma.length = 1 := rfl
          rw [List.length_append, List.length_append]; omega
    have := this ps.length (Nat.le_refl _)
    omega
  · simp
set_option maxRecDepth 100000 in
set_option maxHeartbeats 4000000 in
theorem exactRowText_walk (ps : List Tx) (A : Option Addr) (c : Nat) (w : World) (hr : Rd w w.heap.size A (scells ps)) (hf : FitS ps) (hn : ps.length ≤ maxLen) (hm : Hm w) :
    Calls Tryd.prog 9 #[.slice A ps.length c] w fun e w' => e = .returned (.bool true) ∧ Below w.heap.size w w' := by
  by_cases h : (1048576 : Int) < ps.length + ssize ps
  · have HC := Lib.hid (laws_szStringS_over ps A c 1048576 w hr hf (by omega) (by omega) hn h)
    clear h
    go_enter Tryd.func9, Tryd.ntmps9
    go_wp2_with fail
    refine HC.out.mono ?_
    rintro e w' ⟨rfl, rfl⟩
    go_wp2
    go_ret
    exact ⟨rfl, Below.refl _ _⟩
  · have HC := Lib.hid (laws_szStringS_fits ps A c 1048576 w hr (by omega) (by omega) hn (by omega))
    have hle : ps.length ≤ 1048576 := by omega
    have h1 : 0 ≤ (1048576 : Int) - ps.length - ssize ps := by omega
    clear h
    generalize (1048576 : Int) - ps.length - ssize ps = q at *
    have HI := Lib.hid (fun A c w hr hm => impl_RowText ps A c w hr hf hn hm)
    have HS := Lib.hid (fun A c w hr => spec_RowText ps A c w hr hf (by omega))
    have hrl := rowText_len ps
    have HM := Lib.hid hm
    clear hm
    generalize rowText ps = out at *
    go_enter Tryd.func9, Tryd.ntmps9
    go_wp2_with fail
    refine HC.out.mono ?_
    rintro e w1 ⟨rfl, rfl⟩
    have HB1 := Lib.hid (Below.refl w.heap.size w)
    go_wp2_with fail
    refine (laws_toStringS ps A c _ ((hr.below HB1.out).more HB1.out.size) hle).mono ?_
    rintro e w2 ⟨A2, c2, rfl, ho2, hb2⟩
    have HB2 := Lib.hid (HB1.out.trans (hb2.mono HB1.out.size))
    have HO2 := Lib.hid ho2
    clear hb2 ho2
    go_wp2_with fail
    refine (HS.out A2 c2 _ (ownS_rd HO2.out)).mono ?_
    rintro e w3 ⟨rfl, hb3⟩
    have HB3 := Lib.hid (HB2.out.trans (hb3.mono HB2.out.size))
    clear hb3
    go_wp2_with fail
    refine (laws_toStringS ps A c _ ((hr.below HB3.out).more HB3.out.size) hle).mono ?_
    rintro e w4 ⟨A4, c4, rfl, ho4, hb4⟩
    have HB4 := Lib.hid (HB3.out.trans (hb4.mono HB3.out.size))
    have HO4 := Lib.hid ho4
    clear hb4 ho4
    go_wp2_with fail
    refine (HI.out A4 c4 _ (ownS_rd HO4.out) (HM.out.below HB4.out)).mono ?_
    rintro e w5 ⟨rfl, hb5⟩
    have HB5 := Lib.hid (HB4.out.trans (hb5.mono HB4.out.size))
    have HO4 := Lib.hid (ownS_keep HO4.out hb5)
    clear hb5
    go_wp2_with fail
    refine (laws_toStringS ps A c _ ((hr.below HB5.out).more HB5.out.size) hle).mono ?_
    rintro e w7 ⟨A7, c7, rfl, ho7, hb7⟩
    have HB7 := Lib.hid (HB5.out.trans (hb7.mono HB5.out.size))
    have HO7 := Lib.hid ho7
    have HO4 := Lib.hid (ownS_keep HO4.out hb7)
    clear hb7 ho7
    go_wp2_with fail
    refine (laws_eqStringS ps ps A4 A7 c4 c7 _ (ownS_rd HO4.out) (ownS_rd HO7.out) hn).mono ?_
    rw [beq_self_eq_true]
    rintro e w8 ⟨rfl, hb8⟩
    have HB8 := Lib.hid (HB7.out.trans (hb8.mono HB7.out.size))
    clear hb8
    go_wp2
    go_ret
    exact ⟨rfl, HB8.out⟩

theorem Tryd.cells_string : Tryd.prog.cellsOf 9 = 1 := by kernel_rfl
set_option maxRecDepth 100000 in
theorem fnExactRowText_lifted (os : Os) (started : os.Started) (H : Type) (enc : TypeId × Value → H) :
    ReturnsInHanded {} Tryd.checked os 9 .any (fun w args => (Rows.fnExactRowTextSpec.pre enc Tryd.prog Tryd.f9 Rows.fnExactRowTextRow.domain false w args ∧ laidMetH Tryd.prog Rows.fnExactRowTextRow.laid w) ∧ sizedMet enc Tryd.prog Tryd.f9 (OpenSpec.ofChange Rows.fnExactRowTextSpec) false w args)
      (Rows.fnExactRowTextSpec.post enc Tryd.prog Tryd.f9 false true false false) := by
  refine returnsInHanded_of_change_and_shaped (C := Tryd.checked) (X := fun w _ => laidMetH Tryd.prog Rows.fnExactRowTextRow.laid w) (fun _ _ _ hh h => h.of_heap hh) Tryd.own started (by kernel_rfl) Tryd.func9
    (ChangeSpec.witness_shaped (enc := enc) (C := Tryd.checked) (os := os) (X := fun w _ => laidMetH Tryd.prog Rows.fnExactRowTextRow.laid w) false (World.laidAll Tryd.prog os Rows.fnExactRowTextRow.laid) #[.slice none 0 0] 8 (World.laidAll_os _ _ _)
      (World.shaped_of_ZipB (by kernel_rfl) (by kernel_rfl)) (by kernel_rfl) (by kernel_rfl) (by kernel_rfl)
      (by rw [MakeChecks.laidMetH_plain _ _ _ (by kernel_rfl)]; exact laidMet_laidAll _ (by kernel_rfl) (by kernel_rfl))) ?_
  intro W base args ds gs before hval0 hW _ _ _ hsh _
  have hval : ∀ (j : Nat) t v, Tryd.f9.params[j]? = some t → args[j]? = some v → Value.okWide Tryd.prog W .any base t v := hval0
  have hW' := hW
  obtain ⟨p, q, hA0, hV, rfl, _, _⟩ := hW
  have hA : DataW.TrodAll enc Tryd.prog W 0 (fun _ => true) true Tryd.f9.params.toList args.toList ds p := hA0
  rw [Tryd.params9] at hA hval
  obtain ⟨v0, d0, rfl, rfl, h0⟩ := trodAll_one hA
  obtain ⟨rfl, rfl⟩ := trodVars_none hV
  obtain ⟨A, c, ps, rfl, hr, hf, hlc, hcm⟩ := open_texts Tryd.underlying39 Tryd.underlying9 Tryd.cells_string (hval 0 _ v0 rfl rfl) h0
  refine (exactRowText_walk ps A c W hr hf (Nat.le_trans hlc hcm) (hm_shaped hsh)).mono fun e W' ⟨he, hw⟩ => ?_
  subst he
  exact ⟨_, rfl, law_post hW' rfl rfl (by kernel_rfl) Tryd.underlying4 Tryd.laidOut (of_decide_eq_true (by kernel_rfl)) hw⟩

theorem fnExactRowText_holds : Rows.FnExactRowTextSaid :=
  OpenClaim.holds_of_wide 9 Tryd.f9 rfl rfl rfl rfl rfl rfl rfl ⟨rfl, rfl, rfl, rfl, rfl⟩ rfl rfl rfl rfl rfl (by kernel_rfl) Tryd.func9 (by kernel_rfl)
    (of_decide_eq_true (by kernel_rfl)) (by unfold Func.isWrapper; first | (rw [if_pos (by decide +kernel)]; kernel_rfl) | (rw [if_neg (by decide +kernel)]; exact ⟨rfl, rfl⟩))
    (fun os started H enc _ => fnExactRowText_lifted os started H enc)

theorem fnExactRowText_cardHolds : Rows.FnExactRowTextCardSaid :=
  Claim7.holds_tied_plain_at .later [] _ true _ false fnExactRowText_holds (fun _ h => by cases h) (by kernel_rfl) (fun _ h => by cases h) fnExactRowText_row_tie rfl ⟨rfl, rfl⟩ (by kernel_rfl) rfl
    (fun f fn hf hfn => by
      obtain rfl : f = 9 := Option.some.inj ((show Tryd.prog.funcNamed "loop.example/templateescaper/laws.FnExactRowText" = some 9 by kernel_rfl).symm.trans hf) |>.symm
      obtain rfl : fn = Tryd.f9 := (Option.some.inj (Tryd.func9.symm.trans hfn)).symm
      exact ⟨by kernel_rfl, fun j t ht => by
        rw [Tryd.params9] at ht
        have hm : t ∈ [39] := by simpa using Array.mem_of_getElem? ht
        have hall : ([39].all fun u => !Tryd.prog.wantsStandIn u) = true := by kernel_rfl
        exact (show Tryd.prog.wantsStandIn t = false by simpa using List.all_eq_true.1 hall t hm)⟩)
    (by kernel_rfl)

#print axioms fnExactRowText_cardHolds
end Go.Proofs.YtaofgcdpmeeimaaDoor
