/- For every code: the drawn pairs are judged by the program as by the reference; with one without a name ahead of them they are not valid; a part of valid ones is valid: the law FnHeadsValid holds. No conditions. -/
import Derived.Test.YtaipignkkbknfaaDoorHeads
import Derived.Test.YtaipignkkbknfaaDoorHeadsDraw
import Derived.Test.YtaipignkkbknfaaDoorCardKit
import Derived.Test.YtaipignkkbknfaaDoorLower
namespace Go.Proofs.YtaipignkkbknfaaDoor
open Go.RowKit Go.ChangeShapes Go.WideShapes Go.ChangeAt Go.Joins

theorem headsOk_bare (ps : List Pr) : headsOk (([], []) :: ps) = false := by
  simp [headsOk, headOk, nameOk]
theorem headsOk_drop {ps : List Pr} (h : headsOk ps = true) (k : Nat) : headsOk (ps.drop k) = true := by
  simp only [headsOk, Bool.and_eq_true, decide_eq_true_eq, List.all_eq_true] at h ⊢
  exact ⟨by rw [List.length_drop]; omega, fun p hp => h.2 p (List.mem_of_mem_drop hp)⟩
theorem own_cap {w : World} {base size n c : Nat} {A : Option Addr} {e : TypeId} {xs : List Value} (h : w.ownsRow base e size (.slice A n c) n xs) : n ≤ c ∧ c ≤ maxLen := by
  obtain ⟨A', c', e', h1, h2⟩ := own_shape h
  injection e' with _ _ e3
  exact ⟨by omega, by omega⟩
theorem pcells_drop : ∀ (ps : List Pr) (k : Nat), pcells (ps.drop k) = (pcells ps).drop (k * 2)
  | ps, 0 => by simp
  | [], k + 1 => by simp [pcells]
  | p :: t, k + 1 => by
    rw [List.drop_succ_cons, pcells_drop t k, show (k + 1) * 2 = k * 2 + 1 + 1 by omega]
    rfl
theorem rd_drop {w : World} {B b o k : Nat} {ps : List Pr} (h : Rd w B (some ⟨b, o, none⟩) (pcells ps)) : Rd w B (some ⟨b, o + k * 2, none⟩) (pcells (ps.drop k)) := fun hne => by
  have hne' : pcells ps ≠ [] := by intro e; rw [pcells_drop, e] at hne; simp at hne
  obtain ⟨b', o', e, hb, hc⟩ := h hne'
  simp only [Option.some.injEq, Addr.mk.injEq, and_true] at e
  obtain ⟨rfl, rfl⟩ := e
  refine ⟨b, o + k * 2, rfl, hb, fun j u hu => ?_⟩
  rw [pcells_drop, List.getElem?_drop] at hu
  rw [Nat.add_assoc]
  exact hc _ _ hu

set_option maxHeartbeats 1000000 in
theorem headsValid_walk (bs : Tx) (A : Option Addr) (c : Nat) (w : World) (hr : Rd w w.heap.size A (bcells bs)) (hc : bs.length ≤ c) (hm : bs.length ≤ maxLen) :
    Calls Tryd.prog 3 #[.slice A bs.length c] w fun e w' => e = .returned (.bool true) ∧ Below w.heap.size w w' := by
  unfold maxLen at hm
  by_cases h : 1048576 < bs.length
  · go_enter Tryd.func3, Tryd.ntmps3
    go_wp2
    go_ret
    exact ⟨rfl, Below.refl _ _⟩
  · have HD := Lib.hid (spec_DrawHeadsValid bs A c w hr hc (by omega))
    clear hr
    go_enter Tryd.func3, Tryd.ntmps3
    go_wp2_with fail
    refine HD.out.mono ?_
    rintro e w1 ⟨A1, c1, ps, rfl, ho1, hs1, hn1, hb1⟩
    have HF := Lib.hid (small_fit hs1)
    have HL : Hid (ps.length ≤ maxLen) := by show _ ≤ _; unfold maxLen; omega
    have HO1 := Lib.hid ho1
    have HB1 := Lib.hid hb1
    have hz1 := hb1.size
    clear ho1 hs1 hb1
    go_wp2_with fail
    refine (impl_HeadsValid ps A1 c1 _ (ownP_rd HO1.out) HF.out HL.out).mono ?_
    rintro e w2 ⟨rfl, hb2⟩
    have HO2 := Lib.hid (ownP_keep HO1.out hb2)
    have HB2 := Lib.hid (HB1.out.trans (hb2.mono hz1))
    have hz2 := HB2.out.size
    clear hb2
    go_wp2_with fail
    refine (spec_HeadsValid ps A1 c1 _ (ownP_rd HO2.out) HF.out HL.out).mono ?_
    rintro e w3 ⟨rfl, hb3⟩
    have HO3 := Lib.hid (ownP_keep HO2.out hb3)
    have HB3 := Lib.hid (HB2.out.trans (hb3.mono hz2))
    have hz3 := HB3.out.size
    clear hb3
    have HN : Hid (A1 = none → c1 = 0) := own_none HO3.out
    have HLIT : Hid (OwnP (w3.alloc (.cells #[sv [], sv []] 27)) w.heap.size (some ⟨w3.heap.size, 0, none⟩) 1 [([], [])]) := World.ownsRow_lit w3 #[sv [], sv []] 1 hz3 (by simp [maxLen]) rfl
    have HRD : Hid (Rd (w3.alloc (.cells #[sv [], sv []] 27)) w3.heap.size A1 (pcells ps)) := (ownP_rd HO3.out).below ((Below.refl _ _).alloc (Nat.le_refl _) _)
    have hcat : ([([], [])] ++ ps : List Pr).length = 1 + ps.length := by simp [Nat.add_comm]
    have HCAT := Lib.hid hcat
    clear hcat
    have HFC : Hid (Fit ([([], [])] ++ ps)) := by
      intro p hp
      rcases List.mem_append.1 hp with hp | hp
      · simp at hp; subst hp; simp [maxLen]
      · exact HF.out p hp
    cases hok : headsOk ps
    · have HK := Lib.hid hok
      clear hok
      go_wp2_with (at_builtin; refine app_pairs rfl _ _ rfl w.heap.size _ 1 1 [([], [])] ps A1 ps.length c1 w3.heap.size (by rfl) rfl HLIT.out (by rfl) rfl HN.out HRD.out ?_ ?_ ?_; (focus (simp; omega)); (focus (simp; omega)); intro A4 c4 w4 ho4 hg4)
      have hq := impl_HeadsValid ([([], [])] ++ ps) A4 c4 w4 (ownP_rd ho4) HFC.out (by rw [HCAT.out]; unfold maxLen; omega)
      rw [HCAT.out, show headsOk ([([], [])] ++ ps) = false from headsOk_bare ps] at hq
      have HQ := Lib.hid hq
      have HB4 := Lib.hid ((HB3.out.alloc hz3 _).trans (grown_to_below hg4 (by simp; omega) (ownP_row HLIT.out)))
      clear hq ho4 hg4
      go_wp2_with fail
      refine HQ.out.mono ?_
      rintro e w5 ⟨rfl, hb5⟩
      have HB5 := Lib.hid (HB4.out.trans (hb5.mono HB4.out.size))
      clear hb5
      go_wp2_with fail
      refine (laws_alive _).mono ?_
      rintro e w6 ⟨rfl, hb6⟩
      have HB6 := Lib.hid (HB5.out.trans (hb6.mono HB5.out.size))
      clear hb6
      go_wp2
      go_ret
      exact ⟨rfl, HB6.out⟩
    · have HK := Lib.hid hok
      clear hok
      go_wp2_with (at_builtin; refine app_pairs rfl _ _ rfl w.heap.size _ 1 1 [([], [])] ps A1 ps.length c1 w3.heap.size (by rfl) rfl HLIT.out (by rfl) rfl HN.out HRD.out ?_ ?_ ?_; (focus (simp; omega)); (focus (simp; omega)); intro A4 c4 w4 ho4 hg4)
      have hq := impl_HeadsValid ([([], [])] ++ ps) A4 c4 w4 (ownP_rd ho4) HFC.out (by rw [HCAT.out]; unfold maxLen; omega)
      rw [HCAT.out, show headsOk ([([], [])] ++ ps) = false from headsOk_bare ps] at hq
      have HQ := Lib.hid hq
      have HB4 := Lib.hid ((HB3.out.alloc hz3 _).trans (grown_to_below hg4 (by simp; omega) (ownP_row HLIT.out)))
      have HR4 := Lib.hid (HRD.out.grown hg4 (by simp) (fun g h => by simp [Value.ownBlock] at h; omega))
      clear hq ho4
      go_wp2_with fail
      refine HQ.out.mono ?_
      rintro e w5 ⟨rfl, hb5⟩
      have HR5 : Hid (Rd w5 w5.heap.size A1 (pcells ps)) := ((HR4.out.more (by have := hg4.size; simp at this; omega)).below hb5).more hb5.size
      have HB5 := Lib.hid (HB4.out.trans (hb5.mono HB4.out.size))
      clear hb5 hg4
      rcases Nat.eq_zero_or_pos ps.length with h0 | h0
      · obtain rfl := List.eq_nil_of_length_eq_zero h0
        clear h0
        go_wp2_with fail
        refine (impl_HeadsValid [] A1 c1 _ HR5.out HF.out HL.out).mono ?_
        rw [HK.out]
        rintro e w7 ⟨rfl, hb7⟩
        have HB7 := Lib.hid (HB5.out.trans (hb7.mono HB5.out.size))
        clear hb7
        go_wp2_with fail
        refine (laws_alive _).mono ?_
        rintro e w6 ⟨rfl, hb6⟩
        have HB6 := Lib.hid (HB7.out.trans (hb6.mono HB7.out.size))
        clear hb6
        go_wp2
        go_ret
        exact ⟨rfl, HB6.out⟩
      · obtain ⟨g, rfl, _, _⟩ := own_some HO3.out h0
        have hcap := (own_cap HO3.out).1
        obtain ⟨k, hk⟩ : ∃ k, ps.length / 2 = k := ⟨_, rfl⟩
        have hkl : k < ps.length := by omega
        have hkc : k < c1 := by omega
        have hki : (ps.length : Int) / 2 = (k : Int) := by omega
        have HV := impl_HeadsValid (ps.drop k) (some ⟨g, 0 + k * 2, none⟩) (c1 - k) w5 (rd_drop HR5.out) (fun p hp => HF.out p (List.mem_of_mem_drop hp)) (by rw [List.length_drop]; unfold maxLen; omega)
        rw [List.length_drop, Nat.zero_add, headsOk_drop HK.out k] at HV
        have HV := Lib.hid HV
        clear hk
        go_wp2_with fail
        refine HV.out.mono ?_
        rintro e w7 ⟨rfl, hb7⟩
        have HB7 := Lib.hid (HB5.out.trans (hb7.mono HB5.out.size))
        clear hb7
        go_wp2_with fail
        refine (laws_alive _).mono ?_
        rintro e w6 ⟨rfl, hb6⟩
        have HB6 := Lib.hid (HB7.out.trans (hb6.mono HB7.out.size))
        clear hb6
        go_wp2
        go_ret
        exact ⟨rfl, HB6.out⟩

set_option maxRecDepth 100000 in
theorem fnHeadsValid_lifted (os : Os) (started : os.Started) (H : Type) (enc : TypeId × Value → H) :
    ReturnsInHanded {} Tryd.checked os 3 .any (fun w args => (Rows.fnHeadsValidSpec.pre enc Tryd.prog Tryd.f3 Rows.fnHeadsValidRow.domain false w args ∧ laidMetH Tryd.prog Rows.fnHeadsValidRow.laid w) ∧ sizedMet enc Tryd.prog Tryd.f3 (OpenSpec.ofChange Rows.fnHeadsValidSpec) false w args)
      (Rows.fnHeadsValidSpec.post enc Tryd.prog Tryd.f3 false true false false) := by
  refine returnsInHanded_of_change_and (C := Tryd.checked) (X := fun w _ => laidMetH Tryd.prog Rows.fnHeadsValidRow.laid w) (fun _ _ _ hh h => h.of_heap hh) Tryd.own started (by kernel_rfl) Tryd.func3
    (ChangeSpec.witness_shaped (enc := enc) (C := Tryd.checked) (os := os) (X := fun w _ => laidMetH Tryd.prog Rows.fnHeadsValidRow.laid w) false (World.laidAll Tryd.prog os Rows.fnHeadsValidRow.laid) #[.slice none 0 0] 8 (World.laidAll_os _ _ _)
      (World.shaped_of_ZipB (by kernel_rfl) (by kernel_rfl)) (by kernel_rfl) (by kernel_rfl) (by kernel_rfl)
      (by rw [MakeChecks.laidMetH_plain _ _ _ (by kernel_rfl)]; exact laidMet_laidAll _ (by kernel_rfl) (by kernel_rfl))) ?_
  intro W base args ds gs before hval0 hW _ _ _ _
  have hval : ∀ (j : Nat) t v, Tryd.f3.params[j]? = some t → args[j]? = some v → Value.okWide Tryd.prog W .any base t v := hval0
  have hW' := hW
  obtain ⟨p, q, hA0, hV, rfl, _, _⟩ := hW
  have hA : DataW.TrodAll enc Tryd.prog W 0 (fun _ => true) true Tryd.f3.params.toList args.toList ds p := hA0
  rw [Tryd.params3] at hA hval
  obtain ⟨v0, d0, rfl, rfl, h0⟩ := trodAll_one hA
  obtain ⟨rfl, rfl⟩ := trodVars_none hV
  obtain ⟨A, c, bs, rfl, hr, hlc, hcm⟩ := open_bytes Tryd.underlying22 Tryd.underlying5 (by kernel_rfl) (hval 0 _ v0 rfl rfl) h0
  refine (headsValid_walk bs A c W hr hlc (Nat.le_trans hlc hcm)).mono fun e W' ⟨he, hw⟩ => ?_
  subst he
  exact ⟨_, rfl, law_post hW' rfl rfl (by kernel_rfl) Tryd.underlying4 Tryd.laidOut (of_decide_eq_true (by kernel_rfl)) hw⟩

theorem fnHeadsValid_holds : Rows.FnHeadsValidSaid :=
  OpenClaim.holds_of_wide 3 Tryd.f3 rfl rfl rfl rfl rfl rfl rfl ⟨rfl, rfl, rfl, rfl, rfl⟩ rfl rfl rfl rfl rfl (by kernel_rfl) Tryd.func3 (by kernel_rfl)
    (of_decide_eq_true (by kernel_rfl)) (by unfold Func.isWrapper; first | (rw [if_pos (by decide +kernel)]; kernel_rfl) | (rw [if_neg (by decide +kernel)]; exact ⟨rfl, rfl⟩))
    (fun os started H enc _ => fnHeadsValid_lifted os started H enc)

theorem fnHeadsValid_cardHolds : Rows.FnHeadsValidCardSaid :=
  Claim7.holds_tied_plain_at .later [] _ true _ false fnHeadsValid_holds (fun _ h => by cases h) (by kernel_rfl) (fun _ h => by cases h) fnHeadsValid_row_tie rfl ⟨rfl, rfl⟩ (by kernel_rfl) rfl
    (fun f fn hf hfn => by
      obtain rfl : f = 3 := Option.some.inj ((show Tryd.prog.funcNamed "loop.example/templateescaper/laws.FnHeadsValid" = some 3 by kernel_rfl).symm.trans hf) |>.symm
      obtain rfl : fn = Tryd.f3 := (Option.some.inj (Tryd.func3.symm.trans hfn)).symm
      exact ⟨by kernel_rfl, fun j t ht => by
        rw [Tryd.params3] at ht
        have hm : t ∈ [22] := by simpa using Array.mem_of_getElem? ht
        have hall : ([22].all fun u => !Tryd.prog.wantsStandIn u) = true := by kernel_rfl
        exact (show Tryd.prog.wantsStandIn t = false by simpa using List.all_eq_true.1 hall t hm)⟩)
    (by kernel_rfl)

#print axioms fnHeadsValid_cardHolds
end Go.Proofs.YtaipignkkbknfaaDoor
