/- Texts of nodes, of spec: the whole text: walks. -/
import Derived.Test.YtdmmnjnbjigdeaaDoorNodeWS
namespace Go.Proofs.YtdmmnjnbjigdeaaDoor
open Go.RowKit

theorem lens_le_join (l : List Tx) : Lib.lens l ≤ (Lib.join l [44]).length := by
  cases l with
  | nil => simp [Lib.lens]
  | cons x r => rw [Lib.join_length]; omega
set_option maxRecDepth 100000 in
set_option maxHeartbeats 8000000 in
theorem spec_l26Text (a : Nd) : WrC 35 a := by
  induction a using Nd.ind with
  | h k n t ns xs ih =>
  intro u w hu hok hsz henv
  obtain ⟨d0, hok⟩ := hok
  obtain ⟨An, cn, Ai, ci, rfl, hrn, hcn, hci, hri⟩ := hu.parts
  obtain ⟨d, rfl, H⟩ := ok_parts hok
  simp only [Nd.size] at hsz
  have HSZ := Lib.hid hsz
  have hB0 := (Below.refl w.heap.size w).alloc (Nat.le_refl _) (.cells (ndCells k n t An ns.length cn Ai xs.length ci) 26)
  have HB0 := Lib.hid hB0
  have HX0 := Lib.hid (heap_alloc_new w (.cells (ndCells k n t An ns.length cn Ai xs.length ci) 26))
  have HRI := Lib.hid (hri.now hB0)
  have HRN := Lib.hid (hrn.now hB0)
  have HENV := Lib.hid (henv.below hB0)
  have HOKS : Hid (∀ x ∈ xs, Nd.ok x d = true) := fun x hx => oks_get H.ins hx
  have hxl : xs.length ≤ 5 := H.five
  have hnl : ns.length ≤ 1048576 := by omega
  have IH := Lib.hid ih
  have htl : t.length ≤ 1048576 := by omega
  clear hu hrn hri hB0 ih henv
  obtain ⟨⟨x0, x1, x2, x3, x4⟩, -⟩ := box_five HX0.out
  by_cases k1 : k = 1
  · subst k1
    go_enter Tryd.func35, Tryd.ntmps35
    go_wp2
    go_ret
    exact ⟨rfl, HB0.out⟩
  by_cases k2 : k = 2
  · subst k2
    have hn := H.num
    unfold numOk at hn
    rw [if_pos rfl] at hn
    have HBL := Lib.hid (HB0.out.alloc HB0.out.size (.cells #[sv wFalse, sv wTrue] 9))
    rcases of_decide_eq_true hn with n1 | n1
    · subst n1
      have HW : Hid (Nd.wr (.mk 2 0 t ns xs) = wFalse) := by show _ = _; rw [Nd.wr, if_neg (by decide), if_pos rfl, if_neg (by decide)]
      go_enter Tryd.func35, Tryd.ntmps35
      go_wp2
      go_ret
      exact ⟨by rw [HW.out]; rfl, HBL.out⟩
    · subst n1
      have HW : Hid (Nd.wr (.mk 2 1 t ns xs) = wTrue) := by show _ = _; rw [Nd.wr, if_neg (by decide), if_pos rfl, if_pos rfl]
      go_enter Tryd.func35, Tryd.ntmps35
      go_wp2
      go_ret
      exact ⟨by rw [HW.out]; rfl, HBL.out⟩
  by_cases k3 : k = 3
  · subst k3
    have hn := H.num
    unfold numOk at hn
    rw [if_neg (by decide), if_pos rfl] at hn
    obtain ⟨hn0, hn1⟩ := of_decide_eq_true hn
    have HC := Lib.hid (fun w => spec_l26Number n hn0 hn1 w)
    clear hn
    go_enter Tryd.func35, Tryd.ntmps35
    go_wp2_with fail
    refine (HC.out _).mono ?_
    rintro e w1 ⟨rfl, hb⟩
    have HB1 := Lib.hid (HB0.out.trans (hb.mono HB0.out.size))
    clear hb
    go_wp2
    go_ret
    exact ⟨rfl, HB1.out⟩
  by_cases k4 : k = 4
  · subst k4
    have HC := Lib.hid (fun w => spec_l26Quote t (by omega) w)
    go_enter Tryd.func35, Tryd.ntmps35
    go_wp2_with fail
    refine (HC.out _).mono ?_
    rintro e w1 ⟨rfl, rfl⟩
    go_wp2
    go_ret
    exact ⟨rfl, HB0.out⟩
  by_cases k6 : k = 6
  · subst k6
    have HNL : Hid (ns.length = xs.length) := by have := H.names; rw [if_pos rfl] at this; exact this
    clear k1 k2 k3 k4
    have HW : Hid (Nd.wr (.mk 6 n t ns xs) = 123 :: (Lib.join (Nd.wrs true ns xs) [44] ++ [125])) := rfl
    have hwl := Nd.wr_len (.mk 6 n t ns xs) _ hok
    have hlj := lens_le_join (Nd.wrs true ns xs)
    rw [HW.out] at hwl
    simp only [List.length_cons, List.length_append, List.length_nil, Nd.size] at hwl
    have HGET := Lib.hid (fun j h => wrs_get? true ns xs j h (fun e => by first | exact HNL.out | cases e))
    have hwsl : (Nd.wrs true ns xs).length = xs.length := Nd.wrs_len true ns xs
    generalize hps : Nd.wrs true ns xs = ps at *
    clear hps
    clear hok
    have HWSL := Lib.hid hwsl
    clear hwsl
    go_enter Tryd.func35, Tryd.ntmps35
    go_wp2
    generalize w.alloc (.cells (ndCells 6 n t An ns.length cn Ai xs.length ci) 26) = w0 at *
    go_loopw [3, 4] (fun s i wr => ∃ (j : Nat), j ≤ xs.length ∧ i = .int .i64 j ∧ s = sv (91 :: joinK ps j) ∧ Below w0.heap.size w0 wr) (fun _ i _ => xs.length - (intOf i).toNat)
    case atStart => exact ⟨0, Nat.zero_le _, rfl, rfl, Below.refl _ _⟩
    case round =>
      obtain ⟨j, hj, rfl, rfl, hb⟩ := hrel
      have HB := Lib.hid hb
      obtain ⟨⟨y0, y1, y2, y3, y4⟩, -⟩ := box_five (bx_keep HX0.out hb)
      clear hb
      have hpl5 : ps.length ≤ 5 := by have := HWSL.out; omega
      have hjk := joinK_len ps j
      by_cases hlt : j < xs.length
      · obtain ⟨b1, o1, hA1, hb1, kd, nn, tt, An1, ln1, cn1, Ai1, li1, ci1, hin, c0, c1, c2, c3, c4⟩ := (HRI.out.now HB.out).at hlt
        have hpj0 : j < ps.length := by have := HWSL.out; omega
        have hsxj : Nd.size xs[j] ≤ 1048576 := by have := Nd.size_mem (List.getElem_mem hlt); have := HSZ.out; omega
        have HCALL := Lib.hid (IH.out xs[j] (List.getElem_mem hlt) _ wr hin ⟨_, HOKS.out _ (List.getElem_mem hlt)⟩ hsxj (HENV.out.below HB.out))
        have hwx := Nd.wr_len xs[j] _ (HOKS.out _ (List.getElem_mem hlt))
        have hJS := joinK_succ ps j hpj0
        have hG := HGET.out j hlt
        rw [List.getElem?_eq_getElem hpj0] at hG
        injection hG with hG
        rw [hG] at hJS
        have HJ0 := Lib.hid hJS
        generalize Nd.wr xs[j] = wx at *
        generalize Nd.size xs[j] = sx at *
        generalize hjq : joinK ps j = jk at *
        have HJQ := Lib.hid hjq
        clear hjq hG hJS hpj0 hin
        subst hA1
        by_cases h0 : j = 0
        · obtain rfl : jk = [] := by rw [← HJQ.out, h0]; rfl
          have HJ1 := HJ0.out
          rw [if_pos h0] at HJ1
          have HJ2 := Lib.hid HJ1
          clear HJ1
          have h0p : (0 < j) = False := by rw [eq_iff_iff, iff_false]; omega
          clear h0
          have HJE : Hid (joinK ps (j + 1) = quote (ns[j]'(by have := HNL.out; omega)) ++ 58 :: wx) := by
            show _ = _
            rw [HJ2.out]
            have hln : j < ns.length := by have := HNL.out; omega
            simp [List.getD_eq_getElem?_getD, hln]
          clear HJ0 HJQ HJ2
          have hln : j < ns.length := by have := HNL.out; omega
          obtain ⟨b2, o2, hAn, hab, hc0⟩ := ((HRN.out.now HB.out).rd (fun _ h => h)).str hln
          subst hAn
          have hnj : (ns[j]).length ≤ ssize ns := ssize_mem (List.getElem_mem hln)
          have HWT := Lib.hid (spec_l26Quote ns[j] (by omega) wr)
          have hql := quote_len ns[j]
          have HJS := Lib.hid (HJE.out)
          generalize quote ns[j] = qn at *
          go_wp2_with fail
          refine HWT.out.mono ?_
          rintro e w9 ⟨rfl, rfl⟩
          go_wp2_with fail
          refine HCALL.out.mono ?_
          rintro e w2 ⟨rfl, hb⟩
          have HB2 := Lib.hid (HB.out.trans (hb.mono HB.out.size))
          clear hb
          go_wp2
          go_roundw
          case rel => exact ⟨j + 1, by omega, by go_num, by rw [HJS.out]; try simp, HB2.out⟩
          case measure => simp [intOf]; omega
        · have HJ1 := HJ0.out
          rw [if_neg h0] at HJ1
          have HJ2 := Lib.hid HJ1
          clear HJ1
          have h0p : 0 < j := by omega
          clear h0
          have HJE : Hid (joinK ps (j + 1) = jk ++ 44 :: (quote (ns[j]'(by have := HNL.out; omega)) ++ 58 :: wx)) := by
            show _ = _
            rw [HJ2.out]
            have hln : j < ns.length := by have := HNL.out; omega
            simp [List.getD_eq_getElem?_getD, hln]
          clear HJ0 HJQ HJ2
          have hln : j < ns.length := by have := HNL.out; omega
          obtain ⟨b2, o2, hAn, hab, hc0⟩ := ((HRN.out.now HB.out).rd (fun _ h => h)).str hln
          subst hAn
          have hnj : (ns[j]).length ≤ ssize ns := ssize_mem (List.getElem_mem hln)
          have HWT := Lib.hid (spec_l26Quote ns[j] (by omega) wr)
          have hql := quote_len ns[j]
          have HJS := Lib.hid (HJE.out)
          generalize quote ns[j] = qn at *
          go_wp2_with fail
          refine HWT.out.mono ?_
          rintro e w9 ⟨rfl, rfl⟩
          go_wp2_with fail
          refine HCALL.out.mono ?_
          rintro e w2 ⟨rfl, hb⟩
          have HB2 := Lib.hid (HB.out.trans (hb.mono HB.out.size))
          clear hb
          go_wp2
          go_roundw
          case rel => exact ⟨j + 1, by omega, by go_num, by rw [HJS.out]; try simp, HB2.out⟩
          case measure => simp [intOf]; omega
      · rw [joinK_all ps j (by have := HWSL.out; omega)] at hjk ⊢
        generalize Lib.join ps [44] = jn at *
        have HBF := Lib.hid (HB0.out.trans (HB.out.mono HB0.out.size))
        go_wp2
        go_ret
        exact ⟨by rw [HW.out]; exact ret_str (by simp), HBF.out⟩
  · have k5 : k = 5 := by have := H.lo; have := H.hi; omega
    subst k5
    have HNL : Hid (ns.length = ns.length) := rfl
    clear k1 k2 k3 k4 k6
    have HW : Hid (Nd.wr (.mk 5 n t ns xs) = 91 :: (Lib.join (Nd.wrs false ns xs) [44] ++ [93])) := rfl
    have hwl := Nd.wr_len (.mk 5 n t ns xs) _ hok
    have hlj := lens_le_join (Nd.wrs false ns xs)
    rw [HW.out] at hwl
    simp only [List.length_cons, List.length_append, List.length_nil, Nd.size] at hwl
    have HGET := Lib.hid (fun j h => wrs_get? false ns xs j h (fun e => by first | exact HNL.out | cases e))
    have hwsl : (Nd.wrs false ns xs).length = xs.length := Nd.wrs_len false ns xs
    generalize hps : Nd.wrs false ns xs = ps at *
    clear hps
    clear hok
    have HWSL := Lib.hid hwsl
    clear hwsl
    go_enter Tryd.func35, Tryd.ntmps35
    go_wp2
    generalize w.alloc (.cells (ndCells 5 n t An ns.length cn Ai xs.length ci) 26) = w0 at *
    go_loopw [3, 4] (fun s i wr => ∃ (j : Nat), j ≤ xs.length ∧ i = .int .i64 j ∧ s = sv (91 :: joinK ps j) ∧ Below w0.heap.size w0 wr) (fun _ i _ => xs.length - (intOf i).toNat)
    case atStart => exact ⟨0, Nat.zero_le _, rfl, rfl, Below.refl _ _⟩
    case round =>
      obtain ⟨j, hj, rfl, rfl, hb⟩ := hrel
      have HB := Lib.hid hb
      obtain ⟨⟨y0, y1, y2, y3, y4⟩, -⟩ := box_five (bx_keep HX0.out hb)
      clear hb
      have hpl5 : ps.length ≤ 5 := by have := HWSL.out; omega
      have hjk := joinK_len ps j
      by_cases hlt : j < xs.length
      · obtain ⟨b1, o1, hA1, hb1, kd, nn, tt, An1, ln1, cn1, Ai1, li1, ci1, hin, c0, c1, c2, c3, c4⟩ := (HRI.out.now HB.out).at hlt
        have hpj0 : j < ps.length := by have := HWSL.out; omega
        have hsxj : Nd.size xs[j] ≤ 1048576 := by have := Nd.size_mem (List.getElem_mem hlt); have := HSZ.out; omega
        have HCALL := Lib.hid (IH.out xs[j] (List.getElem_mem hlt) _ wr hin ⟨_, HOKS.out _ (List.getElem_mem hlt)⟩ hsxj (HENV.out.below HB.out))
        have hwx := Nd.wr_len xs[j] _ (HOKS.out _ (List.getElem_mem hlt))
        have hJS := joinK_succ ps j hpj0
        have hG := HGET.out j hlt
        rw [List.getElem?_eq_getElem hpj0] at hG
        injection hG with hG
        rw [hG] at hJS
        have HJ0 := Lib.hid hJS
        generalize Nd.wr xs[j] = wx at *
        generalize Nd.size xs[j] = sx at *
        generalize hjq : joinK ps j = jk at *
        have HJQ := Lib.hid hjq
        clear hjq hG hJS hpj0 hin
        subst hA1
        by_cases h0 : j = 0
        · obtain rfl : jk = [] := by rw [← HJQ.out, h0]; rfl
          have HJ1 := HJ0.out
          rw [if_pos h0] at HJ1
          have HJ2 := Lib.hid HJ1
          clear HJ1
          have h0p : (0 < j) = False := by rw [eq_iff_iff, iff_false]; omega
          clear h0
          have HJS : Hid (joinK ps (j + 1) = wx) := by
            show _ = _
            rw [HJ2.out]
            simp
          clear HJ0 HJQ HJ2
          go_wp2_with fail
          refine HCALL.out.mono ?_
          rintro e w2 ⟨rfl, hb⟩
          have HB2 := Lib.hid (HB.out.trans (hb.mono HB.out.size))
          clear hb
          go_wp2
          go_roundw
          case rel => exact ⟨j + 1, by omega, by go_num, by rw [HJS.out]; try simp, HB2.out⟩
          case measure => simp [intOf]; omega
        · have HJ1 := HJ0.out
          rw [if_neg h0] at HJ1
          have HJ2 := Lib.hid HJ1
          clear HJ1
          have h0p : 0 < j := by omega
          clear h0
          have HJS : Hid (joinK ps (j + 1) = jk ++ 44 :: wx) := by
            show _ = _
            rw [HJ2.out]
            simp
          clear HJ0 HJQ HJ2
          go_wp2_with fail
          refine HCALL.out.mono ?_
          rintro e w2 ⟨rfl, hb⟩
          have HB2 := Lib.hid (HB.out.trans (hb.mono HB.out.size))
          clear hb
          go_wp2
          go_roundw
          case rel => exact ⟨j + 1, by omega, by go_num, by rw [HJS.out]; try simp, HB2.out⟩
          case measure => simp [intOf]; omega
      · rw [joinK_all ps j (by have := HWSL.out; omega)] at hjk ⊢
        generalize Lib.join ps [44] = jn at *
        have HBF := Lib.hid (HB0.out.trans (HB.out.mono HB0.out.size))
        go_wp2
        go_ret
        exact ⟨by rw [HW.out]; exact ret_str (by simp), HBF.out⟩
set_option maxRecDepth 100000 in
set_option maxHeartbeats 2000000 in
theorem spec_NodeWritten (a : Nd) (u : Value) (w : World) (hu : InN w (All w) a u) (hsz : Nd.size a ≤ 1048576) (henv : Env w) :
    Calls Tryd.prog 15 #[u] w fun e w' => e = .returned (sv (nodeWritten a)) ∧ Below w.heap.size w w' := by
  obtain ⟨k, n, t, An, ln, cn, Ai, li, ci, rfl⟩ := nd_value hu
  have hB0 := (Below.refl w.heap.size w).alloc (Nat.le_refl _) (.cells (ndCells k n t An ln cn Ai li ci) 26)
  have HB0 := Lib.hid hB0
  have HX0 := Lib.hid (heap_alloc_new w (.cells (ndCells k n t An ln cn Ai li ci) 26))
  have HV := Lib.hid (spec_NodeValid a _ _ (hu.now hB0) hsz)
  have HW := Lib.hid (fun (hv : Nd.valid a = true) w2 (hb : Below _ _ w2) => spec_l26Text a _ w2 ((hu.now hB0).now hb) ⟨4, valid_ok hv⟩ hsz ((henv.below hB0).below hb))
  have HN : Hid (nodeWritten a = if Nd.valid a then Nd.wr a else []) := rfl
  generalize Nd.valid a = r at *
  clear hu hB0
  go_enter Tryd.func15, Tryd.ntmps15
  obtain ⟨⟨x0, x1, x2, x3, x4⟩, -⟩ := box_five HX0.out
  go_wp2_with fail
  refine HV.out.mono ?_
  rintro e w1 ⟨rfl, hb⟩
  have HB1 := Lib.hid (HB0.out.trans (hb.mono HB0.out.size))
  obtain ⟨⟨y0, y1, y2, y3, y4⟩, -⟩ := box_five (bx_keep HX0.out hb)
  cases r
  · clear hb
    go_wp2
    go_ret
    exact ⟨by rw [HN.out]; rfl, HB1.out⟩
  · have HC := Lib.hid (HW.out rfl w1 hb)
    clear hb
    go_wp2_with fail
    refine HC.out.mono ?_
    rintro e w2 ⟨rfl, hb⟩
    have HB2 := Lib.hid (HB1.out.trans (hb.mono HB1.out.size))
    clear hb
    go_wp2
    go_ret
    exact ⟨by rw [HN.out]; rfl, HB2.out⟩
end Go.Proofs.YtdmmnjnbjigdeaaDoor
