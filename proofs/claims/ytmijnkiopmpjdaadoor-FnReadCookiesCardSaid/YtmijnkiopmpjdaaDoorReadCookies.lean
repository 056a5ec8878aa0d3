/- ReadCookies of impl and of spec: walks. -/
import Derived.Test.YtmijnkiopmpjdaaDoorReadCookiesP
import Derived.Test.YtmijnkiopmpjdaaDoorReadPairs
import Derived.Test.YtmijnkiopmpjdaaDoorUnescS
import Derived.Test.YtmijnkiopmpjdaaDoorOpen
namespace Go.Proofs.YtmijnkiopmpjdaaDoor
open Go.RowKit

theorem readPairs_fit {s sign : Tx} (hs : sign ≠ []) (hl : s.length ≤ 1048576) : Fit (readPairs s sign).1 ∧ (readPairs s sign).1.length ≤ 1048577 := by
  unfold readPairs
  split
  · exact ⟨(fun p hp => by cases hp), by simp⟩
  · split
    · refine ⟨fun p hp => ?_, ?_⟩
      · obtain ⟨x, hx, rfl⟩ := List.mem_map.1 hp
        have h1 := split_mem s hs x hx
        have h2 := part_len x
        unfold maxLen
        omega
      · have := split_len s hs
        simp
        omega
    · exact ⟨(fun p hp => by cases hp), by simp⟩
theorem fit_snoc {ps : List Pr} {p : Pr} (h : Fit ps) (h1 : p.1.length ≤ 1048576) (h2 : p.2.length ≤ 1048576) : Fit (ps ++ [p]) := by
  intro q hq
  rcases List.mem_append.1 hq with hq | hq
  · exact h q hq
  · simp at hq; subst hq; unfold maxLen; omega

theorem fitC_ck1 {ps : List Pr} (h : Fit ps) : FitC (ps.map ck1) := by
  intro c hc
  obtain ⟨p, hp, rfl⟩ := List.mem_map.1 hc
  exact h p hp
theorem ownP_cap {w : World} {base c : Nat} {A : Option Addr} {ps : List Pr} (h : OwnP w base A c ps) : ps.length ≤ c := by
  obtain ⟨A', c', hv, hc, _⟩ := own_shape h
  injection hv with _ _ h3
  subst h3
  exact hc

set_option maxRecDepth 100000 in
set_option maxHeartbeats 4000000 in
theorem impl_ReadCookies (s : Tx) (_ : s.length ≤ maxLen) (hl : s.length ≤ 1048576) (w : World) (hm : Hm w) :
    Calls Tryd.prog 14 #[.string ⟨s.toArray⟩] w (NewPB w (readCookies s)) := by
  have HP := Lib.hid (fun w hm => impl_readPairs s [59, 32] (by simp) hl w hm)
  have HM := Lib.hid hm
  obtain ⟨hf, hn⟩ := readPairs_fit (s := s) (sign := [59, 32]) (by simp) hl
  have HR : Hid (readCookies s = if (readPairs s [59, 32]).2 && ckPrOk (readPairs s [59, 32]).1 then ((readPairs s [59, 32]).1, true) else ([], false)) := rfl
  generalize readPairs s [59, 32] = r at *
  obtain ⟨ps, ok⟩ := r
  dsimp only at hf hn HR
  have HF := Lib.hid hf
  clear hf hm
  go_enter Tryd.func14, Tryd.ntmps14
  go_wp2_with fail
  refine (HP.out _ HM.out).mono ?_
  rintro e w1 ⟨A1, c1, rfl, ho, hb⟩
  have HB1 := Lib.hid hb
  have HO1 := Lib.hid ho
  have hz1 := hb.size
  have hcap := ownP_cap ho
  clear hb ho
  dsimp only
  cases ok
  · have HF2 : Hid (readCookies s = ([], false)) := HR.out
    go_wp2
    go_ret2
    rw [HF2.out]
    exact ⟨none, 0, rfl, ownP_nil _ _, HB1.out⟩
  · rw [Bool.true_and, ckPr_eq] at HR
    by_cases h6 : ps.length ≤ 6
    · rw [decide_eq_true h6, Bool.true_and] at HR
      have d6 : decide (6 < (ps.length : Int)) = false := by simp; omega
      have HNO : Hid (false = prFrom ps 0 → readCookies s = ([], false)) := by intro h; rw [HR.out, ← h]; rfl
      have hr := ownP_rd HO1.out
      go_wp2
      go_loopw [24] (fun i wr => ∃ (k : Nat), k ≤ ps.length ∧ i = .int .i64 k ∧ prFrom ps k = prFrom ps 0 ∧ Below w1.heap.size w1 wr) (fun i _ => ps.length - (intOf i).toNat)
      case atStart => exact ⟨0, Nat.zero_le _, rfl, rfl, Below.refl _ _⟩
      case round =>
        obtain ⟨k, hk, rfl, hall, hb⟩ := hrel
        obtain ⟨wo, rfl⟩ : ∃ wo : World, wo = wr := ⟨_, rfl⟩
        have H := Lib.hid hall
        have HB := Lib.hid hb
        have HBW : Hid (Below w.heap.size w wo) := HB1.out.trans (hb.mono hz1)
        by_cases hlt : k < ps.length
        · obtain ⟨b, o, rfl, hab, hc0, hc1⟩ := (hr.below hb).pair hlt
          obtain ⟨hla, hlb⟩ := HF.out _ (List.getElem_mem hlt)
          have HN := Lib.hid (fun w => impl_NameValid ps[k].1 hla w)
          have HV := Lib.hid (fun w => impl_valueOk ps[k].2 hlb w)
          have hsz := hb.size
          have hst := prFrom_step ps k hlt
          rw [H.out] at hst
          have HST := Lib.hid hst
          have HR2 := Lib.hid hr
          clear hall hb hla hlb hst hr
          cases hnm : nameOk ps[k].1
          · rw [hnm] at HN HST
            have HF2 := Lib.hid (HNO.out (by rw [HST.out]; rfl))
            clear hnm
            go_wp2_with (go_at_call 46; refine (HN.out _).mono ?_; rintro e w' ⟨rfl, rfl⟩)
            go_ret2
            rw [HF2.out]
            exact ⟨none, 0, rfl, ownP_nil _ _, HBW.out.alloc (by omega) _⟩
          · rw [hnm, Bool.true_and] at HST
            rw [hnm] at HN
            clear hnm
            cases hvl : valOk ps[k].2
            · rw [hvl] at HV HST
              have HF2 := Lib.hid (HNO.out (by rw [HST.out]; rfl))
              clear hvl
              go_wp2_with (first | (go_at_call 46; refine (HN.out _).mono ?_; rintro e w' ⟨rfl, rfl⟩) | (go_at_call 47; refine (HV.out _).mono ?_; rintro e w' ⟨rfl, rfl⟩))
              go_ret2
              rw [HF2.out]
              exact ⟨none, 0, rfl, ownP_nil _ _, HBW.out.alloc (by omega) _⟩
            · rw [hvl, Bool.true_and] at HST
              rw [hvl] at HV
              clear hvl
              go_wp2_with (first | (go_at_call 46; refine (HN.out _).mono ?_; rintro e w' ⟨rfl, rfl⟩) | (go_at_call 47; refine (HV.out _).mono ?_; rintro e w' ⟨rfl, rfl⟩))
              go_loopw [43] (fun i wi => ∃ (j : Nat), j ≤ k ∧ i = .int .i64 j ∧ ((ps.take k).drop j).all (fun d => !(d.1 == ps[k].1)) = (ps.take k).all (fun d => !(d.1 == ps[k].1)) ∧ Below (wo.heap.size + 1) (wo.alloc (.cells #[sv ps[k].1, sv ps[k].2] 38)) wi) (fun i _ => k - (intOf i).toNat)
              case atStart => exact ⟨0, Nat.zero_le _, rfl, rfl, Below.refl _ _⟩
              case round =>
                obtain ⟨j, hj, rfl, hin, hbi⟩ := hrel
                have HIN := Lib.hid hin
                have HBI := Lib.hid hbi
                have hbw : Below w1.heap.size w1 wr := (HB.out.alloc HB.out.size _).trans (hbi.mono (by omega))
                have HBWI : Hid (Below w.heap.size w wr) := HB1.out.trans (hbw.mono hz1)
                have hszi := hbw.size
                have hszi2 := HBWI.out.size
                by_cases hlj : j < k
                · have hjn : j < ps.length := by omega
                  obtain ⟨b', o', he', hab', hd0, hd1⟩ := (HR2.out.below hbw).pair hjn
                  simp only [Option.some.injEq, Addr.mk.injEq, and_true] at he'
                  obtain ⟨rfl, rfl⟩ := he'
                  have hcy : wr.cell? ⟨wo.heap.size, 0, none⟩ = some (sv ps[k].1) := by
                    rw [hbi.cell (p := ⟨wo.heap.size, 0, none⟩) (by simp), World.cell?_alloc_at _ _ _ _ rfl]; rfl
                  have hszj : wo.heap.size < wr.heap.size := by have := hbi.size; simp at this; omega
                  have hll : j < (ps.take k).length := by rw [List.length_take]; omega
                  have hstep : (!(ps[j].1 == ps[k].1) && ((ps.take k).drop (j + 1)).all (fun d => !(d.1 == ps[k].1))) = (ps.take k).all (fun d => !(d.1 == ps[k].1)) := by
                    rw [← HIN.out, drop_cons _ j hll, List.all_cons, List.getElem_take]
                  have HSP := Lib.hid hstep
                  clear hin hbi hbw hstep
                  cases he : (ps[j].1 == ps[k].1)
                  · have HE := Lib.hid he
                    rw [he] at HSP
                    go_wp2
                    go_roundw
                    case rel => exact ⟨j + 1, by omega, by go_num, by have := HSP.out; simpa using this, HBI.out.alloc (by omega) _⟩
                    case measure => simp [intOf]; omega
                  · rw [he] at HSP
                    have HF2 := Lib.hid (HNO.out (by rw [HST.out, ← HSP.out]; rfl))
                    go_wp2
                    go_ret2
                    rw [HF2.out]
                    exact ⟨none, 0, rfl, ownP_nil _ _, HBWI.out.alloc (by omega) _⟩
                · have HBW1 := Lib.hid hbw
                  clear hin hbi hbw
                  go_wp2
                  go_roundw
                  case rel =>
                    refine ⟨k + 1, by omega, by go_num, ?_, HBW1.out⟩
                    have hjk : j = k := by omega
                    subst hjk
                    have h1 := HIN.out
                    rw [drop_nil _ _ (by rw [List.length_take]; omega)] at h1
                    rw [HST.out, ← h1]
                    rfl
                  case measure => simp [intOf]; omega
        · have HF2 : Hid (readCookies s = (ps, true)) := by show _ = _; rw [HR.out, ← H.out, prFrom_end ps k hlt]; rfl
          go_wp2
          go_ret2
          rw [HF2.out]
          exact ⟨A1, c1, rfl, ownP_keep HO1.out HB.out, HBW.out⟩
    · have HF2 : Hid (readCookies s = ([], false)) := by show _ = _; rw [HR.out, decide_eq_false h6]; rfl
      have d6 : decide (6 < (ps.length : Int)) = true := by simp; omega
      go_wp2
      go_ret2
      rw [HF2.out]
      exact ⟨none, 0, rfl, ownP_nil _ _, HB1.out⟩

set_option maxRecDepth 100000 in
set_option maxHeartbeats 4000000 in
theorem spec_ReadCookies (s : Tx) (_ : s.length ≤ maxLen) (hl : s.length ≤ 1048576) (w : World) :
    Calls Tryd.prog 13 #[.string ⟨s.toArray⟩] w (NewPB w (readCookies s)) := by
  have HR := Lib.hid (readCookies_spec s)
  go_enter Tryd.func13, Tryd.ntmps13
  go_wp2
  go_loopw [4, 5, 6] (fun v vc i wr => ∃ (k N : Nat) (A A' : Option Addr) (c c' : Nat) (acc : List Pr), k ≤ s.length + 2 ∧ vc = .slice A' acc.length c' ∧ OwnC wr w.heap.size A' c' (acc.map ck1) ∧ i = .int .i64 (k : Int) ∧ v = .slice A acc.length c ∧ acc.length ≤ k ∧ (s.drop k).length ≤ N ∧ parseP 59 2 N acc (s.drop k) = parseP 59 2 s.length [] s ∧ Fit acc ∧ OwnP wr w.heap.size A c acc ∧ Below w.heap.size w wr) (fun _ _ i _ => s.length + 2 - (intOf i).toNat)
  case atStart =>
    refine ⟨0, s.length, _, _, 0, 0, [], by omega, rfl, ?_, rfl, rfl, by simp, by simp, rfl, (fun p hp => by cases hp), ?_, ((Below.refl _ _).alloc (Nat.le_refl _) _).alloc (by simp) _⟩
    · have := ownC_empty (w.alloc (.cells #[] 38)) w.heap.size (by simp)
      simpa using this
    · exact ownP_keep (ownP_empty w w.heap.size (Nat.le_refl _)) ((Below.refl _ _).alloc (Nat.le_refl _) _)
  case round =>
    obtain ⟨k, N, A, A', c, c', acc, hk, rfl, hoc, rfl, rfl, hacc, hN, hpa, hft, ho, hb⟩ := hrel
    have HOC := Lib.hid hoc
    have HO := Lib.hid ho
    have HB := Lib.hid hb
    have HPA := Lib.hid hpa
    have HFT := Lib.hid hft
    have hszr := hb.size
    clear ho hb hpa hft hoc
    by_cases hlt : k < s.length
    · have HNE : Hid (s.drop k ≠ []) := by show _ ≠ _; intro e; have := congrArg List.length e; simp at this; omega
      cases N with
      | zero => simp at hN; omega
      | succ N =>
        have hN' : s.length - (k + 1) ≤ N := by simp at hN; omega
        obtain ⟨wo, rfl⟩ : ∃ wo : World, wo = wr := ⟨_, rfl⟩
        obtain ⟨wr, rfl⟩ : ∃ wr : World, wr = wo := ⟨_, rfl⟩
        clear hN
        go_wp2
        go_loop [7] (fun i => ∃ (m : Nat), k ≤ m ∧ m ≤ s.length ∧ i = .int .i64 m ∧ m - k ≤ at_ 59 (s.drop k)) (fun i => s.length - (intOf i).toNat)
        case atStart => exact ⟨k, Nat.le_refl _, by omega, rfl, by omega⟩
        case round =>
          obtain ⟨m, hkm0, hms, rfl, hma⟩ := hrel
          by_cases hlm : m < s.length
          · by_cases hc : (s[m] == 59) = true
            · have HAT : Hid (at_ 59 (s.drop k) = m - k) := scan_found hkm0 hma hlm hc
              have b0 : ((s[m].toNat : Int) != 59) = false := by rw [show s[m] = 59 by simpa using hc]; rfl
              clear hma hc
              have hkm : k ≤ m := by omega
              obtain ⟨x, hx⟩ : ∃ x, (s.take m).drop k = x := ⟨_, rfl⟩
              have hxl : x.length = m - k := by rw [← hx]; simp; omega
              have HX := Lib.hid hx
              have HTK : Hid ((s.drop k).take (at_ 59 (s.drop k)) = x) := by show _ = _; rw [HAT.out, ← hx, List.drop_take]
              have HDR : Hid ((s.drop k).drop (at_ 59 (s.drop k) + 2) = s.drop (m + 2)) := by show _ = _; rw [HAT.out, List.drop_drop]; congr 1; omega
              have hml : (s.take m).length = m := by rw [List.length_take]; omega
              have HML := Lib.hid hml
              clear hx hml
              go_wp2
              go_loop [8] (fun i => ∃ (p : Nat), k ≤ p ∧ p ≤ m ∧ i = .int .i64 p ∧ p - k ≤ at_ 61 ((s.take m).drop k)) (fun i => m - (intOf i).toNat)
              case atStart => exact ⟨k, Nat.le_refl _, hkm, rfl, by omega⟩
              case round =>
                obtain ⟨p, hkp, hpm, rfl, hpa⟩ := hrel
                by_cases hlp : p < m
                · have hps : p < s.length := by omega
                  have hpt : p < (s.take m).length := by rw [HML.out]; exact hlp
                  have hg : (s.take m)[p] = s[p] := by rw [List.getElem_take]
                  by_cases hc : (s[p] == 61) = true
                  · have HSG : Hid (at_ 61 x = p - k) := by show _ = _; rw [← HX.out]; exact scan_found hkp hpa hpt (by rw [hg]; exact hc)
                    have b1 : ((s[p].toNat : Int) != 61) = false := by rw [show s[p] = 61 by simpa using hc]; rfl
                    have b2 : ((p : Int) == (m : Int)) = false := by simp; omega
                    have HH : Hid (has 61 x = true) := by show _ = _; unfold has; rw [HSG.out]; simp; omega
                    have HC1 : Hid ((s.take p).drop k = x.take (at_ 61 x)) := by show _ = _; rw [HSG.out, ← HX.out, List.take_drop]; congr 1; rw [List.take_take]; congr 1; omega
                    have HC2 : Hid ((s.take m).drop (p + 1) = x.drop (at_ 61 x + 1)) := by show _ = _; rw [HSG.out, ← HX.out, List.drop_drop]; congr 1; omega
                    clear hpa hc hg hpt
                    have hrl : (x.drop (at_ 61 x + 1)).length ≤ 1048576 := by simp; omega
                    have hnl : (x.take (at_ 61 x)).length ≤ 1048576 := by simp; omega
                    have HU := Lib.hid (fun w => spec_UnescapePart (x.drop (at_ 61 x + 1)) hrl w)
                    have hE1 : partOk x = (has 61 x && (unesc (x.drop (at_ 61 x + 1))).isSome) := rfl
                    have hE2 : partPr x = (x.take (at_ 61 x), (unesc (x.drop (at_ 61 x + 1))).getD []) := rfl
                    rw [HH.out, Bool.true_and] at hE1
                    rw [← HC2.out] at HU hE1 hE2 hrl
                    rw [← HC1.out] at hE2 hnl
                    clear HC1 HC2
                    cases hu : unesc ((s.take m).drop (p + 1)) with
                    | none =>
                      rw [hu] at HU hE1
                      have HE : Hid (parseP 59 2 (N + 1) acc (s.drop k) = none) := by show _ = _; exact parseP_bad acc HNE.out (by rw [HTK.out]; exact hE1)
                      have HF2 : Hid (readCookies s = ([], false)) := by show _ = _; rw [HR.out, ← HPA.out, HE.out]
                      clear hE1 hE2 hu
                      go_wp2_with fail
                      refine (HU.out _).mono ?_
                      rintro e w4 ⟨rfl, hb4⟩
                      have HB4 : Hid (Below w.heap.size w w4) := HB.out.trans (hb4.mono hszr)
                      have hsz4 := HB4.out.size
                      clear hb4
                      go_wp2
                      go_ret2
                      rw [HF2.out]
                      exact ⟨_, 0, rfl, ownP_empty w4 w.heap.size hsz4, HB4.out.alloc hsz4 _⟩
                    | some t =>
                      rw [hu] at HU hE1 hE2
                      have htl := unesc_len hu
                      have htl2 : t.length ≤ 1048576 := by omega
                      have HE : Hid (parseP 59 2 (N + 1) acc (s.drop k) = parseP 59 2 N (acc ++ [((s.take p).drop k, t)]) (s.drop (m + 2))) := by
                        show _ = _
                        rw [parseP_step acc HNE.out (by rw [HTK.out]; exact hE1), HTK.out, HDR.out, hE2]
                        rfl
                      clear hE1 hE2 hu htl
                      go_wp2_with fail
                      refine (HU.out _).mono ?_
                      rintro e w4 ⟨rfl, hb4⟩
                      have HB4 : Hid (Below w.heap.size w w4) := HB.out.trans (hb4.mono hszr)
                      have HO4 := Lib.hid (ownP_keep HO.out hb4)
                      have HOC4 := Lib.hid (ownC_keep HOC.out hb4)
                      have hsz4 := HB4.out.size
                      clear hb4
                      have hml : (acc.map ck1).length = acc.length := by simp
                      go_wp2_with (first | (at_builtin; refine app_pair rfl _ _ rfl w.heap.size A c _ acc ((s.take p).drop k, t) (by rfl) rfl HO4.out _ (by rfl) rfl ?_ ?_ ?_; (focus omega); (focus omega); intro A5 c5 w5 ho5 hg5; have HOC5 : Hid (OwnC w5 w.heap.size A' c' (acc.map ck1)) := HOC4.out.kept hg5 (own_types HOC4.out HO4.out (by decide)); have HO5 := Lib.hid ho5; have HB5 := Lib.hid (HB4.out.trans (grown_to_below hg5 hsz4 (ownP_row HO4.out))); have hsz5 := HB5.out.size; clear ho5 hg5) | (at_builtin; refine app_cookie rfl _ _ rfl w.heap.size A' c' _ (acc.map ck1) ((s.take p).drop k, t, 1) (by rfl) ?_ HOC5.out _ (by rfl) rfl ?_ ?_ ?_; (focus simp); (focus (simp; omega)); (focus omega); intro A6 c6 w6 ho6 hg6))
                      go_roundw
                      case rel => exact ⟨m + 2, N, A5, A6, c5, c6, acc ++ [((s.take p).drop k, t)], by omega, by simp, by rw [List.map_append]; exact ho6, by go_num, by simp, by simp; omega, by simp; omega, by rw [← HE.out]; exact HPA.out, fit_snoc HFT.out hnl htl2, HO5.out.kept hg6 (own_types HO5.out HOC5.out (by decide)), HB5.out.trans (grown_to_below hg6 hsz5 (ownC_row HOC5.out))⟩
                      case measure => simp [intOf]; omega
                  · have hc' : (s[p] == 61) = false := by simpa using hc
                    have HST : Hid (p + 1 - k ≤ at_ 61 ((s.take m).drop k)) := scan_step hkp hpa hpt (by rw [hg]; exact hc')
                    have b1 : ((s[p].toNat : Int) != 61) = true := by
                      simp
                      intro e
                      have h2 : s[p] = 61 := UInt8.toNat_inj.1 (by have : ((61 : UInt8).toNat) = 61 := rfl; omega)
                      exact hc (by rw [h2]; rfl)
                    clear hc hc' hg hpt
                    go_wp2
                    go_round
                    case rel => exact ⟨p + 1, by omega, by omega, by go_num, HST.out⟩
                    case measure => simp [intOf]; omega
                · have hpm' : p = m := by omega
                  subst hpm'
                  have HE : Hid (parseP 59 2 (N + 1) acc (s.drop k) = none) := by
                    show _ = _
                    refine parseP_bad acc HNE.out ?_
                    rw [HTK.out]
                    unfold partOk has
                    rw [HX.out] at hpa
                    rw [decide_eq_false (by omega)]
                    rfl
                  have HF2 : Hid (readCookies s = ([], false)) := by show _ = _; rw [HR.out, ← HPA.out, HE.out]
                  clear hpa
                  go_wp2
                  go_ret2
                  rw [HF2.out]
                  exact ⟨_, 0, rfl, ownP_empty wr w.heap.size hszr, HB.out.alloc hszr _⟩
            · have hc' : (s[m] == 59) = false := by simpa using hc
              have HST : Hid (m + 1 - k ≤ at_ 59 (s.drop k)) := scan_step hkm0 hma hlm hc'
              have b1 : ((s[m].toNat : Int) != 59) = true := by
                simp
                intro e
                have h2 : s[m] = 59 := UInt8.toNat_inj.1 (by have : ((59 : UInt8).toNat) = 59 := rfl; omega)
                exact hc (by rw [h2]; rfl)
              clear hc hc'
              go_wp2
              go_round
              case rel => exact ⟨m + 1, by omega, by omega, by go_num, HST.out⟩
              case measure => simp [intOf]; omega
          · have hms' : m = s.length := by omega
            have HAT : Hid (at_ 59 (s.drop k) = m - k) := by show _ = _; rw [hms'] at hma ⊢; exact scan_end hma
            clear hma hms'
            have hkm : k ≤ m := by omega
            obtain ⟨x, hx⟩ : ∃ x, (s.take m).drop k = x := ⟨_, rfl⟩
            have hxl : x.length = m - k := by rw [← hx]; simp; omega
            have HX := Lib.hid hx
            have HTK : Hid ((s.drop k).take (at_ 59 (s.drop k)) = x) := by show _ = _; rw [HAT.out, ← hx, List.drop_take]
            have HDR : Hid ((s.drop k).drop (at_ 59 (s.drop k) + 2) = s.drop (m + 2)) := by show _ = _; rw [HAT.out, List.drop_drop]; congr 1; omega
            have hml : (s.take m).length = m := by rw [List.length_take]; omega
            have HML := Lib.hid hml
            clear hx hml
            go_wp2
            go_loop [8] (fun i => ∃ (p : Nat), k ≤ p ∧ p ≤ m ∧ i = .int .i64 p ∧ p - k ≤ at_ 61 ((s.take m).drop k)) (fun i => m - (intOf i).toNat)
            case atStart => exact ⟨k, Nat.le_refl _, hkm, rfl, by omega⟩
            case round =>
              obtain ⟨p, hkp, hpm, rfl, hpa⟩ := hrel
              by_cases hlp : p < m
              · have hps : p < s.length := by omega
                have hpt : p < (s.take m).length := by rw [HML.out]; exact hlp
                have hg : (s.take m)[p] = s[p] := by rw [List.getElem_take]
                by_cases hc : (s[p] == 61) = true
                · have HSG : Hid (at_ 61 x = p - k) := by show _ = _; rw [← HX.out]; exact scan_found hkp hpa hpt (by rw [hg]; exact hc)
                  have b1 : ((s[p].toNat : Int) != 61) = false := by rw [show s[p] = 61 by simpa using hc]; rfl
                  have b2 : ((p : Int) == (m : Int)) = false := by simp; omega
                  have HH : Hid (has 61 x = true) := by show _ = _; unfold has; rw [HSG.out]; simp; omega
                  have HC1 : Hid ((s.take p).drop k = x.take (at_ 61 x)) := by show _ = _; rw [HSG.out, ← HX.out, List.take_drop]; congr 1; rw [List.take_take]; congr 1; omega
                  have HC2 : Hid ((s.take m).drop (p + 1) = x.drop (at_ 61 x + 1)) := by show _ = _; rw [HSG.out, ← HX.out, List.drop_drop]; congr 1; omega
                  clear hpa hc hg hpt
                  have hrl : (x.drop (at_ 61 x + 1)).length ≤ 1048576 := by simp; omega
                  have hnl : (x.take (at_ 61 x)).length ≤ 1048576 := by simp; omega
                  have HU := Lib.hid (fun w => spec_UnescapePart (x.drop (at_ 61 x + 1)) hrl w)
                  have hE1 : partOk x = (has 61 x && (unesc (x.drop (at_ 61 x + 1))).isSome) := rfl
                  have hE2 : partPr x = (x.take (at_ 61 x), (unesc (x.drop (at_ 61 x + 1))).getD []) := rfl
                  rw [HH.out, Bool.true_and] at hE1
                  rw [← HC2.out] at HU hE1 hE2 hrl
                  rw [← HC1.out] at hE2 hnl
                  clear HC1 HC2
                  cases hu : unesc ((s.take m).drop (p + 1)) with
                  | none =>
                    rw [hu] at HU hE1
                    have HE : Hid (parseP 59 2 (N + 1) acc (s.drop k) = none) := by show _ = _; exact parseP_bad acc HNE.out (by rw [HTK.out]; exact hE1)
                    have HF2 : Hid (readCookies s = ([], false)) := by show _ = _; rw [HR.out, ← HPA.out, HE.out]
                    clear hE1 hE2 hu
                    go_wp2_with fail
                    refine (HU.out _).mono ?_
                    rintro e w4 ⟨rfl, hb4⟩
                    have HB4 : Hid (Below w.heap.size w w4) := HB.out.trans (hb4.mono hszr)
                    have hsz4 := HB4.out.size
                    clear hb4
                    go_wp2
                    go_ret2
                    rw [HF2.out]
                    exact ⟨_, 0, rfl, ownP_empty w4 w.heap.size hsz4, HB4.out.alloc hsz4 _⟩
                  | some t =>
                    rw [hu] at HU hE1 hE2
                    have htl := unesc_len hu
                    have htl2 : t.length ≤ 1048576 := by omega
                    have HE : Hid (parseP 59 2 (N + 1) acc (s.drop k) = parseP 59 2 N (acc ++ [((s.take p).drop k, t)]) (s.drop (m + 2))) := by
                      show _ = _
                      rw [parseP_step acc HNE.out (by rw [HTK.out]; exact hE1), HTK.out, HDR.out, hE2]
                      rfl
                    clear hE1 hE2 hu htl
                    go_wp2_with fail
                    refine (HU.out _).mono ?_
                    rintro e w4 ⟨rfl, hb4⟩
                    have HB4 : Hid (Below w.heap.size w w4) := HB.out.trans (hb4.mono hszr)
                    have HO4 := Lib.hid (ownP_keep HO.out hb4)
                    have HOC4 := Lib.hid (ownC_keep HOC.out hb4)
                    have hsz4 := HB4.out.size
                    clear hb4
                    have hml : (acc.map ck1).length = acc.length := by simp
                    go_wp2_with (first | (at_builtin; refine app_pair rfl _ _ rfl w.heap.size A c _ acc ((s.take p).drop k, t) (by rfl) rfl HO4.out _ (by rfl) rfl ?_ ?_ ?_; (focus omega); (focus omega); intro A5 c5 w5 ho5 hg5; have HOC5 : Hid (OwnC w5 w.heap.size A' c' (acc.map ck1)) := HOC4.out.kept hg5 (own_types HOC4.out HO4.out (by decide)); have HO5 := Lib.hid ho5; have HB5 := Lib.hid (HB4.out.trans (grown_to_below hg5 hsz4 (ownP_row HO4.out))); have hsz5 := HB5.out.size; clear ho5 hg5) | (at_builtin; refine app_cookie rfl _ _ rfl w.heap.size A' c' _ (acc.map ck1) ((s.take p).drop k, t, 1) (by rfl) ?_ HOC5.out _ (by rfl) rfl ?_ ?_ ?_; (focus simp); (focus (simp; omega)); (focus omega); intro A6 c6 w6 ho6 hg6))
                    go_roundw
                    case rel => exact ⟨m + 2, N, A5, A6, c5, c6, acc ++ [((s.take p).drop k, t)], by omega, by simp, by rw [List.map_append]; exact ho6, by go_num, by simp, by simp; omega, by simp; omega, by rw [← HE.out]; exact HPA.out, fit_snoc HFT.out hnl htl2, HO5.out.kept hg6 (own_types HO5.out HOC5.out (by decide)), HB5.out.trans (grown_to_below hg6 hsz5 (ownC_row HOC5.out))⟩
                    case measure => simp [intOf]; omega
                · have hc' : (s[p] == 61) = false := by simpa using hc
                  have HST : Hid (p + 1 - k ≤ at_ 61 ((s.take m).drop k)) := scan_step hkp hpa hpt (by rw [hg]; exact hc')
                  have b1 : ((s[p].toNat : Int) != 61) = true := by
                    simp
                    intro e
                    have h2 : s[p] = 61 := UInt8.toNat_inj.1 (by have : ((61 : UInt8).toNat) = 61 := rfl; omega)
                    exact hc (by rw [h2]; rfl)
                  clear hc hc' hg hpt
                  go_wp2
                  go_round
                  case rel => exact ⟨p + 1, by omega, by omega, by go_num, HST.out⟩
                  case measure => simp [intOf]; omega
              · have hpm' : p = m := by omega
                subst hpm'
                have HE : Hid (parseP 59 2 (N + 1) acc (s.drop k) = none) := by
                  show _ = _
                  refine parseP_bad acc HNE.out ?_
                  rw [HTK.out]
                  unfold partOk has
                  rw [HX.out] at hpa
                  rw [decide_eq_false (by omega)]
                  rfl
                have HF2 : Hid (readCookies s = ([], false)) := by show _ = _; rw [HR.out, ← HPA.out, HE.out]
                clear hpa
                go_wp2
                go_ret2
                rw [HF2.out]
                exact ⟨_, 0, rfl, ownP_empty wr w.heap.size hszr, HB.out.alloc hszr _⟩
    · have hD : s.drop k = [] := drop_nil s k (by omega)
      rw [hD, parseP_nil] at HPA
      rw [← HPA.out] at HR
      have hn : acc.length ≤ maxLen := by unfold maxLen; omega
      have HN := Lib.hid hn
      have HV := Lib.hid (fun w hr => spec_CookiesValid (acc.map ck1) A' c' w hr (fitC_ck1 HFT.out) (by simpa using HN.out))
      rw [show (acc.map ck1).length = acc.length by simp] at HV
      rw [show cookiesOk (acc.map ck1) = ckPrOk acc from rfl] at HV
      have HR2 : Hid (readCookies s = if ckPrOk acc && (cookiesText (acc.map ck1) 0 == s) then (acc, true) else ([], false)) := HR.out
      clear HR HPA hD hn hN
      cases hok : ckPrOk acc
      · rw [hok] at HR2 HV
        have HF2 : Hid (readCookies s = ([], false)) := HR2.out
        clear hok HR2
        go_wp2_with fail
        refine (HV.out _ (ownC_rd HOC.out)).mono ?_
        rintro e w2 ⟨rfl, hb⟩
        have HB2 := Lib.hid (HB.out.trans (hb.mono hszr))
        have hz2 := HB2.out.size
        clear hb
        go_wp2
        go_ret2
        rw [HF2.out]
        exact ⟨_, 0, rfl, ownP_empty w2 w.heap.size hz2, HB2.out.alloc hz2 _⟩
      · rw [hok, Bool.true_and] at HR2
        rw [hok] at HV
        clear hok
        have HT := Lib.hid (fun w hr => spec_CookiesText (acc.map ck1) 0 A' c' w hr (fitC_ck1 HFT.out) (by simpa using HN.out))
        rw [show (acc.map ck1).length = acc.length by simp] at HT
        generalize cookiesText (acc.map ck1) 0 = y at *
        go_wp2_with fail
        refine (HV.out _ (ownC_rd HOC.out)).mono ?_
        rintro e w2 ⟨rfl, hb⟩
        have HB2 := Lib.hid (HB.out.trans (hb.mono hszr))
        have HO2 := Lib.hid (ownP_keep HO.out hb)
        have HOC2 := Lib.hid (ownC_keep HOC.out hb)
        clear hb
        go_wp2_with fail
        refine (HT.out _ (ownC_rd HOC2.out)).mono ?_
        rintro e w3 ⟨rfl, hb⟩
        have HB3 := Lib.hid (HB2.out.trans (hb.mono HB2.out.size))
        have HO3 := Lib.hid (ownP_keep HO2.out hb)
        have hz3 := HB3.out.size
        clear hb
        by_cases hy : y = s
        · subst hy
          have HF2 : Hid (readCookies y = (acc, true)) := by show _ = _; rw [HR2.out]; simp
          clear HR2
          go_wp2
          go_ret2
          rw [HF2.out]
          exact ⟨A, c, rfl, HO3.out, HB3.out⟩
        · have HF2 : Hid (readCookies s = ([], false)) := by show _ = _; rw [HR2.out]; simp [hy]
          have h1 : (y == s) = false := by simpa using hy
          have h2 : (y != s) = true := by rw [bne, h1]; rfl
          clear HR2 hy
          go_wp2
          go_ret2
          rw [HF2.out]
          exact ⟨_, 0, rfl, ownP_empty w3 w.heap.size hz3, HB3.out.alloc hz3 _⟩
end Go.Proofs.YtmijnkiopmpjdaaDoor
