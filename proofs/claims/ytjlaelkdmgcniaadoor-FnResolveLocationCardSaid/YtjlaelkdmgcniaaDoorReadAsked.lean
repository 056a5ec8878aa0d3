/- ReadAsked of impl and of spec: walks. -/
import Derived.Test.YtjlaelkdmgcniaaDoorReadAskedP
import Derived.Test.YtjlaelkdmgcniaaDoorReadPairs
import Derived.Test.YtjlaelkdmgcniaaDoorUnescS
namespace Go.Proofs.YtjlaelkdmgcniaaDoor
open Go.RowKit

theorem readPairs_fit {s sign : Tx} (hs : sign ≠ []) (hl : s.length ≤ 1048576) : Fit (readPairs s sign).1 ∧ (readPairs s sign).1.length ≤ 1048577 := by
  unfold readPairs
  split
  · exact ⟨(fun p hp => by cases hp), by simp⟩
  · split
    · refine ⟨fun p hp => ?_, ?_⟩
      · obtain ⟨x, hx, rfl⟩ := List.mem_map.1 hp
        have h1 := split_mem s hs x hx
        have h2 := part_len x
        unfold maxLen
        omega
      · have := split_len s hs
        simp
        omega
    · exact ⟨(fun p hp => by cases hp), by simp⟩
theorem fit_snoc {ps : List Pr} {p : Pr} (h : Fit ps) (h1 : p.1.length ≤ 1048576) (h2 : p.2.length ≤ 1048576) : Fit (ps ++ [p]) := by
  intro q hq
  rcases List.mem_append.1 hq with hq | hq
  · exact h q hq
  · simp at hq; subst hq; unfold maxLen; omega

set_option maxRecDepth 100000 in
set_option maxHeartbeats 2000000 in
theorem impl_ReadAsked (s : Tx) (_ : s.length ≤ maxLen) (hl : s.length ≤ 1048576) (w : World) (hm : Hm w) :
    Calls Tryd.prog 28 #[.string ⟨s.toArray⟩] w (NewPB w (readAsked s)) := by
  have HP := Lib.hid (fun w hm => impl_readPairs s [38] (by simp) hl w hm)
  have HM := Lib.hid hm
  obtain ⟨hf, hn⟩ := readPairs_fit (s := s) (sign := [38]) (by simp) hl
  have HR : Hid (readAsked s = if (readPairs s [38]).2 && askedOk (readPairs s [38]).1 && (askedText (readPairs s [38]).1 == s) then ((readPairs s [38]).1, true) else ([], false)) := rfl
  generalize readPairs s [38] = r at *
  obtain ⟨ps, ok⟩ := r
  dsimp only at hf hn HR
  have HF := Lib.hid hf
  have HN : Hid (ps.length ≤ maxLen) := by show _ ≤ _; unfold maxLen; omega
  clear hf hm
  have HB0 := Lib.hid (Below.refl w.heap.size w)
  go_enter Tryd.func28, Tryd.ntmps28
  go_wp2_with fail
  refine (HP.out _ HM.out).mono ?_
  rintro e w1 ⟨A1, c1, rfl, ho, hb⟩
  have HB1 := Lib.hid hb
  have HO1 := Lib.hid ho
  clear hb ho
  dsimp only
  cases ok
  · have HF2 : Hid (readAsked s = ([], false)) := HR.out
    go_wp2
    go_ret2
    rw [HF2.out]
    exact ⟨none, 0, rfl, ownP_nil _ _, HB1.out⟩
  · rw [Bool.true_and] at HR
    have HV := Lib.hid (fun w hr => impl_AskedValid ps A1 c1 w hr HF.out HN.out)
    cases hok : askedOk ps
    · rw [hok] at HR HV
      have HF2 : Hid (readAsked s = ([], false)) := HR.out
      clear hok HR
      go_wp2_with fail
      refine (HV.out _ (ownP_rd HO1.out)).mono ?_
      rintro e w2 ⟨rfl, hb⟩
      have HB2 := Lib.hid (HB1.out.trans (hb.mono HB1.out.size))
      have hz2 := HB2.out.size
      have HO1 := Lib.hid (ownP_keep HO1.out hb)
      clear hb
      go_wp2
      go_ret2
      rw [HF2.out]
      exact ⟨none, 0, rfl, ownP_nil _ _, HB2.out⟩
    · rw [hok, Bool.true_and] at HR
      rw [hok] at HV
      clear hok
      have HT := Lib.hid (fun w hr => impl_AskedText ps A1 c1 w hr HF.out HN.out)
      generalize askedText ps = y at *
      go_wp2_with fail
      refine (HV.out _ (ownP_rd HO1.out)).mono ?_
      rintro e w2 ⟨rfl, hb⟩
      have HB2 := Lib.hid (HB1.out.trans (hb.mono HB1.out.size))
      have hz2 := HB2.out.size
      have HO1 := Lib.hid (ownP_keep HO1.out hb)
      clear hb
      go_wp2_with fail
      refine (HT.out _ (ownP_rd HO1.out)).mono ?_
      rintro e w3 ⟨rfl, hb⟩
      have HB3 := Lib.hid (HB2.out.trans (hb.mono HB2.out.size))
      have hz3 := HB3.out.size
      have HO1 := Lib.hid (ownP_keep HO1.out hb)
      clear hb
      by_cases hy : y = s
      · subst hy
        have HF2 : Hid (readAsked y = (ps, true)) := by show _ = _; rw [HR.out]; simp
        clear HR
        go_wp2
        go_ret2
        rw [HF2.out]
        exact ⟨A1, c1, rfl, HO1.out, HB3.out⟩
      · have HF2 : Hid (readAsked s = ([], false)) := by show _ = _; rw [HR.out]; simp [hy]
        have h1 : (y == s) = false := by simpa using hy
        have h2 : (y != s) = true := by rw [bne, h1]; rfl
        clear HR hy
        go_wp2
        go_ret2
        rw [HF2.out]
        exact ⟨none, 0, rfl, ownP_nil _ _, HB3.out⟩

set_option maxRecDepth 100000 in
set_option maxHeartbeats 4000000 in
theorem spec_ReadAsked (s : Tx) (_ : s.length ≤ maxLen) (hl : s.length ≤ 1048576) (w : World) :
    Calls Tryd.prog 37 #[.string ⟨s.toArray⟩] w (NewPB w (readAsked s)) := by
  have HR := Lib.hid (readAsked_spec s)
  go_enter Tryd.func37, Tryd.ntmps37
  go_wp2
  go_loopw [4, 5] (fun v i wr => ∃ (k N : Nat) (A : Option Addr) (c : Nat) (acc : List Pr), k ≤ s.length + 1 ∧ i = .int .i64 (k : Int) ∧ v = .slice A acc.length c ∧ acc.length ≤ k ∧ (s.drop k).length ≤ N ∧ parseP 38 1 N acc (s.drop k) = parseP 38 1 s.length [] s ∧ Fit acc ∧ OwnP wr w.heap.size A c acc ∧ Below w.heap.size w wr) (fun _ i _ => s.length + 1 - (intOf i).toNat)
  case atStart => exact ⟨0, s.length, _, 0, [], by omega, rfl, rfl, by simp, by simp, rfl, (fun p hp => by cases hp), ownP_empty w w.heap.size (Nat.le_refl _), (Below.refl _ _).alloc (Nat.le_refl _) _⟩
  case round =>
    obtain ⟨k, N, A, c, acc, hk, rfl, rfl, hacc, hN, hpa, hft, ho, hb⟩ := hrel
    have HO := Lib.hid ho
    have HB := Lib.hid hb
    have HPA := Lib.hid hpa
    have HFT := Lib.hid hft
    have hszr := hb.size
    clear ho hb hpa hft
    by_cases hlt : k < s.length
    · have HNE : Hid (s.drop k ≠ []) := by show _ ≠ _; intro e; have := congrArg List.length e; simp at this; omega
      cases N with
      | zero => simp at hN; omega
      | succ N =>
        have hN' : s.length - (k + 1) ≤ N := by simp at hN; omega
        obtain ⟨wo, rfl⟩ : ∃ wo : World, wo = wr := ⟨_, rfl⟩
        obtain ⟨wr, rfl⟩ : ∃ wr : World, wr = wo := ⟨_, rfl⟩
        clear hN
        go_wp2
        go_loop [6] (fun i => ∃ (m : Nat), k ≤ m ∧ m ≤ s.length ∧ i = .int .i64 m ∧ m - k ≤ at_ 38 (s.drop k)) (fun i => s.length - (intOf i).toNat)
        case atStart => exact ⟨k, Nat.le_refl _, by omega, rfl, by omega⟩
        case round =>
          obtain ⟨m, hkm0, hms, rfl, hma⟩ := hrel
          by_cases hlm : m < s.length
          · by_cases hc : (s[m] == 38) = true
            · have HAT : Hid (at_ 38 (s.drop k) = m - k) := scan_found hkm0 hma hlm hc
              have b0 : ((s[m].toNat : Int) != 38) = false := by rw [show s[m] = 38 by simpa using hc]; rfl
              clear hma hc
              have hkm : k ≤ m := by omega
              obtain ⟨x, hx⟩ : ∃ x, (s.take m).drop k = x := ⟨_, rfl⟩
              have hxl : x.length = m - k := by rw [← hx]; simp; omega
              have HX := Lib.hid hx
              have HTK : Hid ((s.drop k).take (at_ 38 (s.drop k)) = x) := by show _ = _; rw [HAT.out, ← hx, List.drop_take]
              have HDR : Hid ((s.drop k).drop (at_ 38 (s.drop k) + 1) = s.drop (m + 1)) := by show _ = _; rw [HAT.out, List.drop_drop]; congr 1; omega
              have hml : (s.take m).length = m := by rw [List.length_take]; omega
              have HML := Lib.hid hml
              clear hx hml
              go_wp2
              go_loop [7] (fun i => ∃ (p : Nat), k ≤ p ∧ p ≤ m ∧ i = .int .i64 p ∧ p - k ≤ at_ 61 ((s.take m).drop k)) (fun i => m - (intOf i).toNat)
              case atStart => exact ⟨k, Nat.le_refl _, hkm, rfl, by omega⟩
              case round =>
                obtain ⟨p, hkp, hpm, rfl, hpa⟩ := hrel
                by_cases hlp : p < m
                · have hps : p < s.length := by omega
                  have hpt : p < (s.take m).length := by rw [HML.out]; exact hlp
                  have hg : (s.take m)[p] = s[p] := by rw [List.getElem_take]
                  by_cases hc : (s[p] == 61) = true
                  · have HSG : Hid (at_ 61 x = p - k) := by show _ = _; rw [← HX.out]; exact scan_found hkp hpa hpt (by rw [hg]; exact hc)
                    have b1 : ((s[p].toNat : Int) != 61) = false := by rw [show s[p] = 61 by simpa using hc]; rfl
                    have b2 : ((p : Int) == (m : Int)) = false := by simp; omega
                    have HH : Hid (has 61 x = true) := by show _ = _; unfold has; rw [HSG.out]; simp; omega
                    have HC1 : Hid ((s.take p).drop k = x.take (at_ 61 x)) := by show _ = _; rw [HSG.out, ← HX.out, List.take_drop]; congr 1; rw [List.take_take]; congr 1; omega
                    have HC2 : Hid ((s.take m).drop (p + 1) = x.drop (at_ 61 x + 1)) := by show _ = _; rw [HSG.out, ← HX.out, List.drop_drop]; congr 1; omega
                    clear hpa hc hg hpt
                    have hrl : (x.drop (at_ 61 x + 1)).length ≤ 1048576 := by simp; omega
                    have hnl : (x.take (at_ 61 x)).length ≤ 1048576 := by simp; omega
                    have HU := Lib.hid (fun w => spec_UnescapePart (x.drop (at_ 61 x + 1)) hrl w)
                    have hE1 : partOk x = (has 61 x && (unesc (x.drop (at_ 61 x + 1))).isSome) := rfl
                    have hE2 : partPr x = (x.take (at_ 61 x), (unesc (x.drop (at_ 61 x + 1))).getD []) := rfl
                    rw [HH.out, Bool.true_and] at hE1
                    rw [← HC2.out] at HU hE1 hE2 hrl
                    rw [← HC1.out] at hE2 hnl
                    clear HC1 HC2
                    cases hu : unesc ((s.take m).drop (p + 1)) with
                    | none =>
                      rw [hu] at HU hE1
                      have HE : Hid (parseP 38 1 (N + 1) acc (s.drop k) = none) := by show _ = _; exact parseP_bad acc HNE.out (by rw [HTK.out]; exact hE1)
                      have HF2 : Hid (readAsked s = ([], false)) := by show _ = _; rw [HR.out, ← HPA.out, HE.out]
                      clear hE1 hE2 hu
                      go_wp2_with fail
                      refine (HU.out _).mono ?_
                      rintro e w4 ⟨rfl, hb4⟩
                      have HB4 : Hid (Below w.heap.size w w4) := HB.out.trans (hb4.mono hszr)
                      have hsz4 := HB4.out.size
                      clear hb4
                      go_wp2
                      go_ret2
                      rw [HF2.out]
                      exact ⟨_, 0, rfl, ownP_empty w4 w.heap.size hsz4, HB4.out.alloc hsz4 _⟩
                    | some t =>
                      rw [hu] at HU hE1 hE2
                      have htl := unesc_len hu
                      have htl2 : t.length ≤ 1048576 := by omega
                      have HE : Hid (parseP 38 1 (N + 1) acc (s.drop k) = parseP 38 1 N (acc ++ [((s.take p).drop k, t)]) (s.drop (m + 1))) := by
                        show _ = _
                        rw [parseP_step acc HNE.out (by rw [HTK.out]; exact hE1), HTK.out, HDR.out, hE2]
                        rfl
                      clear hE1 hE2 hu htl
                      go_wp2_with fail
                      refine (HU.out _).mono ?_
                      rintro e w4 ⟨rfl, hb4⟩
                      have HB4 : Hid (Below w.heap.size w w4) := HB.out.trans (hb4.mono hszr)
                      have HO4 := Lib.hid (ownP_keep HO.out hb4)
                      have hsz4 := HB4.out.size
                      clear hb4
                      go_wp2_with (at_builtin; refine app_pair rfl _ _ rfl w.heap.size A c _ acc ((s.take p).drop k, t) (by rfl) rfl HO4.out _ (by rfl) rfl ?_ ?_ ?_; (focus omega); (focus omega); intro A5 c5 w5 ho5 hg5)
                      go_roundw
                      case rel => exact ⟨m + 1, N, A5, c5, acc ++ [((s.take p).drop k, t)], by omega, by go_num, by simp, by simp; omega, by simp; omega, by rw [← HE.out]; exact HPA.out, fit_snoc HFT.out hnl htl2, ho5, HB4.out.trans (grown_to_below hg5 hsz4 (ownP_row HO4.out))⟩
                      case measure => simp [intOf]; omega
                  · have hc' : (s[p] == 61) = false := by simpa using hc
                    have HST : Hid (p + 1 - k ≤ at_ 61 ((s.take m).drop k)) := scan_step hkp hpa hpt (by rw [hg]; exact hc')
                    have b1 : ((s[p].toNat : Int) != 61) = true := by
                      simp
                      intro e
                      have h2 : s[p] = 61 := UInt8.toNat_inj.1 (by have : ((61 : UInt8).toNat) = 61 := rfl; omega)
                      exact hc (by rw [h2]; rfl)
                    clear hc hc' hg hpt
                    go_wp2
                    go_round
                    case rel => exact ⟨p + 1, by omega, by omega, by go_num, HST.out⟩
                    case measure => simp [intOf]; omega
                · have hpm' : p = m := by omega
                  subst hpm'
                  have HE : Hid (parseP 38 1 (N + 1) acc (s.drop k) = none) := by
                    show _ = _
                    refine parseP_bad acc HNE.out ?_
                    rw [HTK.out]
                    unfold partOk has
                    rw [HX.out] at hpa
                    rw [decide_eq_false (by omega)]
                    rfl
                  have HF2 : Hid (readAsked s = ([], false)) := by show _ = _; rw [HR.out, ← HPA.out, HE.out]
                  clear hpa
                  go_wp2
                  go_ret2
                  rw [HF2.out]
                  exact ⟨_, 0, rfl, ownP_empty wr w.heap.size hszr, HB.out.alloc hszr _⟩
            · have hc' : (s[m] == 38) = false := by simpa using hc
              have HST : Hid (m + 1 - k ≤ at_ 38 (s.drop k)) := scan_step hkm0 hma hlm hc'
              have b1 : ((s[m].toNat : Int) != 38) = true := by
                simp
                intro e
                have h2 : s[m] = 38 := UInt8.toNat_inj.1 (by have : ((38 : UInt8).toNat) = 38 := rfl; omega)
                exact hc (by rw [h2]; rfl)
              clear hc hc'
              go_wp2
              go_round
              case rel => exact ⟨m + 1, by omega, by omega, by go_num, HST.out⟩
              case measure => simp [intOf]; omega
          · have hms' : m = s.length := by omega
            have HAT : Hid (at_ 38 (s.drop k) = m - k) := by show _ = _; rw [hms'] at hma ⊢; exact scan_end hma
            clear hma hms'
            have hkm : k ≤ m := by omega
            obtain ⟨x, hx⟩ : ∃ x, (s.take m).drop k = x := ⟨_, rfl⟩
            have hxl : x.length = m - k := by rw [← hx]; simp; omega
            have HX := Lib.hid hx
            have HTK : Hid ((s.drop k).take (at_ 38 (s.drop k)) = x) := by show _ = _; rw [HAT.out, ← hx, List.drop_take]
            have HDR : Hid ((s.drop k).drop (at_ 38 (s.drop k) + 1) = s.drop (m + 1)) := by show _ = _; rw [HAT.out, List.drop_drop]; congr 1; omega
            have hml : (s.take m).length = m := by rw [List.length_take]; omega
            have HML := Lib.hid hml
            clear hx hml
            go_wp2
            go_loop [7] (fun i => ∃ (p : Nat), k ≤ p ∧ p ≤ m ∧ i = .int .i64 p ∧ p - k ≤ at_ 61 ((s.take m).drop k)) (fun i => m - (intOf i).toNat)
            case atStart => exact ⟨k, Nat.le_refl _, hkm, rfl, by omega⟩
            case round =>
              obtain ⟨p, hkp, hpm, rfl, hpa⟩ := hrel
              by_cases hlp : p < m
              · have hps : p < s.length := by omega
                have hpt : p < (s.take m).length := by rw [HML.out]; exact hlp
                have hg : (s.take m)[p] = s[p] := by rw [List.getElem_take]
                by_cases hc : (s[p] == 61) = true
                · have HSG : Hid (at_ 61 x = p - k) := by show _ = _; rw [← HX.out]; exact scan_found hkp hpa hpt (by rw [hg]; exact hc)
                  have b1 : ((s[p].toNat : Int) != 61) = false := by rw [show s[p] = 61 by simpa using hc]; rfl
                  have b2 : ((p : Int) == (m : Int)) = false := by simp; omega
                  have HH : Hid (has 61 x = true) := by show _ = _; unfold has; rw [HSG.out]; simp; omega
                  have HC1 : Hid ((s.take p).drop k = x.take (at_ 61 x)) := by show _ = _; rw [HSG.out, ← HX.out, List.take_drop]; congr 1; rw [List.take_take]; congr 1; omega
                  have HC2 : Hid ((s.take m).drop (p + 1) = x.drop (at_ 61 x + 1)) := by show _ = _; rw [HSG.out, ← HX.out, List.drop_drop]; congr 1; omega
                  clear hpa hc hg hpt
                  have hrl : (x.drop (at_ 61 x + 1)).length ≤ 1048576 := by simp; omega
                  have hnl : (x.take (at_ 61 x)).length ≤ 1048576 := by simp; omega
                  have HU := Lib.hid (fun w => spec_UnescapePart (x.drop (at_ 61 x + 1)) hrl w)
                  have hE1 : partOk x = (has 61 x && (unesc (x.drop (at_ 61 x + 1))).isSome) := rfl
                  have hE2 : partPr x = (x.take (at_ 61 x), (unesc (x.drop (at_ 61 x + 1))).getD []) := rfl
                  rw [HH.out, Bool.true_and] at hE1
                  rw [← HC2.out] at HU hE1 hE2 hrl
                  rw [← HC1.out] at hE2 hnl
                  clear HC1 HC2
                  cases hu : unesc ((s.take m).drop (p + 1)) with
                  | none =>
                    rw [hu] at HU hE1
                    have HE : Hid (parseP 38 1 (N + 1) acc (s.drop k) = none) := by show _ = _; exact parseP_bad acc HNE.out (by rw [HTK.out]; exact hE1)
                    have HF2 : Hid (readAsked s = ([], false)) := by show _ = _; rw [HR.out, ← HPA.out, HE.out]
                    clear hE1 hE2 hu
                    go_wp2_with fail
                    refine (HU.out _).mono ?_
                    rintro e w4 ⟨rfl, hb4⟩
                    have HB4 : Hid (Below w.heap.size w w4) := HB.out.trans (hb4.mono hszr)
                    have hsz4 := HB4.out.size
                    clear hb4
                    go_wp2
                    go_ret2
                    rw [HF2.out]
                    exact ⟨_, 0, rfl, ownP_empty w4 w.heap.size hsz4, HB4.out.alloc hsz4 _⟩
                  | some t =>
                    rw [hu] at HU hE1 hE2
                    have htl := unesc_len hu
                    have htl2 : t.length ≤ 1048576 := by omega
                    have HE : Hid (parseP 38 1 (N + 1) acc (s.drop k) = parseP 38 1 N (acc ++ [((s.take p).drop k, t)]) (s.drop (m + 1))) := by
                      show _ = _
                      rw [parseP_step acc HNE.out (by rw [HTK.out]; exact hE1), HTK.out, HDR.out, hE2]
                      rfl
                    clear hE1 hE2 hu htl
                    go_wp2_with fail
                    refine (HU.out _).mono ?_
                    rintro e w4 ⟨rfl, hb4⟩
                    have HB4 : Hid (Below w.heap.size w w4) := HB.out.trans (hb4.mono hszr)
                    have HO4 := Lib.hid (ownP_keep HO.out hb4)
                    have hsz4 := HB4.out.size
                    clear hb4
                    go_wp2_with (at_builtin; refine app_pair rfl _ _ rfl w.heap.size A c _ acc ((s.take p).drop k, t) (by rfl) rfl HO4.out _ (by rfl) rfl ?_ ?_ ?_; (focus omega); (focus omega); intro A5 c5 w5 ho5 hg5)
                    go_roundw
                    case rel => exact ⟨m + 1, N, A5, c5, acc ++ [((s.take p).drop k, t)], by omega, by go_num, by simp, by simp; omega, by simp; omega, by rw [← HE.out]; exact HPA.out, fit_snoc HFT.out hnl htl2, ho5, HB4.out.trans (grown_to_below hg5 hsz4 (ownP_row HO4.out))⟩
                    case measure => simp [intOf]; omega
                · have hc' : (s[p] == 61) = false := by simpa using hc
                  have HST : Hid (p + 1 - k ≤ at_ 61 ((s.take m).drop k)) := scan_step hkp hpa hpt (by rw [hg]; exact hc')
                  have b1 : ((s[p].toNat : Int) != 61) = true := by
                    simp
                    intro e
                    have h2 : s[p] = 61 := UInt8.toNat_inj.1 (by have : ((61 : UInt8).toNat) = 61 := rfl; omega)
                    exact hc (by rw [h2]; rfl)
                  clear hc hc' hg hpt
                  go_wp2
                  go_round
                  case rel => exact ⟨p + 1, by omega, by omega, by go_num, HST.out⟩
                  case measure => simp [intOf]; omega
              · have hpm' : p = m := by omega
                subst hpm'
                have HE : Hid (parseP 38 1 (N + 1) acc (s.drop k) = none) := by
                  show _ = _
                  refine parseP_bad acc HNE.out ?_
                  rw [HTK.out]
                  unfold partOk has
                  rw [HX.out] at hpa
                  rw [decide_eq_false (by omega)]
                  rfl
                have HF2 : Hid (readAsked s = ([], false)) := by show _ = _; rw [HR.out, ← HPA.out, HE.out]
                clear hpa
                go_wp2
                go_ret2
                rw [HF2.out]
                exact ⟨_, 0, rfl, ownP_empty wr w.heap.size hszr, HB.out.alloc hszr _⟩
    · have hD : s.drop k = [] := drop_nil s k (by omega)
      rw [hD, parseP_nil] at HPA
      rw [← HPA.out] at HR
      have hn : acc.length ≤ maxLen := by unfold maxLen; omega
      have HN := Lib.hid hn
      have HV := Lib.hid (fun w hr => spec_AskedValid acc A c w hr HFT.out HN.out)
      have HR2 : Hid (readAsked s = if askedOk acc && (askedText acc == s) then (acc, true) else ([], false)) := HR.out
      clear HR HPA hD hn hN
      cases hok : askedOk acc
      · rw [hok] at HR2 HV
        have HF2 : Hid (readAsked s = ([], false)) := HR2.out
        clear hok HR2
        go_wp2_with fail
        refine (HV.out _ (ownP_rd HO.out)).mono ?_
        rintro e w2 ⟨rfl, hb⟩
        have HB2 := Lib.hid (HB.out.trans (hb.mono hszr))
        have hz2 := HB2.out.size
        clear hb
        go_wp2
        go_ret2
        rw [HF2.out]
        exact ⟨_, 0, rfl, ownP_empty w2 w.heap.size hz2, HB2.out.alloc hz2 _⟩
      · rw [hok, Bool.true_and] at HR2
        rw [hok] at HV
        clear hok
        have HT := Lib.hid (fun w hr => spec_AskedText acc A c w hr HFT.out HN.out)
        generalize askedText acc = y at *
        go_wp2_with fail
        refine (HV.out _ (ownP_rd HO.out)).mono ?_
        rintro e w2 ⟨rfl, hb⟩
        have HB2 := Lib.hid (HB.out.trans (hb.mono hszr))
        have HO2 := Lib.hid (ownP_keep HO.out hb)
        clear hb
        go_wp2_with fail
        refine (HT.out _ (ownP_rd HO2.out)).mono ?_
        rintro e w3 ⟨rfl, hb⟩
        have HB3 := Lib.hid (HB2.out.trans (hb.mono HB2.out.size))
        have HO3 := Lib.hid (ownP_keep HO2.out hb)
        have hz3 := HB3.out.size
        clear hb
        by_cases hy : y = s
        · subst hy
          have HF2 : Hid (readAsked y = (acc, true)) := by show _ = _; rw [HR2.out]; simp
          clear HR2
          go_wp2
          go_ret2
          rw [HF2.out]
          exact ⟨A, c, rfl, HO3.out, HB3.out⟩
        · have HF2 : Hid (readAsked s = ([], false)) := by show _ = _; rw [HR2.out]; simp [hy]
          have h1 : (y == s) = false := by simpa using hy
          have h2 : (y != s) = true := by rw [bne, h1]; rfl
          clear HR2 hy
          go_wp2
          go_ret2
          rw [HF2.out]
          exact ⟨_, 0, rfl, ownP_empty w3 w.heap.size hz3, HB3.out.alloc hz3 _⟩
end Go.Proofs.YtjlaelkdmgcniaaDoor
