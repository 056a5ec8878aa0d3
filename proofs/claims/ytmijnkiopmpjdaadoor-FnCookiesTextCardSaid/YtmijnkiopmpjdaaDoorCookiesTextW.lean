/- FnCookiesText: a walk. -/
import Derived.Test.YtmijnkiopmpjdaaDoorCkDrawT
import Derived.Test.YtmijnkiopmpjdaaDoorCkKept
import Derived.Test.YtmijnkiopmpjdaaDoorReadCookies
import Derived.Test.YtmijnkiopmpjdaaDoorSame
import Derived.Test.YtmijnkiopmpjdaaDoorLower
import Derived.Test.YtmijnkiopmpjdaaDoorTypedB
namespace Go.Proofs.YtmijnkiopmpjdaaDoor
open Go.RowKit

set_option maxRecDepth 100000 in
set_option maxHeartbeats 2000000 in
theorem cookiesText_walk (bs : Tx) (A : Option Addr) (c : Nat) (w : World) (hr : Rd w w.heap.size A (bcells bs)) (hc : bs.length ≤ c) (hm : bs.length ≤ maxLen) (hmx : Hm w) :
    Calls Tryd.prog 4 #[.slice A bs.length c] w fun e w' => e = .returned (.bool true) ∧ Below w.heap.size w w' := by
  unfold maxLen at hm
  by_cases h : 1048576 < bs.length
  · go_enter Tryd.func4, Tryd.ntmps4
    go_wp2
    go_ret
    exact ⟨rfl, Below.refl _ _⟩
  · have HD := Lib.hid (spec_DrawCookiesText bs A c w hr hc (by omega))
    have HM := Lib.hid hmx
    clear hr hmx
    go_enter Tryd.func4, Tryd.ntmps4
    go_wp2_with fail
    refine HD.out.mono ?_
    rintro e w1 ⟨A1, c1, ps, now, rfl, hnow, ho1, hs1, hn1, hb1⟩
    have HF := Lib.hid (smallC_fit hs1)
    have HL : Hid (ps.length ≤ maxLen) := by show _ ≤ _; unfold maxLen; omega
    have hcap := ownC_cap ho1
    have HO1 := Lib.hid ho1
    have HB1 := Lib.hid hb1
    clear ho1 hs1 hb1
    have HI := Lib.hid (fun w hr => impl_CookiesText ps now A1 c1 w hr HF.out hcap HL.out)
    have HS := Lib.hid (fun w hr => spec_CookiesText ps now A1 c1 w hr HF.out HL.out)
    have HV := Lib.hid (fun w hr => spec_CookiesValid ps A1 c1 w hr HF.out HL.out)
    have hsl := cookiesText_len ps now
    have HX := Lib.hid (fun (h0 : cookiesOk ps = true) => kept_read h0 now)
    have HSE : Hid (cookiesOk ps = false → cookiesText ps now = []) := fun h => by rw [cookiesText, h]; rfl
    generalize cookiesText ps now = s at *
    have HSL : Hid (s.length ≤ maxLen) := by show _ ≤ _; unfold maxLen; omega
    have HRD := Lib.hid (fun w hA => impl_ReadCookies s HSL.out (by omega) w hA)
    dsimp only
    go_wp2_with fail
    refine (HI.out _ (ownC_rd HO1.out)).mono ?_
    rintro e w2 ⟨rfl, hb⟩
    have HB2 := Lib.hid (HB1.out.trans (hb.mono HB1.out.size))
    have hz2 := HB2.out.size
    have HO1 := Lib.hid (ownC_keep HO1.out hb)
    clear hb
    go_wp2_with fail
    refine (HS.out _ (ownC_rd HO1.out)).mono ?_
    rintro e w3 ⟨rfl, hb⟩
    have HB3 := Lib.hid (HB2.out.trans (hb.mono HB2.out.size))
    have hz3 := HB3.out.size
    have HO1 := Lib.hid (ownC_keep HO1.out hb)
    clear hb
    cases hok : cookiesOk ps
    · have h0 : s = [] := HSE.out hok
      subst h0
      rw [hok] at HV
      clear hok
      go_wp2_with fail
      refine (HV.out _ (ownC_rd HO1.out)).mono ?_
      rintro e w4 ⟨rfl, hb⟩
      have HB4 := Lib.hid (HB3.out.trans (hb.mono HB3.out.size))
      have hz4 := HB4.out.size
      have HO1 := Lib.hid (ownC_keep HO1.out hb)
      clear hb
      go_wp2_with fail
      refine (laws_alive _).mono ?_
      rintro e w5 ⟨rfl, hb⟩
      have HB5 := Lib.hid (HB4.out.trans (hb.mono HB4.out.size))
      have hz5 := HB5.out.size
      have HO1 := Lib.hid (ownC_keep HO1.out hb)
      clear hb
      go_wp2
      go_ret
      exact ⟨rfl, HB5.out⟩
    · have hx := HX.out hok
      rw [hok] at HV
      rw [hx] at HRD
      clear hok hx HX HSE
      go_wp2_with fail
      refine (HV.out _ (ownC_rd HO1.out)).mono ?_
      rintro e w4 ⟨rfl, hb⟩
      have HB4 := Lib.hid (HB3.out.trans (hb.mono HB3.out.size))
      have hz4 := HB4.out.size
      have HO1 := Lib.hid (ownC_keep HO1.out hb)
      clear hb
      go_wp2
      go_loopw [6, 7] (fun v i wr => ∃ (k : Nat) (A : Option Addr) (c : Nat), k ≤ ps.length ∧ i = .int .i64 (k : Int) ∧ v = .slice A (keptP ps now k).length c ∧ OwnP wr w4.heap.size A c (keptP ps now k) ∧ Below w4.heap.size w4 wr) (fun _ i _ => ps.length - (intOf i).toNat)
      case atStart => exact ⟨0, _, 0, Nat.zero_le _, rfl, rfl, ownP_empty w4 w4.heap.size (Nat.le_refl _), (Below.refl _ _).alloc (Nat.le_refl _) _⟩
      case round =>
        obtain ⟨k, A, c, hk, rfl, rfl, ho, hb⟩ := hrel
        have HO := Lib.hid ho
        have HB := Lib.hid hb
        have HO1 := Lib.hid (ownC_keep HO1.out hb)
        have hszr := hb.size
        have hkl := kept_len ps now k
        clear ho hb
        by_cases hlt : k < ps.length
        · obtain ⟨b, o, rfl, hab, hc0, hc1, hc2⟩ := (ownC_rd HO1.out).cookie hlt
          have HSU := Lib.hid (kept_succ ps now k hlt)
          generalize keptP ps now k = qs at *
          by_cases hlive : (now : Int) < ps[k].2.2
          · have HS2 : Hid (keptP ps now (k + 1) = qs ++ [(ps[k].1, ps[k].2.1)]) := by show _ = _; rw [HSU.out, if_pos hlive]
            have HC0 := Lib.hid hc0
            have HC1 := Lib.hid hc1
            have hb0 : (⟨b, o + k * 3, none⟩ : Addr).block < wr.heap.size := hab
            have hb1 : (⟨b, o + k * 3 + 1, none⟩ : Addr).block < wr.heap.size := hab
            go_wp2_with fail
            refine wp_region_typed 13 (by kernel_rfl) (by kernel_rfl) (fun _ w => Below (World.heap wr).size wr w) KB (fun i => ([bIs (.slice A qs.length c), bIs (.slice (some ⟨b, o, none⟩) ps.length c1), bIs (.int .i64 (k : Int)), bIs (.pointer (some ⟨b, o + k * 3, none⟩)), bIs (.pointer (some ⟨b, o + k * 3, none⟩)), bIs (sv ps[k].1), bIs (.slice (some ⟨b, o, none⟩) ps.length c1), bIs (.int .i64 (k : Int)), bIs (.pointer (some ⟨b, o + k * 3, none⟩)), bIs (.pointer (some ⟨b, o + k * 3 + 1, none⟩)), bIs (sv ps[k].2.1), bIs (.agg #[sv ps[k].1, sv ps[k].2.1]), bRow (World.heap wr).size 1 #[sv ps[k].1, sv ps[k].2.1] 38] : List TyB).getD i bAny) ?hWbB1 ?hkeepB1 ?hstepB1 ?hfinbB1
            case hkeepB1 =>
              refine all_lt_succ (all_lt_succ (all_lt_succ (all_lt_succ (all_lt_succ (all_lt_succ (all_lt_succ (all_lt_succ (all_lt_succ (all_lt_succ (all_lt_succ (all_lt_succ (all_lt_succ all_lt_zero ?_) ?_) ?_) ?_) ?_) ?_) ?_) ?_) ?_) ?_) ?_) ?_) ?_
              · exact keeps_bIs
              · exact keeps_bIs
              · exact keeps_bIs
              · exact keeps_bIs
              · exact keeps_bIs
              · exact keeps_bIs
              · exact keeps_bIs
              · exact keeps_bIs
              · exact keeps_bIs
              · exact keeps_bIs
              · exact keeps_bIs
              · exact keeps_bIs
              · exact keeps_bRow
            case hstepB1 =>
              refine all_lt_succ (all_lt_succ (all_lt_succ (all_lt_succ (all_lt_succ (all_lt_succ (all_lt_succ (all_lt_succ (all_lt_succ (all_lt_succ (all_lt_succ (all_lt_succ (all_lt_succ all_lt_zero ?_) ?_) ?_) ?_) ?_) ?_) ?_) ?_) ?_) ?_) ?_) ?_) ?_
              · (intro o ho m' a w1 hm' hW hb hd K Q hK; obtain rfl := Option.some.inj ho; have e0 : a.tmps[6]?.getD undef = (.slice A qs.length c) := (by rw [hb 6 (by decide +kernel)]; simp); go_simp; exact hK _ _ hW (kb_refl _) rfl)
              · (intro o ho m' a w1 hm' hW hb hd K Q hK; obtain rfl := Option.some.inj ho; have e0 : a.tmps[3]?.getD undef = (.slice (some ⟨b, o, none⟩) ps.length c1) := (by rw [hb 3 (by decide +kernel)]; simp); go_simp; exact hK _ _ hW (kb_refl _) rfl)
              · (intro o ho m' a w1 hm' hW hb hd K Q hK; obtain rfl := Option.some.inj ho; have e0 : a.tmps[7]?.getD undef = (.int .i64 (k : Int)) := (by rw [hb 7 (by decide +kernel)]; simp); go_simp; exact hK _ _ hW (kb_refl _) rfl)
              · (intro o ho m' a w1 hm' hW hb hd K Q hK; obtain rfl := Option.some.inj ho; have e0 := slotB (hd 1 (by kernel_rfl) 49 rfl); have e1 := slotB (hd 2 (by kernel_rfl) 50 rfl); go_simp; exact hK _ _ hW (kb_refl _) rfl)
              · (intro o ho m' a w1 hm' hW hb hd K Q hK; obtain rfl := Option.some.inj ho; have e0 := slotB (hd 3 (by kernel_rfl) 51 rfl); go_simp; exact hK _ _ hW (kb_refl _) rfl)
              · (intro o ho m' a w1 hm' hW hb hd K Q hK; obtain rfl := Option.some.inj ho; have e0 := slotB (hd 4 (by kernel_rfl) 52 rfl); have hcw := (hW.cell (p := ⟨_, _, none⟩) hb0).trans HC0.out; go_simp; exact hK _ _ hW (kb_refl _) rfl)
              · (intro o ho m' a w1 hm' hW hb hd K Q hK; obtain rfl := Option.some.inj ho; have e0 : a.tmps[3]?.getD undef = (.slice (some ⟨b, o, none⟩) ps.length c1) := (by rw [hb 3 (by decide +kernel)]; simp); go_simp; exact hK _ _ hW (kb_refl _) rfl)
              · (intro o ho m' a w1 hm' hW hb hd K Q hK; obtain rfl := Option.some.inj ho; have e0 : a.tmps[7]?.getD undef = (.int .i64 (k : Int)) := (by rw [hb 7 (by decide +kernel)]; simp); go_simp; exact hK _ _ hW (kb_refl _) rfl)
              · (intro o ho m' a w1 hm' hW hb hd K Q hK; obtain rfl := Option.some.inj ho; have e0 := slotB (hd 6 (by kernel_rfl) 54 rfl); have e1 := slotB (hd 7 (by kernel_rfl) 55 rfl); go_simp; exact hK _ _ hW (kb_refl _) rfl)
              · (intro o ho m' a w1 hm' hW hb hd K Q hK; obtain rfl := Option.some.inj ho; have e0 := slotB (hd 8 (by kernel_rfl) 56 rfl); go_simp; exact hK _ _ hW (kb_refl _) rfl)
              · (intro o ho m' a w1 hm' hW hb hd K Q hK; obtain rfl := Option.some.inj ho; have e0 := slotB (hd 9 (by kernel_rfl) 57 rfl); have hcw := (hW.cell (p := ⟨_, _, none⟩) hb1).trans HC1.out; go_simp; exact hK _ _ hW (kb_refl _) rfl)
              · (intro o ho m' a w1 hm' hW hb hd K Q hK; obtain rfl := Option.some.inj ho; have e0 := slotB (hd 5 (by kernel_rfl) 53 rfl); have e1 := slotB (hd 10 (by kernel_rfl) 58 rfl); go_simp; exact hK _ _ hW (kb_refl _) rfl)
              · (intro o ho m' a w1 hm' hW hb hd K Q hK; obtain rfl := Option.some.inj ho; have e0 := slotB (hd 11 (by kernel_rfl) 59 rfl); go_simp; exact hK _ _ (hW.alloc hW.size _) ((Below.refl _ _).alloc (Nat.le_refl _) _) ⟨_, rfl, hW.size, heap_alloc_new w1 _⟩)
            case hWbB1 => exact (Below.refl _ _).drew
            case hfinbB1 =>
              intro vs w3 hW hF
              simp only [putAll, hdst, List.getElem?_cons_succ, List.getElem?_cons_zero, Option.bind, List.drop_succ_cons, List.drop_zero, Act.put]
              obtain ⟨g, h12, hbg, hh⟩ := hF 12 (by omega)
              have h0 : vs 0 = .slice A qs.length c := hF 0 (by omega)
              rw [h12, h0]
              have HW := Lib.hid hW
              have HO3 := Lib.hid (ownP_keep HO.out hW)
              have HB3 := Lib.hid (HB.out.trans (hW.mono hszr))
              have hsz3 := HB3.out.size
              clear hF h12 h0 hW hc0 hc1 hc2
              go_simp
              go_wp2_with (at_builtin; refine app_pair_at rfl _ _ rfl w4.heap.size A c qs ps[k].1 ps[k].2.1 (by rfl) HO3.out g (by rfl) hh ?_ ?_ ?_; (focus omega); (focus omega); intro A5 c5 w5 ho5 hg5)
              go_roundw
              case rel => exact ⟨k + 1, A5, c5, by omega, by go_num, by rw [HS2.out]; simp, by rw [HS2.out]; exact ho5, HB3.out.trans (grown_to_below hg5 hsz3 (ownP_row HO3.out))⟩
              case measure => simp [intOf]; omega
          · have HS2 : Hid (keptP ps now (k + 1) = qs) := by show _ = _; rw [HSU.out, if_neg hlive, List.append_nil]
            go_wp2
            go_roundw
            case rel => exact ⟨k + 1, A, c, by omega, by go_num, by rw [HS2.out], by rw [HS2.out]; exact HO.out, HB.out⟩
            case measure => simp [intOf]; omega
        · have hkn : k = ps.length := by omega
          subst hkn
          have HBW := Lib.hid (HB4.out.trans (HB.out.mono HB4.out.size))
          have HL2 : Hid ((keptP ps now ps.length).length ≤ maxLen) := by show _ ≤ _; unfold maxLen; omega
          generalize keptP ps now ps.length = qs at *
          go_wp2_with fail
          refine (HRD.out _ (HM.out.below HBW.out)).mono ?_
          rintro e w5 ⟨A5, c5, rfl, ho, hb⟩
          have HB5 := Lib.hid (HBW.out.trans (hb.mono HBW.out.size))
          have HO := Lib.hid (ownP_keep HO.out hb)
          have HO5 := Lib.hid ho
          clear ho hb
          dsimp only
          go_wp2_with fail
          refine (laws_samePairs qs qs A5 A c5 c _ (ownP_rd HO5.out) (ownP_rd HO.out) HL2.out).mono ?_
          rw [beq_self_eq_true]
          rintro e w6 ⟨rfl, hb⟩
          have HB6 := Lib.hid (HB5.out.trans (hb.mono HB5.out.size))
          have hz6 := HB6.out.size
          clear hb
          go_wp2
          go_ret
          exact ⟨rfl, HB6.out⟩
end Go.Proofs.YtmijnkiopmpjdaaDoor
