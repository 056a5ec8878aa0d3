/- Cookies: KeepCookie of spec: a walk. -/
import Derived.Test.YtlafdpndpjcklaaKeep
namespace Go.Proofs.Ytlafdpndpjcklaa
open Go.RowKit

theorem below_dn {B : Nat} {a w : World} (h : Below B a w) (n : Nat) : Below B a (w.drewN n) := h.trans ⟨rfl, rfl, rfl, Nat.le_refl _, fun _ _ => rfl⟩
theorem ownC_dn {w : World} {base c n : Nat} {A : Option Addr} {ps : List Ck} (h : OwnC w base A c ps) (_ : Below w.heap.size w w) : OwnC (w.drewN n) base A c ps := ownC_keep h (below_dn (Below.refl _ _) n)





set_option maxRecDepth 100000 in
set_option maxHeartbeats 4000000 in
theorem spec_KeepCookie (ps : List Ck) (a b : Tx) (u now : Int) (A : Option Addr) (c : Nat) (w : World) (hr : Rd w w.heap.size A (ccells ps)) (hA : A = none → c = 0) (hf : FitC ps) (hl : ps.length ≤ maxLen) (ha : a.length ≤ maxLen) (hb : b.length ≤ maxLen) :
    Calls Try.prog 6 #[.slice A ps.length c, .agg #[.string ⟨a.toArray⟩, .string ⟨b.toArray⟩, .int .i64 u], .int .i64 now] w (NewCB w (keepCookie ps (a, b, u) now)) := by
  have HV := Lib.hid (fun w' hb => spec_CookiesValid ps A c w' (hr.below (w' := w') hb |>.more hb.size) hf hl)
  have HI := Lib.hid (fun w => spec_l1In now 0 9999 w)
  have HA := Lib.hid hA
  clear hA
  cases hok : cookiesOk ps
  · have T6 : Hid (keepCookie ps (a, b, u) now = ([], false)) := by show _ = _; simp [keepCookie, hok]
    have HO := Lib.hid hok
    clear hok
    go_enter Try.func6, Try.ntmps6
    go_wp2_with fail
    refine (HV.out _ ((Below.refl _ _).alloc (Nat.le_refl _) _)).mono ?_
    rintro e w1 ⟨rfl, hb1⟩
    obtain ⟨wa, hza, hba, hca, hb2⟩ := box_of hb1
    have HB1 := Lib.hid (below_box hba hb2)
    clear hb1 hba hca hb2
    rw [HO.out]
    go_wp2
    go_ret2
    rw [T6.out]
    exact ⟨_, 0, rfl, own_base (ownC_empty w1 w1.heap.size (Nat.le_refl _)) HB1.out.size, HB1.out.alloc HB1.out.size _⟩
  · have h6 := cookies_len hok
    have HO := Lib.hid hok
    clear hok
    cases hij : (decide (0 ≤ now) && decide (now ≤ 9999))
    · have T6 : Hid (keepCookie ps (a, b, u) now = ([], false)) := by show _ = _; rw [keepCookie, Bool.and_assoc, hij, Bool.and_false]; rfl
      have HJ := Lib.hid hij
      clear hij
      go_enter Try.func6, Try.ntmps6
      go_wp2_with fail
      refine (HV.out _ ((Below.refl _ _).alloc (Nat.le_refl _) _)).mono ?_
      rintro e w1 ⟨rfl, hb1⟩
      obtain ⟨wa, hza, hba, hca, hb2⟩ := box_of hb1
      have HB1 := Lib.hid (below_box hba hb2)
      clear hb1 hba hca hb2
      rw [HO.out]
      go_wp2_with fail
      refine (HI.out _).mono ?_
      rintro e w0 ⟨rfl, rfl⟩
      rw [HJ.out]
      go_wp2
      go_ret2
      rw [T6.out]
      exact ⟨_, 0, rfl, own_base (ownC_empty w1 w1.heap.size (Nat.le_refl _)) HB1.out.size, HB1.out.alloc HB1.out.size _⟩
    · have HJ := Lib.hid hij
      clear hij
      · have hll := keepList_len ps (a, b, u) now
        have hlf := keepList_fit ps (a, b, u) now hf ha hb
        have HX : Hid (keepCookie ps (a, b, u) now = (if ckOk (a, b, u) && cookiesOk (keepList ps (a, b, u) now) then (keepList ps (a, b, u) now, true) else (ps, false))) := by show _ = _; rw [keepCookie, Bool.and_assoc, HJ.out, HO.out]; rfl
        have HLL : Hid (keepList ps (a, b, u) now = keepFold ps (a, b, u) now ps.length ++ (if now < u then [(a, b, u)] else [])) := rfl
        generalize keepList ps (a, b, u) now = l at *
        have HL3 := Lib.hid hlf
        have hlm : l.length ≤ maxLen := by unfold maxLen; omega
        have HLM := Lib.hid hlm
        have HAL := Lib.hid ha
        have HBL := Lib.hid hb
        have HF := Lib.hid hf
        clear hlf hlm ha hb hf
        go_enter Try.func6, Try.ntmps6
        go_wp2_with fail
        refine (HV.out _ ((Below.refl _ _).alloc (Nat.le_refl _) _)).mono ?_
        rintro e w1 ⟨rfl, hb1⟩
        obtain ⟨wa, hza, hba, hca, hb2⟩ := box_of hb1
        have HBA := Lib.hid hba
        have HCA := Lib.hid hca
        have HB1 := Lib.hid hb2
        clear hb1 hba hca hb2
        rw [HO.out]
        go_wp2_with fail
        refine (HI.out _).mono ?_
        rintro e w0 ⟨rfl, rfl⟩
        rw [HJ.out]
        go_wp2
        go_loopw [8, 9] (fun v i wr => ∃ (k : Nat) (A' : Option Addr) (c' : Nat), k ≤ ps.length ∧ i = .int .i64 k ∧ v = .slice A' (keepFold ps (a, b, u) now k).length c' ∧ OwnC wr (w.heap.size + 1) A' c' (keepFold ps (a, b, u) now k) ∧ Below (w.heap.size + 1) wa wr) (fun _ i _ => ps.length - (intOf i).toNat)
        case atStart =>
          have hs1 := HB1.out.size
          exact ⟨0, _, 0, Nat.zero_le _, rfl, rfl, own_base (ownC_empty w1 w1.heap.size (Nat.le_refl _)) (by omega), HB1.out.alloc (by omega) _⟩
        case round =>
          obtain ⟨k, A', c', hk, rfl, rfl, ho, hb⟩ := hrel
          have HB := Lib.hid hb
          have hbw := below_box HBA.out hb
          have hsz := hb.size
          by_cases hlt : k < ps.length
          · obtain ⟨g, o, rfl, hab, hc0, hc1, hc2⟩ := (hr.below hbw).cookie hlt
            have hx0 : wr.cell? ⟨w.heap.size, 0, none⟩ = some (sv a) := (HB.out.cell (p := ⟨w.heap.size, 0, none⟩) (by simp)).trans (HCA.out 0)
            have hwx : w.heap.size < wr.heap.size := by omega
            have hlen := keepFold_len ps (a, b, u) now k
            have HS := Lib.hid (keepFold_succ ps (a, b, u) now k hlt)
            have HK : Hid (keepIt (a, b, u) now ps[k] = (decide (now < ps[k].2.2) && !(ps[k].1 == a))) := rfl
            generalize keepFold ps (a, b, u) now k = out at *
            have HO' := Lib.hid ho
            clear hb hbw ho
            by_cases hu : now < ps[k].2.2
            · cases he : (ps[k].1 == a)
              · have HS2 : Hid (keepFold ps (a, b, u) now (k + 1) = out ++ [ps[k]]) := by show _ = _; rw [HS.out, HK.out, he]; simp [hu]
                go_wp2_with (first | (at_builtin; refine app_cookie rfl _ _ rfl (w.heap.size + 1) A' c' _ (out) ps[k] rfl rfl ?_ _ rfl ?_ ?_ ?_ ?_; (focus (refine ownC_dn HO'.out ?_; go_grown)); (focus (first | rfl | simp)); (focus omega); (focus (first | omega | (simp; omega))); intro A2 c2 w2 ho2 hg2) | go_quiet (fail))
                go_roundw
                case rel =>
                  refine ⟨k + 1, A2, c2, by omega, by go_num, by rw [HS2.out]; simp, by rw [HS2.out]; exact ho2, ?_⟩
                  exact (below_dn HB.out _).trans (grown_to_below hg2 (by simp; omega) (ownC_row HO'.out))
                case measure => simp [intOf]; omega
              · have HS2 : Hid (keepFold ps (a, b, u) now (k + 1) = out) := by show _ = _; rw [HS.out, HK.out, he]; simp
                go_wp2_with (go_quiet (fail))
                go_roundw
                case rel =>
                  refine ⟨k + 1, A', c', by omega, by go_num, by rw [HS2.out], by rw [HS2.out]; exact ownC_dn HO'.out (Below.refl _ _), below_dn HB.out _⟩
                case measure => simp [intOf]; omega
            · have HS2 : Hid (keepFold ps (a, b, u) now (k + 1) = out) := by show _ = _; rw [HS.out, HK.out]; simp [hu]
              go_wp2_with (go_quiet (fail))
              go_roundw
              case rel =>
                refine ⟨k + 1, A', c', by omega, by go_num, by rw [HS2.out], by rw [HS2.out]; exact ownC_dn HO'.out (Below.refl _ _), below_dn HB.out _⟩
              case measure => simp [intOf]; omega
          · have hkn : k = ps.length := by omega
            subst hkn
            have hlen := keepFold_len ps (a, b, u) now ps.length
            have HR := Lib.hid hr
            generalize keepFold ps (a, b, u) now ps.length = out at *
            have HO' := Lib.hid ho
            clear hb hbw ho hr
            by_cases hu : now < u
            · have HL2 : Hid (l = out ++ [(a, b, u)]) := by show _ = _; rw [HLL.out]; simp [hu]
              have hx0 : wr.cell? ⟨w.heap.size, 0, none⟩ = some (sv a) := (HB.out.cell (p := ⟨w.heap.size, 0, none⟩) (by simp)).trans (HCA.out 0)
              have hx1 : wr.cell? ⟨w.heap.size, 1, none⟩ = some (sv b) := (HB.out.cell (p := ⟨w.heap.size, 1, none⟩) (by simp)).trans (HCA.out 1)
              have hx2 : wr.cell? ⟨w.heap.size, 2, none⟩ = some (.int .i64 u) := (HB.out.cell (p := ⟨w.heap.size, 2, none⟩) (by simp)).trans (HCA.out 2)
              have hwx : w.heap.size < wr.heap.size := by omega
              go_wp2_with (first | ((at_builtin; refine app_cookie rfl _ _ rfl (w.heap.size + 1) A' c' _ (out) (a, b, u) rfl rfl ?_ _ rfl ?_ ?_ ?_ ?_; (focus (refine ownC_keep HO'.out ?_; go_grown)); (focus (first | rfl | simp)); (focus omega); (focus (first | omega | (simp; omega))); intro A2 c2 wx ho2 hg2); (have HB2 := Lib.hid (HB.out.trans (grown_to_below hg2 (by omega) (ownC_row HO'.out)))); (have hx0 : wx.cell? ⟨w.heap.size, 0, none⟩ = some (sv a) := (HB2.out.cell (p := ⟨w.heap.size, 0, none⟩) (by simp)).trans (HCA.out 0)); (have hx1 : wx.cell? ⟨w.heap.size, 1, none⟩ = some (sv b) := (HB2.out.cell (p := ⟨w.heap.size, 1, none⟩) (by simp)).trans (HCA.out 1)); (have hx2 : wx.cell? ⟨w.heap.size, 2, none⟩ = some (.int .i64 u) := (HB2.out.cell (p := ⟨w.heap.size, 2, none⟩) (by simp)).trans (HCA.out 2)); (have hsz2 := HB2.out.size); (have hwx : w.heap.size < wx.heap.size := by omega)) | fail)
              rw [← HL2.out] at ho2
              have HL4 : Hid (out.length + 1 = l.length) := by show _ = _; rw [HL2.out]; simp
              have HO2 := Lib.hid ho2
              clear hg2 ho2
              go_wp2_with fail
              rw [HL4.out]
              refine (spec_CookiesValid l A2 c2 _ (ownC_rd HO2.out) HL3.out HLM.out).mono ?_
              rintro e w5 ⟨rfl, hb5⟩
              have HB5 := Lib.hid (HB2.out.trans (hb5.mono (by omega)))
              have HO5 := Lib.hid (ownC_keep HO2.out hb5)
              clear hb5
              cases hz : cookiesOk l
              · have HX3 : Hid (keepCookie ps (a, b, u) now = (ps, false)) := by show _ = _; rw [HX.out, hz, Bool.and_false]; rfl
                clear hz
                obtain ⟨w3, rfl⟩ : ∃ w3 : World, w3 = w5 := ⟨_, rfl⟩
                have HB3 := Lib.hid (below_box HBA.out HB5.out)
                have hsz3 := HB3.out.size
                go_wp2_with (at_builtin; refine app_cookies rfl _ _ rfl w.heap.size _ 0 0 [] ps A ps.length c w.heap.size rfl rfl ?_ rfl rfl HA.out ?_ ?_ ?_ ?_; (focus exact own_base (ownC_empty w3 w3.heap.size (Nat.le_refl _)) HB3.out.size); (focus exact HR.out.below (HB3.out.alloc HB3.out.size _)); (focus (simp; omega)); (focus (simp; omega)); intro A4 c4 w4 ho4 hg4)
                go_ret2
                rw [HX3.out]
                refine ⟨A4, c4, by simp, ho4, (HB3.out.alloc HB3.out.size _).trans (grown_to_below hg4 (by simp; omega) ?_)⟩
                intro g hg
                simp [Value.ownBlock] at hg
                omega
              · have HX2 : Hid (keepCookie ps (a, b, u) now = (if ckOk (a, b, u) then (l, true) else (ps, false))) := by show _ = _; rw [HX.out, hz, Bool.and_true]
                clear hz
                have hx0' : w5.cell? ⟨w.heap.size, 0, none⟩ = some (sv a) := (HB5.out.cell (p := ⟨w.heap.size, 0, none⟩) (by simp)).trans (HCA.out 0)
                have hx1' : w5.cell? ⟨w.heap.size, 1, none⟩ = some (sv b) := (HB5.out.cell (p := ⟨w.heap.size, 1, none⟩) (by simp)).trans (HCA.out 1)
                have hx2' : w5.cell? ⟨w.heap.size, 2, none⟩ = some (.int .i64 u) := (HB5.out.cell (p := ⟨w.heap.size, 2, none⟩) (by simp)).trans (HCA.out 2)
                have hsz5 := HB5.out.size
                have hwx5 : w.heap.size < w5.heap.size := by omega
                go_wp2_with fail
                refine (spec_CookiesValid [(a, b, u)] (some ⟨w5.heap.size, 0, none⟩) 1 _ ?_ ?_ (by simp [maxLen])).mono ?_
                · intro _
                  refine ⟨w5.heap.size, 0, rfl, by simp, fun j v hv => ?_⟩
                  rw [Nat.zero_add]
                  refine (World.cell?_alloc_at _ _ _ _ rfl).trans ?_
                  simpa [ccells] using hv
                · intro p hp
                  simp at hp
                  subst hp
                  exact ⟨HAL.out, HBL.out⟩
                rw [cookies_one]
                rintro e w3 ⟨rfl, hb3⟩
                have HO3 := Lib.hid (own_base (ownC_keep HO5.out (((Below.refl _ _).alloc (Nat.le_refl _) _).trans (hb3.mono (by simp)))) (Nat.le_succ _))
                have HB3 := Lib.hid (below_box HBA.out ((HB5.out.alloc (by omega) _).trans (hb3.mono (by simp; omega))))
                clear hb3
                have hsz3 := HB3.out.size
                cases hq : ckOk (a, b, u)
                · have HX3 : Hid (keepCookie ps (a, b, u) now = (ps, false)) := by show _ = _; rw [HX2.out, hq]; rfl
                  clear hq
                  go_wp2_with (at_builtin; refine app_cookies rfl _ _ rfl w.heap.size _ 0 0 [] ps A ps.length c w.heap.size rfl rfl ?_ rfl rfl HA.out ?_ ?_ ?_ ?_; (focus exact own_base (ownC_empty w3 w3.heap.size (Nat.le_refl _)) HB3.out.size); (focus exact HR.out.below (HB3.out.alloc HB3.out.size _)); (focus (simp; omega)); (focus (simp; omega)); intro A4 c4 w4 ho4 hg4)
                  go_ret2
                  rw [HX3.out]
                  refine ⟨A4, c4, by simp, ho4, (HB3.out.alloc HB3.out.size _).trans (grown_to_below hg4 (by simp; omega) ?_)⟩
                  intro g hg
                  simp [Value.ownBlock] at hg
                  omega
                · have HX3 : Hid (keepCookie ps (a, b, u) now = (l, true)) := by show _ = _; rw [HX2.out, hq]; rfl
                  clear hq
                  go_wp2
                  go_ret2
                  rw [HX3.out]
                  exact ⟨A2, c2, rfl, HO3.out, HB3.out⟩
            · have HL2 : Hid (l = out) := by show _ = _; rw [HLL.out]; simp [hu]
              have HB2 := HB
              obtain ⟨wx, rfl⟩ : ∃ wx : World, wx = wr := ⟨_, rfl⟩
              have HO2 : Hid (OwnC wx (w.heap.size + 1) A' c' l) := by rw [HL2.out]; exact HO'.out
              have HL4 : Hid (out.length = l.length) := by rw [HL2.out]; rfl
              obtain ⟨A2, rfl⟩ : ∃ A2 : Option Addr, A2 = A' := ⟨_, rfl⟩
              obtain ⟨c2, rfl⟩ : ∃ c2 : Nat, c2 = c' := ⟨_, rfl⟩
              have hx0 : wx.cell? ⟨w.heap.size, 0, none⟩ = some (sv a) := (HB2.out.cell (p := ⟨w.heap.size, 0, none⟩) (by simp)).trans (HCA.out 0)
              have hx1 : wx.cell? ⟨w.heap.size, 1, none⟩ = some (sv b) := (HB2.out.cell (p := ⟨w.heap.size, 1, none⟩) (by simp)).trans (HCA.out 1)
              have hx2 : wx.cell? ⟨w.heap.size, 2, none⟩ = some (.int .i64 u) := (HB2.out.cell (p := ⟨w.heap.size, 2, none⟩) (by simp)).trans (HCA.out 2)
              have hsz2 := HB2.out.size
              have hwx : w.heap.size < wx.heap.size := by omega
              go_wp2_with fail
              go_wp2_with fail
              rw [HL4.out]
              refine (spec_CookiesValid l A2 c2 _ (ownC_rd HO2.out) HL3.out HLM.out).mono ?_
              rintro e w5 ⟨rfl, hb5⟩
              have HB5 := Lib.hid (HB2.out.trans (hb5.mono (by omega)))
              have HO5 := Lib.hid (ownC_keep HO2.out hb5)
              clear hb5
              cases hz : cookiesOk l
              · have HX3 : Hid (keepCookie ps (a, b, u) now = (ps, false)) := by show _ = _; rw [HX.out, hz, Bool.and_false]; rfl
                clear hz
                obtain ⟨w3, rfl⟩ : ∃ w3 : World, w3 = w5 := ⟨_, rfl⟩
                have HB3 := Lib.hid (below_box HBA.out HB5.out)
                have hsz3 := HB3.out.size
                go_wp2_with (at_builtin; refine app_cookies rfl _ _ rfl w.heap.size _ 0 0 [] ps A ps.length c w.heap.size rfl rfl ?_ rfl rfl HA.out ?_ ?_ ?_ ?_; (focus exact own_base (ownC_empty w3 w3.heap.size (Nat.le_refl _)) HB3.out.size); (focus exact HR.out.below (HB3.out.alloc HB3.out.size _)); (focus (simp; omega)); (focus (simp; omega)); intro A4 c4 w4 ho4 hg4)
                go_ret2
                rw [HX3.out]
                refine ⟨A4, c4, by simp, ho4, (HB3.out.alloc HB3.out.size _).trans (grown_to_below hg4 (by simp; omega) ?_)⟩
                intro g hg
                simp [Value.ownBlock] at hg
                omega
              · have HX2 : Hid (keepCookie ps (a, b, u) now = (if ckOk (a, b, u) then (l, true) else (ps, false))) := by show _ = _; rw [HX.out, hz, Bool.and_true]
                clear hz
                have hx0' : w5.cell? ⟨w.heap.size, 0, none⟩ = some (sv a) := (HB5.out.cell (p := ⟨w.heap.size, 0, none⟩) (by simp)).trans (HCA.out 0)
                have hx1' : w5.cell? ⟨w.heap.size, 1, none⟩ = some (sv b) := (HB5.out.cell (p := ⟨w.heap.size, 1, none⟩) (by simp)).trans (HCA.out 1)
                have hx2' : w5.cell? ⟨w.heap.size, 2, none⟩ = some (.int .i64 u) := (HB5.out.cell (p := ⟨w.heap.size, 2, none⟩) (by simp)).trans (HCA.out 2)
                have hsz5 := HB5.out.size
                have hwx5 : w.heap.size < w5.heap.size := by omega
                go_wp2_with fail
                refine (spec_CookiesValid [(a, b, u)] (some ⟨w5.heap.size, 0, none⟩) 1 _ ?_ ?_ (by simp [maxLen])).mono ?_
                · intro _
                  refine ⟨w5.heap.size, 0, rfl, by simp, fun j v hv => ?_⟩
                  rw [Nat.zero_add]
                  refine (World.cell?_alloc_at _ _ _ _ rfl).trans ?_
                  simpa [ccells] using hv
                · intro p hp
                  simp at hp
                  subst hp
                  exact ⟨HAL.out, HBL.out⟩
                rw [cookies_one]
                rintro e w3 ⟨rfl, hb3⟩
                have HO3 := Lib.hid (own_base (ownC_keep HO5.out (((Below.refl _ _).alloc (Nat.le_refl _) _).trans (hb3.mono (by simp)))) (Nat.le_succ _))
                have HB3 := Lib.hid (below_box HBA.out ((HB5.out.alloc (by omega) _).trans (hb3.mono (by simp; omega))))
                clear hb3
                have hsz3 := HB3.out.size
                cases hq : ckOk (a, b, u)
                · have HX3 : Hid (keepCookie ps (a, b, u) now = (ps, false)) := by show _ = _; rw [HX2.out, hq]; rfl
                  clear hq
                  go_wp2_with (at_builtin; refine app_cookies rfl _ _ rfl w.heap.size _ 0 0 [] ps A ps.length c w.heap.size rfl rfl ?_ rfl rfl HA.out ?_ ?_ ?_ ?_; (focus exact own_base (ownC_empty w3 w3.heap.size (Nat.le_refl _)) HB3.out.size); (focus exact HR.out.below (HB3.out.alloc HB3.out.size _)); (focus (simp; omega)); (focus (simp; omega)); intro A4 c4 w4 ho4 hg4)
                  go_ret2
                  rw [HX3.out]
                  refine ⟨A4, c4, by simp, ho4, (HB3.out.alloc HB3.out.size _).trans (grown_to_below hg4 (by simp; omega) ?_)⟩
                  intro g hg
                  simp [Value.ownBlock] at hg
                  omega
                · have HX3 : Hid (keepCookie ps (a, b, u) now = (l, true)) := by show _ = _; rw [HX2.out, hq]; rfl
                  clear hq
                  go_wp2
                  go_ret2
                  rw [HX3.out]
                  exact ⟨A2, c2, rfl, HO3.out, HB3.out⟩
end Go.Proofs.Ytlafdpndpjcklaa
