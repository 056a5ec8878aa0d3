/- CleanStyles of impl and of spec: walks. -/
import Derived.Test.YtaofgcdpmeeimaaDoorCleanP
import Derived.Test.YtaofgcdpmeeimaaDoorSplit
import Derived.Test.YtaofgcdpmeeimaaDoorTrim
import Derived.Test.YtaofgcdpmeeimaaDoorStrS
import Derived.Deep.RegionHeld3
import Derived.Test.YtaofgcdpmeeimaaDoorTypedB
import Derived.Test.YtaofgcdpmeeimaaDoorDraw
import Derived.IntWalk
namespace Go.Proofs.YtaofgcdpmeeimaaDoor
open Go.RowKit

theorem step_no {out : List Pr} {x : Tx} (h : stKeep x = false) : stStep out x = out := by unfold stStep; rw [h]; rfl
theorem step_full {out : List Pr} {x : Tx} (h : ¬ out.length < 6) : stStep out x = out := by unfold stStep; rw [decide_eq_false h, Bool.and_false]; rfl
theorem step_yes {out : List Pr} {x : Tx} (h : stKeep x = true) (h6 : out.length < 6) : stStep out x = out ++ [stPr x] := by unfold stStep; rw [h, decide_eq_true h6]; rfl
theorem fold_at {ps : List Tx} {k : Nat} {out : List Pr} {r : List Pr} (h : (ps.drop k).foldl stStep out = r) (hk : k < ps.length) : (ps.drop (k + 1)).foldl stStep (stStep out ps[k]) = r := by
  rw [drop_cons ps k hk, List.foldl_cons] at h
  exact h

theorem pair_new (W : World) (a b : Tx) (t : TypeId) (n : Nat) : ((W.alloc (.cells #[sv a, sv b] t)).drewN n).cell? ⟨W.heap.size, 0, none⟩ = some (sv a) ∧ ((W.alloc (.cells #[sv a, sv b] t)).drewN n).cell? ⟨W.heap.size, 1, none⟩ = some (sv b) := by
  refine ⟨?_, ?_⟩
  · show (W.alloc _).cell? ⟨W.heap.size, 0, none⟩ = _
    rw [World.cell?_alloc_at _ _ _ _ rfl]; rfl
  · show (W.alloc _).cell? ⟨W.heap.size, 1, none⟩ = _
    rw [World.cell?_alloc_at _ _ _ _ rfl]; rfl

set_option maxRecDepth 100000 in
set_option maxHeartbeats 2000000 in
theorem impl_CleanStyles (s : Tx) (_ : s.length ≤ maxLen) (hl : s.length ≤ 1048576) (w : World) (hm : Hm w) :
    Calls Tryd.prog 20 #[.string ⟨s.toArray⟩] w (NewP w (cleanStyles s)) := by
  have HR : Hid (cleanStyles s = (Lib.split s [59]).foldl stStep []) := rfl
  have hln := split_len s (sep := [59]) (by simp)
  have HML := Lib.hid (split_mem s (sep := [59]) (by simp))
  have HS := Lib.hid (fun w hm => split_tx s [59] (by simp) hl w hm)
  have HM := Lib.hid hm
  clear hm
  generalize Lib.split s [59] = ps at *
  go_enter Tryd.func20, Tryd.ntmps20
  go_wp2_with fail
  refine (HS.out _ (HM.out.below ((Below.refl _ _).alloc (Nat.le_refl _) _))).mono ?_
  rintro e w2 ⟨A0, c0, rfl, ho, hb⟩
  have HB2 : Hid (Below w.heap.size w w2) := ((Below.refl _ _).alloc (Nat.le_refl _) _).trans (hb.mono (by simp))
  have HO2 : Hid (OwnP w2 w.heap.size (some ⟨w.heap.size, 0, none⟩) 0 []) := ownP_keep (ownP_empty w _ (Nat.le_refl _)) hb
  have HP2 := Lib.hid ho
  clear hb ho
  go_wp2
  go_loopw [3, 14] (fun v i wr => ∃ (k : Nat) (A : Option Addr) (c : Nat) (out : List Pr), k ≤ ps.length ∧ i = .int .i64 (k : Int) ∧ v = .slice A out.length c ∧ out.length ≤ 6 ∧ (ps.drop k).foldl stStep out = cleanStyles s ∧ OwnP wr w.heap.size A c out ∧ OwnS wr (w.heap.size + 1) A0 c0 ps ∧ Below w.heap.size w wr) (fun _ i _ => ps.length - (intOf i).toNat)
  case atStart => exact ⟨0, _, 0, [], Nat.zero_le _, rfl, rfl, by simp, HR.out.symm, HO2.out, by have := HP2.out; simpa using this, HB2.out⟩
  case round =>
    obtain ⟨k, A, c, out, hk, rfl, rfl, h6, hf, ho, hp, hb⟩ := hrel
    have HO := Lib.hid ho
    have HP := Lib.hid hp
    have HB := Lib.hid hb
    have HF := Lib.hid hf
    have hszr := hb.size
    clear ho hp hb hf
    by_cases hlt : k < ps.length
    · obtain ⟨b, o, rfl, hab, hc0⟩ := (ownS_rd HP.out).str hlt
      have hx := HML.out _ (List.getElem_mem hlt)
      have HFS := Lib.hid (fold_at HF.out hlt)
      have HC := Lib.hid (fun w => strings_Cut ps[k] 58 (by omega) w)
      have HCELL := Lib.hid hc0
      have HPL := Lib.hid (stPr_len ps[k])
      obtain ⟨x, hxe⟩ : ∃ x, ps[k] = x := ⟨_, rfl⟩
      have hE1 : stKeep x = (has 58 x && safe (stPr x)) := rfl
      have hE2 : stPr x = (lower (trimSp (if has 58 x then x.take (at_ 58 x) else x)), trimSp (if has 58 x then x.drop (at_ 58 x + 1) else [])) := rfl
      rw [hxe] at HFS HC HCELL hx HPL
      have hn1 : (if has 58 x then x.take (at_ 58 x) else x).length ≤ 1048576 := by split <;> first | omega | (simp; omega)
      have hn2 : (if has 58 x then x.drop (at_ 58 x + 1) else []).length ≤ 1048576 := by split <;> simp <;> omega
      generalize (if has 58 x then x.take (at_ 58 x) else x) = r1 at *
      generalize (if has 58 x then x.drop (at_ 58 x + 1) else []) = r2 at *
      have HT1 := Lib.hid (fun w => strings_Trim r1 (by unfold maxLen; omega) w)
      have HT2 := Lib.hid (fun w => strings_Trim r2 (by unfold maxLen; omega) w)
      have ht1 := trimSp_len r1
      have HLW := Lib.hid (fun w => impl_LowerText (trimSp r1) (by omega) w)
      rw [hE2] at HPL
      have hv : (trimSp r2).length ≤ maxLen := by have := trimSp_len r2; unfold maxLen; omega
      have HSS := Lib.hid (fun w => impl_StyleSafe (lower (trimSp r1)) (trimSp r2) hv w)
      have hE3 : safe (stPr x) = styleOk (lower (trimSp r1)) (trimSp r2) := by rw [hE2]; rfl
      rw [hE3] at hE1
      generalize lower (trimSp r1) = nm at *
      generalize trimSp r2 = vv at *
      generalize trimSp r1 = t1 at *
      generalize has 58 x = hh at *
      have hc1 := HCELL.out
      have HE1 := Lib.hid hE1
      have HE2 := Lib.hid hE2
      clear hxe hE1 hE2 hE3 hc0 HF ht1 hn1 hn2
      go_wp2_with fail
      refine (HC.out _).mono ?_
      rintro e w3 ⟨rfl, n, rfl⟩
      go_wp2_with fail
      refine (HT1.out _).mono ?_
      rintro e w4 ⟨rfl, n2, rfl⟩
      go_wp2_with fail
      refine (HLW.out _).mono ?_
      rintro e w5 ⟨rfl, hb5⟩
      have HD : Hid (Below wr.heap.size wr w5) := (below_drewN (Below.refl _ _) (n + n2)).trans hb5
      clear hb5
      go_wp2_with fail
      refine (HT2.out _).mono ?_
      rintro e w6 ⟨rfl, n3, hq⟩
      have HD5 : Hid (Below wr.heap.size wr w6) := by show Below _ _ _; rw [hq]; exact below_drewN HD.out n3
      clear hq
      have HD6 : Hid (Below wr.heap.size wr (w6.alloc (.cells #[sv nm, sv vv] 35))) := HD5.out.alloc HD5.out.size _
      have hz5 := HD5.out.size
      cases hh
      · have HK : Hid (stStep out x = out) := step_no (by rw [HE1.out]; rfl)
        go_wp2
        go_roundw
        case rel => exact ⟨k + 1, A, c, out, by omega, by go_num, rfl, h6, by rw [← HFS.out, HK.out], ownP_keep HO.out HD6.out, ownS_keep HP.out HD6.out, HB.out.trans (HD6.out.mono hszr)⟩
        case measure => simp [intOf]; omega
      · rw [Bool.true_and] at HE1
        go_wp2_with fail
        refine (HSS.out _).mono ?_
        cases hst : styleOk nm vv
        · have HK : Hid (stStep out x = out) := step_no (by rw [HE1.out, hst])
          clear hst
          rintro e w7 ⟨rfl, hb7⟩
          have HD7 : Hid (Below wr.heap.size wr w7) := HD6.out.trans (hb7.mono HD6.out.size)
          clear hb7
          go_wp2
          go_roundw
          case rel => exact ⟨k + 1, A, c, out, by omega, by go_num, rfl, h6, by rw [← HFS.out, HK.out], ownP_keep HO.out HD7.out, ownS_keep HP.out HD7.out, HB.out.trans (HD7.out.mono hszr)⟩
          case measure => simp [intOf]; omega
        · have HKY : Hid (stKeep x = true) := by show _ = _; rw [HE1.out, hst]
          clear hst
          rintro e w7 ⟨rfl, hb7⟩
          have HD7 : Hid (Below wr.heap.size wr w7) := HD6.out.trans (hb7.mono HD6.out.size)
          have HC7 : Hid (w7.cell? ⟨w6.heap.size, 0, none⟩ = some (sv nm) ∧ w7.cell? ⟨w6.heap.size, 1, none⟩ = some (sv vv)) := by
            obtain ⟨h1, h2⟩ := pair_new w6 nm vv 35 0
            exact ⟨(hb7.cell (p := ⟨w6.heap.size, 0, none⟩) (by simp)).trans h1, (hb7.cell (p := ⟨w6.heap.size, 1, none⟩) (by simp)).trans h2⟩
          clear hb7
          by_cases h6' : out.length < 6
          · have HK : Hid (stStep out x = out ++ [(nm, vv)]) := by show _ = _; rw [step_yes HKY.out h6', HE2.out]
            have HO7 := Lib.hid (ownP_keep HO.out HD7.out)
            have HP7 := Lib.hid (ownS_keep HP.out HD7.out)
            have HB7 := Lib.hid (HB.out.trans (HD7.out.mono hszr))
            have hz7 := HB7.out.size
            obtain ⟨g1, g2⟩ := HC7.out
            go_wp2_with (at_builtin; refine app_pair rfl _ _ rfl w.heap.size A c _ out (nm, vv) (by rfl) rfl HO7.out _ (by rfl) rfl ?_ ?_ ?_; (focus omega); (focus omega); intro A8 c8 w8 ho8 hg8)
            go_roundw
            case rel => exact ⟨k + 1, A8, c8, out ++ [(nm, vv)], by omega, by go_num, by simp, by simp; omega, by rw [← HFS.out, HK.out], ho8, HP7.out.kept hg8 (own_types HP7.out HO7.out (by decide)), HB7.out.trans (grown_to_below hg8 hz7 (ownP_row HO7.out))⟩
            case measure => simp [intOf]; omega
          · have HK : Hid (stStep out x = out) := step_full h6'
            go_wp2
            go_roundw
            case rel => exact ⟨k + 1, A, c, out, by omega, by go_num, rfl, h6, by rw [← HFS.out, HK.out], ownP_keep HO.out HD7.out, ownS_keep HP.out HD7.out, HB.out.trans (HD7.out.mono hszr)⟩
            case measure => simp [intOf]; omega
    · have hkn : k = ps.length := by omega
      subst hkn
      have HF2 : Hid (cleanStyles s = out) := by show _ = _; rw [← HF.out, drop_nil _ _ (Nat.le_refl _)]; rfl
      go_wp2
      go_ret
      rw [HF2.out]
      exact ⟨A, c, rfl, HO.out, HB.out⟩

/-! ### looking for a byte from a place on -/
theorem scan_step {c : UInt8} {l : Tx} {k p : Nat} (hk : k ≤ p) (h : p - k ≤ at_ c (l.drop k)) (hp : p < l.length) (hc : (l[p] == c) = false) : p + 1 - k ≤ at_ c (l.drop k) := by
  have hj : p - k < (l.drop k).length := by simp; omega
  have he : (l.drop k)[p - k] = l[p] := by rw [List.getElem_drop]; congr 1; omega
  have := at_step h hj (by rw [he]; exact hc)
  omega
theorem scan_found {c : UInt8} {l : Tx} {k p : Nat} (hk : k ≤ p) (h : p - k ≤ at_ c (l.drop k)) (hp : p < l.length) (hc : (l[p] == c) = true) : at_ c (l.drop k) = p - k := by
  have hj : p - k < (l.drop k).length := by simp; omega
  have he : (l.drop k)[p - k] = l[p] := by rw [List.getElem_drop]; congr 1; omega
  exact at_found h hj (by rw [he]; exact hc)
theorem scan_end {c : UInt8} {l : Tx} {k : Nat} (h : l.length - k ≤ at_ c (l.drop k)) : at_ c (l.drop k) = l.length - k := by
  have := at_le c (l.drop k)
  simp at this
  omega
theorem rest_fold {s x : Tx} {k m : Nat} {out r : List Pr} (h : (restP s k).foldl stStep out = r) (he : restP s k = x :: restP s (m + 1)) : (restP s (m + 1)).foldl stStep (stStep out x) = r := by
  rw [he, List.foldl_cons] at h
  exact h
set_option maxRecDepth 100000 in
set_option maxHeartbeats 4000000 in
theorem spec_CleanStyles (s : Tx) (_ : s.length ≤ maxLen) (hl : s.length ≤ 1048576) (w : World) :
    Calls Tryd.prog 21 #[.string ⟨s.toArray⟩] w (NewP w (cleanStyles s)) := by
  have HR : Hid (cleanStyles s = (restP s 0).foldl stStep []) := by show _ = _; rw [restP_zero]; rfl
  go_enter Tryd.func21, Tryd.ntmps21
  go_wp2
  go_loopw [3, 4] (fun v i wr => ∃ (k : Nat) (A : Option Addr) (c : Nat) (out : List Pr), k ≤ s.length + 1 ∧ i = .int .i64 (k : Int) ∧ v = .slice A out.length c ∧ out.length ≤ 6 ∧ (restP s k).foldl stStep out = cleanStyles s ∧ OwnP wr w.heap.size A c out ∧ Below w.heap.size w wr) (fun _ i _ => s.length + 1 - (intOf i).toNat)
  case atStart => exact ⟨0, _, 0, [], by omega, rfl, rfl, by simp, HR.out.symm, ownP_empty w w.heap.size (Nat.le_refl _), (Below.refl _ _).alloc (Nat.le_refl _) _⟩
  case round =>
    obtain ⟨k, A, c, out, hk, rfl, rfl, h6, hf, ho, hb⟩ := hrel
    have HO := Lib.hid ho
    have HB := Lib.hid hb
    have HF := Lib.hid hf
    have hszr := hb.size
    clear ho hb hf
    by_cases hlt : k ≤ s.length
    · obtain ⟨wo, rfl⟩ : ∃ wo : World, wo = wr := ⟨_, rfl⟩
      obtain ⟨wr, rfl⟩ : ∃ wr : World, wr = wo := ⟨_, rfl⟩
      go_wp2
      go_loop [5] (fun i => ∃ (m : Nat), k ≤ m ∧ m ≤ s.length ∧ i = .int .i64 m ∧ m - k ≤ at_ 59 (s.drop k)) (fun i => s.length - (intOf i).toNat)
      case atStart => exact ⟨k, Nat.le_refl _, by omega, rfl, by omega⟩
      case round =>
        obtain ⟨m, hkm0, hms, rfl, hma⟩ := hrel
        by_cases hlm : m < s.length
        · by_cases hc : (s[m] == 59) = true
          · have HAT : Hid (at_ 59 (s.drop k) = m - k) := scan_found hkm0 hma hlm hc
            have b0 : ((s[m].toNat : Int) != 59) = false := by rw [show s[m] = 59 by simpa using hc]; rfl
            clear hma hc
            obtain ⟨x, hx⟩ : ∃ x, (s.take m).drop k = x := ⟨_, rfl⟩
            have hxl : x.length = m - k := by rw [← hx]; simp; omega
            have HX := Lib.hid hx
            have HFS : Hid ((restP s (m + 1)).foldl stStep (stStep out x) = cleanStyles s) := by
              show _ = _
              refine rest_fold HF.out ?_
              rw [← hx]
              exact restP_step (by omega) HAT.out hkm0 hms
            have hml : (s.take m).length = m := by rw [List.length_take]; omega
            have HML := Lib.hid hml
            clear hx hml
            go_wp2
            go_loop [6] (fun i => ∃ (p : Nat), k ≤ p ∧ p ≤ m ∧ i = .int .i64 p ∧ p - k ≤ at_ 58 ((s.take m).drop k)) (fun i => m - (intOf i).toNat)
            case atStart => exact ⟨k, Nat.le_refl _, hkm0, rfl, by omega⟩
            case round =>
              obtain ⟨p, hkp, hpm, rfl, hpa⟩ := hrel
              by_cases hlp : p < m
              · have hps : p < s.length := by omega
                have hpt : p < (s.take m).length := by rw [HML.out]; exact hlp
                have hg : (s.take m)[p] = s[p] := by rw [List.getElem_take]
                by_cases hc : (s[p] == 58) = true
                · have HSG : Hid (at_ 58 x = p - k) := by show _ = _; rw [← HX.out]; exact scan_found hkp hpa hpt (by rw [hg]; exact hc)
                  have b1 : ((s[p].toNat : Int) != 58) = false := by rw [show s[p] = 58 by simpa using hc]; rfl
                  have HH : Hid (has 58 x = true) := by show _ = _; unfold has; rw [HSG.out]; simp; omega
                  have HC1 : Hid ((s.take p).drop k = x.take (at_ 58 x)) := by show _ = _; rw [HSG.out, ← HX.out, List.take_drop]; congr 1; rw [List.take_take]; congr 1; omega
                  have HC2 : Hid ((s.take m).drop (p + 1) = x.drop (at_ 58 x + 1)) := by show _ = _; rw [HSG.out, ← HX.out, List.drop_drop]; congr 1; omega
                  have hE1 : stKeep x = (has 58 x && safe (stPr x)) := rfl
                  have hE2 : stPr x = (lower (trimSp (if has 58 x then x.take (at_ 58 x) else x)), trimSp (if has 58 x then x.drop (at_ 58 x + 1) else [])) := rfl
                  rw [HH.out, Bool.true_and] at hE1
                  rw [HH.out] at hE2
                  simp only [if_true] at hE2
                  rw [← HC1.out, ← HC2.out] at hE2
                  clear hpa hc hg hpt HC1 HC2 HSG
                  have hr1 : ((s.take p).drop k).length ≤ 1048576 := by simp; omega
                  have hr2 : ((s.take m).drop (p + 1)).length ≤ 1048576 := by simp; omega
                  have HT1 := Lib.hid (fun w => spec_l29Trim ((s.take p).drop k) (by unfold maxLen; omega) w)
                  have HT2 := Lib.hid (fun w => spec_l29Trim ((s.take m).drop (p + 1)) (by unfold maxLen; omega) w)
                  have ht1 := trimSp_len ((s.take p).drop k)
                  have hv : (trimSp ((s.take m).drop (p + 1))).length ≤ maxLen := by have := trimSp_len ((s.take m).drop (p + 1)); unfold maxLen; omega
                  have HLW := Lib.hid (fun w => spec_LowerText (trimSp ((s.take p).drop k)) (by omega) w)
                  have HSS := Lib.hid (fun w => spec_StyleSafe (lower (trimSp ((s.take p).drop k))) (trimSp ((s.take m).drop (p + 1))) hv w)
                  have hE3 : safe (stPr x) = styleOk (lower (trimSp ((s.take p).drop k))) (trimSp ((s.take m).drop (p + 1))) := by rw [hE2]; rfl
                  rw [hE3] at hE1
                  generalize lower (trimSp ((s.take p).drop k)) = nm at *
                  generalize trimSp ((s.take m).drop (p + 1)) = vv at *
                  generalize trimSp ((s.take p).drop k) = t1 at *
                  have HE1 := Lib.hid hE1
                  have HE2 := Lib.hid hE2
                  have hw : IntKind.i64.wrap ((p : Int) + 1) = (p : Int) + 1 := IntWalk.i64_in _ (by omega)
                  have q0 : (0 : Int) ≤ (p : Int) := by omega
                  have q1 : (p : Int) ≤ (s.length : Int) := by omega
                  have q2 : (k : Int) ≤ (p : Int) := by omega
                  have q3 : (p : Int) + 1 ≤ (m : Int) := by omega
                  have q4 : (m : Int) ≤ (s.length : Int) := by omega
                  have q5 : ((p : Int) + 1).toNat = p + 1 := by omega
                  have q6 : (0 : Int) ≤ (p : Int) + 1 := by omega
                  have q7 : (0 : Int) ≤ (k : Int) := by omega
                  have q8 : (0 : Int) ≤ (m : Int) := by omega
                  clear hE1 hE2 hE3 ht1 hr1 hr2
                  go_wp2_with fail
                  refine wp_region_typed 14 (by kernel_rfl) (by kernel_rfl) (fun _ w => Below (World.heap wr).size wr w) KB (fun i => ([bIs (sv s), bIs (.int .i64 (k : Int)), bIs (.int .i64 (p : Int)), bIs (sv ((s.take p).drop k)), bIs (sv t1), bIs (sv nm), bIs (sv s), bIs (.int .i64 (p : Int)), bIs (.int .i64 ((p : Int) + 1)), bIs (.int .i64 (m : Int)), bIs (sv ((s.take m).drop (p + 1))), bIs (sv vv), bIs (.agg #[sv nm, sv vv]), bBox (World.heap wr).size #[sv [], sv []] 35] : List TyB).getD i bAny) ?hWbB1 ?hkeepB1 ?hstepB1 ?hfinbB1
                  case hkeepB1 =>
                    refine all_lt_succ (all_lt_succ (all_lt_succ (all_lt_succ (all_lt_succ (all_lt_succ (all_lt_succ (all_lt_succ (all_lt_succ (all_lt_succ (all_lt_succ (all_lt_succ (all_lt_succ (all_lt_succ all_lt_zero ?_) ?_) ?_) ?_) ?_) ?_) ?_) ?_) ?_) ?_) ?_) ?_) ?_) ?_
                    · exact keeps_bIs
                    · exact keeps_bIs
                    · exact keeps_bIs
                    · exact keeps_bIs
                    · exact keeps_bIs
                    · exact keeps_bIs
                    · exact keeps_bIs
                    · exact keeps_bIs
                    · exact keeps_bIs
                    · exact keeps_bIs
                    · exact keeps_bIs
                    · exact keeps_bIs
                    · exact keeps_bIs
                    · exact keeps_bBox
                  case hstepB1 =>
                    refine all_lt_succ (all_lt_succ (all_lt_succ (all_lt_succ (all_lt_succ (all_lt_succ (all_lt_succ (all_lt_succ (all_lt_succ (all_lt_succ (all_lt_succ (all_lt_succ (all_lt_succ (all_lt_succ all_lt_zero ?_) ?_) ?_) ?_) ?_) ?_) ?_) ?_) ?_) ?_) ?_) ?_) ?_) ?_
                    · (intro o ho m' a w1 hm' hW hb hd K Q hK; obtain rfl := Option.some.inj ho; have e0 : a.tmps[0]?.getD undef = (sv s) := (by rw [hb 0 (by decide +kernel)]; simp); go_simp; exact hK _ _ hW (kb_refl _) rfl)
                    · (intro o ho m' a w1 hm' hW hb hd K Q hK; obtain rfl := Option.some.inj ho; have e0 : a.tmps[4]?.getD undef = (.int .i64 (k : Int)) := (by rw [hb 4 (by decide +kernel)]; simp); go_simp; exact hK _ _ hW (kb_refl _) rfl)
                    · (intro o ho m' a w1 hm' hW hb hd K Q hK; obtain rfl := Option.some.inj ho; have e0 : a.tmps[6]?.getD undef = (.int .i64 (p : Int)) := (by rw [hb 6 (by decide +kernel)]; simp); go_simp; exact hK _ _ hW (kb_refl _) rfl)
                    · (intro o ho m' a w1 hm' hW hb hd K Q hK; obtain rfl := Option.some.inj ho; have e0 := slotB (hd 0 (by kernel_rfl) 41 rfl); have e1 := slotB (hd 1 (by kernel_rfl) 42 rfl); have e2 := slotB (hd 2 (by kernel_rfl) 43 rfl); go_simp; exact hK _ _ hW (kb_refl _) rfl)
                    · (intro o ho m' a w1 hm' hW hb hd K Q hK; obtain rfl := Option.some.inj ho; have e0 := slotB (hd 3 (by kernel_rfl) 44 rfl); go_simp; refine (HT1.out _).mono ?_; rintro e w2 ⟨rfl, rfl⟩; exact hK _ _ hW (kb_refl _) rfl)
                    · (intro o ho m' a w1 hm' hW hb hd K Q hK; obtain rfl := Option.some.inj ho; have e0 := slotB (hd 4 (by kernel_rfl) 45 rfl); go_simp; refine (HLW.out _).mono ?_; rintro e w2 ⟨rfl, hb2⟩; exact hK _ _ (hW.trans (hb2.mono hW.size)) hb2 rfl)
                    · (intro o ho m' a w1 hm' hW hb hd K Q hK; obtain rfl := Option.some.inj ho; have e0 : a.tmps[0]?.getD undef = (sv s) := (by rw [hb 0 (by decide +kernel)]; simp); go_simp; exact hK _ _ hW (kb_refl _) rfl)
                    · (intro o ho m' a w1 hm' hW hb hd K Q hK; obtain rfl := Option.some.inj ho; have e0 : a.tmps[6]?.getD undef = (.int .i64 (p : Int)) := (by rw [hb 6 (by decide +kernel)]; simp); go_simp; exact hK _ _ hW (kb_refl _) rfl)
                    · (intro o ho m' a w1 hm' hW hb hd K Q hK; obtain rfl := Option.some.inj ho; have e0 := slotB (hd 7 (by kernel_rfl) 48 rfl); go_simp; exact hK _ _ hW (kb_refl _) rfl)
                    · (intro o ho m' a w1 hm' hW hb hd K Q hK; obtain rfl := Option.some.inj ho; have e0 : a.tmps[5]?.getD undef = (.int .i64 (m : Int)) := (by rw [hb 5 (by decide +kernel)]; simp); go_simp; exact hK _ _ hW (kb_refl _) rfl)
                    · (intro o ho m' a w1 hm' hW hb hd K Q hK; obtain rfl := Option.some.inj ho; have e0 := slotB (hd 6 (by kernel_rfl) 47 rfl); have e1 := slotB (hd 8 (by kernel_rfl) 49 rfl); have e2 := slotB (hd 9 (by kernel_rfl) 50 rfl); go_simp; exact hK _ _ hW (kb_refl _) rfl)
                    · (intro o ho m' a w1 hm' hW hb hd K Q hK; obtain rfl := Option.some.inj ho; have e0 := slotB (hd 10 (by kernel_rfl) 51 rfl); go_simp; refine (HT2.out _).mono ?_; rintro e w2 ⟨rfl, rfl⟩; exact hK _ _ hW (kb_refl _) rfl)
                    · (intro o ho m' a w1 hm' hW hb hd K Q hK; obtain rfl := Option.some.inj ho; have e0 := slotB (hd 5 (by kernel_rfl) 46 rfl); have e1 := slotB (hd 11 (by kernel_rfl) 52 rfl); go_simp; exact hK _ _ hW (kb_refl _) rfl)
                    · (intro o ho m' a w1 hm' hW hb hd K Q hK; obtain rfl := Option.some.inj ho; go_simp; exact hK _ _ (hW.alloc hW.size _) ((Below.refl _ _).alloc (Nat.le_refl _) _) ⟨_, rfl, hW.size, heap_alloc_new w1 _⟩)
                  case hWbB1 => exact (Below.refl _ _).drew
                  case hfinbB1 =>
                    intro vs w3 hW hF
                    simp only [putAll, hdst, List.getElem?_cons_succ, List.getElem?_cons_zero, Option.bind, List.drop_succ_cons, List.drop_zero, Act.put]
                    obtain ⟨b, h13, hbg, hh⟩ := hF 13 (by omega)
                    have h12 : vs 12 = .agg #[sv nm, sv vv] := hF 12 (by omega)
                    rw [h12, h13]
                    obtain ⟨g1, g2, g3, g4⟩ := box_two hh
                    have HW := Lib.hid hW
                    have HH := Lib.hid hh
                    have HW4 : Hid (Below wr.heap.size wr ((w3.setCell ⟨b, 0, none⟩ (sv nm)).setCell ⟨b, 1, none⟩ (sv vv))) := (hW.setCell hbg _).setCell hbg _
                    have HH4 := Lib.hid (box_set (u := sv nm) (v := sv vv) hh)
                    have hbl : b < w3.heap.size := lt_of_block hh
                    clear hF h12 h13 hW hh hw
                    go_simp
                    go_wp2_with fail
                    refine (HSS.out _).mono ?_
                    cases hst : styleOk nm vv
                    · have HK : Hid (stStep out x = out) := step_no (by rw [HE1.out, hst])
                      clear hst
                      rintro e w7 ⟨rfl, hb7⟩
                      have HD7 : Hid (Below wr.heap.size wr w7) := HW4.out.trans (hb7.mono HW4.out.size)
                      clear hb7
                      go_wp2
                      go_roundw
                      case rel => exact ⟨m + 1, A, c, out, by omega, by go_num, rfl, h6, by rw [← HFS.out, HK.out], ownP_keep HO.out HD7.out, HB.out.trans (HD7.out.mono hszr)⟩
                      case measure => simp [intOf]; omega
                    · have HKY : Hid (stKeep x = true) := by show _ = _; rw [HE1.out, hst]
                      clear hst
                      rintro e w7 ⟨rfl, hb7⟩
                      have HD7 : Hid (Below wr.heap.size wr w7) := HW4.out.trans (hb7.mono HW4.out.size)
                      have HC7 : Hid (w7.cell? ⟨b, 0, none⟩ = some (sv nm) ∧ w7.cell? ⟨b, 1, none⟩ = some (sv vv)) := by
                        obtain ⟨h1, h2, _⟩ := box_two HH4.out
                        have hbz : b < ((w3.setCell ⟨b, 0, none⟩ (sv nm)).setCell ⟨b, 1, none⟩ (sv vv)).heap.size := lt_of_block HH4.out
                        exact ⟨(hb7.cell (p := ⟨b, 0, none⟩) hbz).trans h1, (hb7.cell (p := ⟨b, 1, none⟩) hbz).trans h2⟩
                      clear hb7 g1 g2 g3 g4
                      by_cases h6' : out.length < 6
                      · have HK : Hid (stStep out x = out ++ [(nm, vv)]) := by show _ = _; rw [step_yes HKY.out h6', HE2.out]
                        have HO7 := Lib.hid (ownP_keep HO.out HD7.out)
                        have HB7 := Lib.hid (HB.out.trans (HD7.out.mono hszr))
                        have hz7 := HB7.out.size
                        obtain ⟨g1, g2⟩ := HC7.out
                        go_wp2_with (at_builtin; refine app_pair rfl _ _ rfl w.heap.size A c _ out (nm, vv) (by rfl) rfl HO7.out _ (by rfl) rfl ?_ ?_ ?_; (focus omega); (focus omega); intro A8 c8 w8 ho8 hg8)
                        go_roundw
                        case rel => exact ⟨m + 1, A8, c8, out ++ [(nm, vv)], by omega, by go_num, by simp, by simp; omega, by rw [← HFS.out, HK.out], ho8, HB7.out.trans (grown_to_below hg8 hz7 (ownP_row HO7.out))⟩
                        case measure => simp [intOf]; omega
                      · have HK : Hid (stStep out x = out) := step_full h6'
                        go_wp2
                        go_roundw
                        case rel => exact ⟨m + 1, A, c, out, by omega, by go_num, rfl, h6, by rw [← HFS.out, HK.out], ownP_keep HO.out HD7.out, HB.out.trans (HD7.out.mono hszr)⟩
                        case measure => simp [intOf]; omega
                · have hc' : (s[p] == 58) = false := by simpa using hc
                  have HST : Hid (p + 1 - k ≤ at_ 58 ((s.take m).drop k)) := scan_step hkp hpa hpt (by rw [hg]; exact hc')
                  have b1 : ((s[p].toNat : Int) != 58) = true := by
                    simp
                    intro e
                    have h2 : s[p] = 58 := UInt8.toNat_inj.1 (by have : ((58 : UInt8).toNat) = 58 := rfl; omega)
                    exact hc (by rw [h2]; rfl)
                  clear hc hc' hg hpt
                  go_wp2
                  go_round
                  case rel => exact ⟨p + 1, by omega, by omega, by go_num, HST.out⟩
                  case measure => simp [intOf]; omega
              · have hpm' : p = m := by omega
                subst hpm'
                have HK : Hid (stStep out x = out) := by
                  show _ = _
                  refine step_no ?_
                  unfold stKeep has
                  rw [HX.out] at hpa
                  rw [decide_eq_false (by omega)]
                  rfl
                clear hpa
                go_wp2
                go_roundw
                case rel => exact ⟨p + 1, A, c, out, by omega, by go_num, rfl, h6, by rw [← HFS.out, HK.out], HO.out, HB.out⟩
                case measure => simp [intOf]; omega
          · have hc' : (s[m] == 59) = false := by simpa using hc
            have HST : Hid (m + 1 - k ≤ at_ 59 (s.drop k)) := scan_step hkm0 hma hlm hc'
            have b1 : ((s[m].toNat : Int) != 59) = true := by
              simp
              intro e
              have h2 : s[m] = 59 := UInt8.toNat_inj.1 (by have : ((59 : UInt8).toNat) = 59 := rfl; omega)
              exact hc (by rw [h2]; rfl)
            clear hc hc'
            go_wp2
            go_round
            case rel => exact ⟨m + 1, by omega, by omega, by go_num, HST.out⟩
            case measure => simp [intOf]; omega
        · have hms' : m = s.length := by omega
          have HAT : Hid (at_ 59 (s.drop k) = m - k) := by show _ = _; rw [hms'] at hma ⊢; exact scan_end hma
          clear hma hms'
          obtain ⟨x, hx⟩ : ∃ x, (s.take m).drop k = x := ⟨_, rfl⟩
          have hxl : x.length = m - k := by rw [← hx]; simp; omega
          have HX := Lib.hid hx
          have HFS : Hid ((restP s (m + 1)).foldl stStep (stStep out x) = cleanStyles s) := by
            show _ = _
            refine rest_fold HF.out ?_
            rw [← hx]
            exact restP_step (by omega) HAT.out hkm0 hms
          have hml : (s.take m).length = m := by rw [List.length_take]; omega
          have HML := Lib.hid hml
          clear hx hml
          go_wp2
          go_loop [6] (fun i => ∃ (p : Nat), k ≤ p ∧ p ≤ m ∧ i = .int .i64 p ∧ p - k ≤ at_ 58 ((s.take m).drop k)) (fun i => m - (intOf i).toNat)
          case atStart => exact ⟨k, Nat.le_refl _, hkm0, rfl, by omega⟩
          case round =>
            obtain ⟨p, hkp, hpm, rfl, hpa⟩ := hrel
            by_cases hlp : p < m
            · have hps : p < s.length := by omega
              have hpt : p < (s.take m).length := by rw [HML.out]; exact hlp
              have hg : (s.take m)[p] = s[p] := by rw [List.getElem_take]
              by_cases hc : (s[p] == 58) = true
              · have HSG : Hid (at_ 58 x = p - k) := by show _ = _; rw [← HX.out]; exact scan_found hkp hpa hpt (by rw [hg]; exact hc)
                have b1 : ((s[p].toNat : Int) != 58) = false := by rw [show s[p] = 58 by simpa using hc]; rfl
                have HH : Hid (has 58 x = true) := by show _ = _; unfold has; rw [HSG.out]; simp; omega
                have HC1 : Hid ((s.take p).drop k = x.take (at_ 58 x)) := by show _ = _; rw [HSG.out, ← HX.out, List.take_drop]; congr 1; rw [List.take_take]; congr 1; omega
                have HC2 : Hid ((s.take m).drop (p + 1) = x.drop (at_ 58 x + 1)) := by show _ = _; rw [HSG.out, ← HX.out, List.drop_drop]; congr 1; omega
                have hE1 : stKeep x = (has 58 x && safe (stPr x)) := rfl
                have hE2 : stPr x = (lower (trimSp (if has 58 x then x.take (at_ 58 x) else x)), trimSp (if has 58 x then x.drop (at_ 58 x + 1) else [])) := rfl
                rw [HH.out, Bool.true_and] at hE1
                rw [HH.out] at hE2
                simp only [if_true] at hE2
                rw [← HC1.out, ← HC2.out] at hE2
                clear hpa hc hg hpt HC1 HC2 HSG
                have hr1 : ((s.take p).drop k).length ≤ 1048576 := by simp; omega
                have hr2 : ((s.take m).drop (p + 1)).length ≤ 1048576 := by simp; omega
                have HT1 := Lib.hid (fun w => spec_l29Trim ((s.take p).drop k) (by unfold maxLen; omega) w)
                have HT2 := Lib.hid (fun w => spec_l29Trim ((s.take m).drop (p + 1)) (by unfold maxLen; omega) w)
                have ht1 := trimSp_len ((s.take p).drop k)
                have hv : (trimSp ((s.take m).drop (p + 1))).length ≤ maxLen := by have := trimSp_len ((s.take m).drop (p + 1)); unfold maxLen; omega
                have HLW := Lib.hid (fun w => spec_LowerText (trimSp ((s.take p).drop k)) (by omega) w)
                have HSS := Lib.hid (fun w => spec_StyleSafe (lower (trimSp ((s.take p).drop k))) (trimSp ((s.take m).drop (p + 1))) hv w)
                have hE3 : safe (stPr x) = styleOk (lower (trimSp ((s.take p).drop k))) (trimSp ((s.take m).drop (p + 1))) := by rw [hE2]; rfl
                rw [hE3] at hE1
                generalize lower (trimSp ((s.take p).drop k)) = nm at *
                generalize trimSp ((s.take m).drop (p + 1)) = vv at *
                generalize trimSp ((s.take p).drop k) = t1 at *
                have HE1 := Lib.hid hE1
                have HE2 := Lib.hid hE2
                have hw : IntKind.i64.wrap ((p : Int) + 1) = (p : Int) + 1 := IntWalk.i64_in _ (by omega)
                have q0 : (0 : Int) ≤ (p : Int) := by omega
                have q1 : (p : Int) ≤ (s.length : Int) := by omega
                have q2 : (k : Int) ≤ (p : Int) := by omega
                have q3 : (p : Int) + 1 ≤ (m : Int) := by omega
                have q4 : (m : Int) ≤ (s.length : Int) := by omega
                have q5 : ((p : Int) + 1).toNat = p + 1 := by omega
                have q6 : (0 : Int) ≤ (p : Int) + 1 := by omega
                have q7 : (0 : Int) ≤ (k : Int) := by omega
                have q8 : (0 : Int) ≤ (m : Int) := by omega
                clear hE1 hE2 hE3 ht1 hr1 hr2
                go_wp2_with fail
                refine wp_region_typed 14 (by kernel_rfl) (by kernel_rfl) (fun _ w => Below (World.heap wr).size wr w) KB (fun i => ([bIs (sv s), bIs (.int .i64 (k : Int)), bIs (.int .i64 (p : Int)), bIs (sv ((s.take p).drop k)), bIs (sv t1), bIs (sv nm), bIs (sv s), bIs (.int .i64 (p : Int)), bIs (.int .i64 ((p : Int) + 1)), bIs (.int .i64 (m : Int)), bIs (sv ((s.take m).drop (p + 1))), bIs (sv vv), bIs (.agg #[sv nm, sv vv]), bBox (World.heap wr).size #[sv [], sv []] 35] : List TyB).getD i bAny) ?hWbB2 ?hkeepB2 ?hstepB2 ?hfinbB2
                case hkeepB2 =>
                  refine all_lt_succ (all_lt_succ (all_lt_succ (all_lt_succ (all_lt_succ (all_lt_succ (all_lt_succ (all_lt_succ (all_lt_succ (all_lt_succ (all_lt_succ (all_lt_succ (all_lt_succ (all_lt_succ all_lt_zero ?_) ?_) ?_) ?_) ?_) ?_) ?_) ?_) ?_) ?_) ?_) ?_) ?_) ?_
                  · exact keeps_bIs
                  · exact keeps_bIs
                  · exact keeps_bIs
                  · exact keeps_bIs
                  · exact keeps_bIs
                  · exact keeps_bIs
                  · exact keeps_bIs
                  · exact keeps_bIs
                  · exact keeps_bIs
                  · exact keeps_bIs
                  · exact keeps_bIs
                  · exact keeps_bIs
                  · exact keeps_bIs
                  · exact keeps_bBox
                case hstepB2 =>
                  refine all_lt_succ (all_lt_succ (all_lt_succ (all_lt_succ (all_lt_succ (all_lt_succ (all_lt_succ (all_lt_succ (all_lt_succ (all_lt_succ (all_lt_succ (all_lt_succ (all_lt_succ (all_lt_succ all_lt_zero ?_) ?_) ?_) ?_) ?_) ?_) ?_) ?_) ?_) ?_) ?_) ?_) ?_) ?_
                  · (intro o ho m' a w1 hm' hW hb hd K Q hK; obtain rfl := Option.some.inj ho; have e0 : a.tmps[0]?.getD undef = (sv s) := (by rw [hb 0 (by decide +kernel)]; simp); go_simp; exact hK _ _ hW (kb_refl _) rfl)
                  · (intro o ho m' a w1 hm' hW hb hd K Q hK; obtain rfl := Option.some.inj ho; have e0 : a.tmps[4]?.getD undef = (.int .i64 (k : Int)) := (by rw [hb 4 (by decide +kernel)]; simp); go_simp; exact hK _ _ hW (kb_refl _) rfl)
                  · (intro o ho m' a w1 hm' hW hb hd K Q hK; obtain rfl := Option.some.inj ho; have e0 : a.tmps[6]?.getD undef = (.int .i64 (p : Int)) := (by rw [hb 6 (by decide +kernel)]; simp); go_simp; exact hK _ _ hW (kb_refl _) rfl)
                  · (intro o ho m' a w1 hm' hW hb hd K Q hK; obtain rfl := Option.some.inj ho; have e0 := slotB (hd 0 (by kernel_rfl) 41 rfl); have e1 := slotB (hd 1 (by kernel_rfl) 42 rfl); have e2 := slotB (hd 2 (by kernel_rfl) 43 rfl); go_simp; exact hK _ _ hW (kb_refl _) rfl)
                  · (intro o ho m' a w1 hm' hW hb hd K Q hK; obtain rfl := Option.some.inj ho; have e0 := slotB (hd 3 (by kernel_rfl) 44 rfl); go_simp; refine (HT1.out _).mono ?_; rintro e w2 ⟨rfl, rfl⟩; exact hK _ _ hW (kb_refl _) rfl)
                  · (intro o ho m' a w1 hm' hW hb hd K Q hK; obtain rfl := Option.some.inj ho; have e0 := slotB (hd 4 (by kernel_rfl) 45 rfl); go_simp; refine (HLW.out _).mono ?_; rintro e w2 ⟨rfl, hb2⟩; exact hK _ _ (hW.trans (hb2.mono hW.size)) hb2 rfl)
                  · (intro o ho m' a w1 hm' hW hb hd K Q hK; obtain rfl := Option.some.inj ho; have e0 : a.tmps[0]?.getD undef = (sv s) := (by rw [hb 0 (by decide +kernel)]; simp); go_simp; exact hK _ _ hW (kb_refl _) rfl)
                  · (intro o ho m' a w1 hm' hW hb hd K Q hK; obtain rfl := Option.some.inj ho; have e0 : a.tmps[6]?.getD undef = (.int .i64 (p : Int)) := (by rw [hb 6 (by decide +kernel)]; simp); go_simp; exact hK _ _ hW (kb_refl _) rfl)
                  · (intro o ho m' a w1 hm' hW hb hd K Q hK; obtain rfl := Option.some.inj ho; have e0 := slotB (hd 7 (by kernel_rfl) 48 rfl); go_simp; exact hK _ _ hW (kb_refl _) rfl)
                  · (intro o ho m' a w1 hm' hW hb hd K Q hK; obtain rfl := Option.some.inj ho; have e0 : a.tmps[5]?.getD undef = (.int .i64 (m : Int)) := (by rw [hb 5 (by decide +kernel)]; simp); go_simp; exact hK _ _ hW (kb_refl _) rfl)
                  · (intro o ho m' a w1 hm' hW hb hd K Q hK; obtain rfl := Option.some.inj ho; have e0 := slotB (hd 6 (by kernel_rfl) 47 rfl); have e1 := slotB (hd 8 (by kernel_rfl) 49 rfl); have e2 := slotB (hd 9 (by kernel_rfl) 50 rfl); go_simp; exact hK _ _ hW (kb_refl _) rfl)
                  · (intro o ho m' a w1 hm' hW hb hd K Q hK; obtain rfl := Option.some.inj ho; have e0 := slotB (hd 10 (by kernel_rfl) 51 rfl); go_simp; refine (HT2.out _).mono ?_; rintro e w2 ⟨rfl, rfl⟩; exact hK _ _ hW (kb_refl _) rfl)
                  · (intro o ho m' a w1 hm' hW hb hd K Q hK; obtain rfl := Option.some.inj ho; have e0 := slotB (hd 5 (by kernel_rfl) 46 rfl); have e1 := slotB (hd 11 (by kernel_rfl) 52 rfl); go_simp; exact hK _ _ hW (kb_refl _) rfl)
                  · (intro o ho m' a w1 hm' hW hb hd K Q hK; obtain rfl := Option.some.inj ho; go_simp; exact hK _ _ (hW.alloc hW.size _) ((Below.refl _ _).alloc (Nat.le_refl _) _) ⟨_, rfl, hW.size, heap_alloc_new w1 _⟩)
                case hWbB2 => exact (Below.refl _ _).drew
                case hfinbB2 =>
                  intro vs w3 hW hF
                  simp only [putAll, hdst, List.getElem?_cons_succ, List.getElem?_cons_zero, Option.bind, List.drop_succ_cons, List.drop_zero, Act.put]
                  obtain ⟨b, h13, hbg, hh⟩ := hF 13 (by omega)
                  have h12 : vs 12 = .agg #[sv nm, sv vv] := hF 12 (by omega)
                  rw [h12, h13]
                  obtain ⟨g1, g2, g3, g4⟩ := box_two hh
                  have HW := Lib.hid hW
                  have HH := Lib.hid hh
                  have HW4 : Hid (Below wr.heap.size wr ((w3.setCell ⟨b, 0, none⟩ (sv nm)).setCell ⟨b, 1, none⟩ (sv vv))) := (hW.setCell hbg _).setCell hbg _
                  have HH4 := Lib.hid (box_set (u := sv nm) (v := sv vv) hh)
                  have hbl : b < w3.heap.size := lt_of_block hh
                  clear hF h12 h13 hW hh hw
                  go_simp
                  go_wp2_with fail
                  refine (HSS.out _).mono ?_
                  cases hst : styleOk nm vv
                  · have HK : Hid (stStep out x = out) := step_no (by rw [HE1.out, hst])
                    clear hst
                    rintro e w7 ⟨rfl, hb7⟩
                    have HD7 : Hid (Below wr.heap.size wr w7) := HW4.out.trans (hb7.mono HW4.out.size)
                    clear hb7
                    go_wp2
                    go_roundw
                    case rel => exact ⟨m + 1, A, c, out, by omega, by go_num, rfl, h6, by rw [← HFS.out, HK.out], ownP_keep HO.out HD7.out, HB.out.trans (HD7.out.mono hszr)⟩
                    case measure => simp [intOf]; omega
                  · have HKY : Hid (stKeep x = true) := by show _ = _; rw [HE1.out, hst]
                    clear hst
                    rintro e w7 ⟨rfl, hb7⟩
                    have HD7 : Hid (Below wr.heap.size wr w7) := HW4.out.trans (hb7.mono HW4.out.size)
                    have HC7 : Hid (w7.cell? ⟨b, 0, none⟩ = some (sv nm) ∧ w7.cell? ⟨b, 1, none⟩ = some (sv vv)) := by
                      obtain ⟨h1, h2, _⟩ := box_two HH4.out
                      have hbz : b < ((w3.setCell ⟨b, 0, none⟩ (sv nm)).setCell ⟨b, 1, none⟩ (sv vv)).heap.size := lt_of_block HH4.out
                      exact ⟨(hb7.cell (p := ⟨b, 0, none⟩) hbz).trans h1, (hb7.cell (p := ⟨b, 1, none⟩) hbz).trans h2⟩
                    clear hb7 g1 g2 g3 g4
                    by_cases h6' : out.length < 6
                    · have HK : Hid (stStep out x = out ++ [(nm, vv)]) := by show _ = _; rw [step_yes HKY.out h6', HE2.out]
                      have HO7 := Lib.hid (ownP_keep HO.out HD7.out)
                      have HB7 := Lib.hid (HB.out.trans (HD7.out.mono hszr))
                      have hz7 := HB7.out.size
                      obtain ⟨g1, g2⟩ := HC7.out
                      go_wp2_with (at_builtin; refine app_pair rfl _ _ rfl w.heap.size A c _ out (nm, vv) (by rfl) rfl HO7.out _ (by rfl) rfl ?_ ?_ ?_; (focus omega); (focus omega); intro A8 c8 w8 ho8 hg8)
                      go_roundw
                      case rel => exact ⟨m + 1, A8, c8, out ++ [(nm, vv)], by omega, by go_num, by simp, by simp; omega, by rw [← HFS.out, HK.out], ho8, HB7.out.trans (grown_to_below hg8 hz7 (ownP_row HO7.out))⟩
                      case measure => simp [intOf]; omega
                    · have HK : Hid (stStep out x = out) := step_full h6'
                      go_wp2
                      go_roundw
                      case rel => exact ⟨m + 1, A, c, out, by omega, by go_num, rfl, h6, by rw [← HFS.out, HK.out], ownP_keep HO.out HD7.out, HB.out.trans (HD7.out.mono hszr)⟩
                      case measure => simp [intOf]; omega
              · have hc' : (s[p] == 58) = false := by simpa using hc
                have HST : Hid (p + 1 - k ≤ at_ 58 ((s.take m).drop k)) := scan_step hkp hpa hpt (by rw [hg]; exact hc')
                have b1 : ((s[p].toNat : Int) != 58) = true := by
                  simp
                  intro e
                  have h2 : s[p] = 58 := UInt8.toNat_inj.1 (by have : ((58 : UInt8).toNat) = 58 := rfl; omega)
                  exact hc (by rw [h2]; rfl)
                clear hc hc' hg hpt
                go_wp2
                go_round
                case rel => exact ⟨p + 1, by omega, by omega, by go_num, HST.out⟩
                case measure => simp [intOf]; omega
            · have hpm' : p = m := by omega
              subst hpm'
              have HK : Hid (stStep out x = out) := by
                show _ = _
                refine step_no ?_
                unfold stKeep has
                rw [HX.out] at hpa
                rw [decide_eq_false (by omega)]
                rfl
              clear hpa
              go_wp2
              go_roundw
              case rel => exact ⟨p + 1, A, c, out, by omega, by go_num, rfl, h6, by rw [← HFS.out, HK.out], HO.out, HB.out⟩
              case measure => simp [intOf]; omega
    · have hkn : k = s.length + 1 := by omega
      subst hkn
      have HF2 : Hid (cleanStyles s = out) := by show _ = _; rw [← HF.out, restP_end]; rfl
      go_wp2
      go_ret
      rw [HF2.out]
      exact ⟨A, c, rfl, HO.out, HB.out⟩
end Go.Proofs.YtaofgcdpmeeimaaDoor
