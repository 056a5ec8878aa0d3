import Derived.Test.YtmboieajfdkllaaGreatU27
import Derived.Test.YtmboieajfdkllaaGreatU18
import Derived.Test.YtmboieajfdkllaaGreatU25
set_option maxHeartbeats 8000000
set_option maxRecDepth 100000
open Go.Proofs.Tryz
namespace Go.Proofs.YtmboieajfdkllaaGreat
open Go.RowKit Go.Deep
theorem Zf (d : Nat) (ih : ∀ d', d = d' + 1 -> FtC gS 87 d') : FtC gS 87 d := by
 intro xs p m t a z A c w ho hx hs hf
 have HO := qb (xT ho)
 have HX := qb hx
 have IH := qb ih
 have HFT := qb hf
 have hxl : xs.length <= 1048576 := by omega
 have HSZ := qb hs
 obtain ⟨r, hr⟩ : ∃ r, r = Pt.ft xs ⟨m, t, a, z⟩ := ⟨_, rfl⟩
 rw [<- hr]
 have HR := qb hr.symm
 clear hr ho hx hf ih hs
 obtain ⟨hB, g0, g1⟩ := qE w (ql m t a z) qH 90 90
 have HB0 := qb hB
 have HG0 := qb g0
 have HG1 := qb g1
 clear hB g0 g1
 go_enter func87, ntmps87
 go_upto_region 2 with fail
 generalize (w.alloc (.cells (ql m t a z) 90)).alloc (.cells qH 90) = w0 at *
 go_wp2
 go_loopw [6] (fun i wr => ∃ (j : Nat) (s : St), j <= xs.length /\ i = .int .i64 j /\ wr.heap[w.heap.size]? = some (.cells (ql s.mode s.tag s.attr s.seen) 90 (0, 0)) /\ wr.heap[w.heap.size + 1]? = some (.cells qH 90 (0, 0)) /\ St.Fit s /\ Pt.ft (xs.drop j) s = r /\ Below w.heap.size w wr) (fun i _ => xs.length - (intOf i).toNat)
 case atStart => exact ⟨0, ⟨m, t, a, z⟩, Nat.zero_le _, rfl, HG0.out, HG1.out, HFT.out, by rw [List.drop_zero]; exact HR.out, HB0.out⟩
 obtain ⟨j, ⟨cm, ct, ca, cz⟩, hj, rfl, h0, h1, hft, hck, hb⟩ := hrel
 dsimp only at h0 h1
 have HB := qb hb
 have H0 := qb h0
 have H1 := qb h1
 have HF := qb hft
 have HD := qb hck
 have hz2 : w.heap.size + 1 < wr.heap.size := (Array.getElem?_eq_some_iff.1 h1).1
 clear h0 h1 hft hck hb
 by_cases hlt : j < xs.length
 case neg =>
  have HEE := qb (Pt.ft_end HD.out hlt)
  obtain ⟨⟨y0, y1, y2, y3⟩, -⟩ := qh H0.out
  obtain ⟨⟨z0, z1, z2, z3⟩, x0, x1, x2, x3⟩ := qh H1.out
  go_wp2_with (go_region)
  exact bodyPost_ret (jC (u := .int .i64 0) results87 rfl rfl (put4 H1.out)) rfl ⟨⟨⟨_, _, _, _⟩, by rw [HEE.out]; rfl, fun h => by rw [HEE.out]⟩, (qq HB.out (by omega) _ _ _ _).drew⟩
 obtain ⟨b1, o1, rfl, hb1, kd, tt, nn, us, vs, Ap, cp, Ao, co, hxj, k1, k2, k3, k4, c0, c1, c2, c3, c4⟩ := (HX.out.now HB.out).at2 hlt
 have hmem : Pt.mk kd tt nn us vs ∈ xs := by rw [<- hxj]; exact List.getElem_mem hlt
 have hok := HO.out _ hmem
 have hsm := Pt.size_mem hmem
 have HNO := qb (fun f s' he hf => Pt.ft_no HD.out hlt hxj (f := f) (s' := s') he hf)
 have HYES := qb (fun s' he => Pt.ft_yes HD.out hlt hxj (s' := s') he)
 clear HD hmem hxj
 simp only [Pt.size] at hsm
 rw [Pt.ok] at hok
 have HBX := qb (heap_alloc_new wr (.cells (qD kd tt nn Ap us.length cp Ao vs.length co) 115))
 have hBA := (Below.refl wr.heap.size wr).alloc (Nat.le_refl _) (.cells (qD kd tt nn Ap us.length cp Ao vs.length co) 115)
 have HBA := qb hBA
 have HU := qb (k3.now hBA)
 have HV := qb (k4.now hBA)
 have hzb : wr.heap.size < (wr.alloc (.cells (qD kd tt nn Ap us.length cp Ao vs.length co) 115)).heap.size := by simp
 clear k1 k2 k3 k4 hBA
 go_upto_region 17 with fail
 generalize wr.alloc (.cells (qD kd tt nn Ap us.length cp Ao vs.length co) 115) = wb at *
 obtain ⟨⟨f0, f1, f2, f3, f4⟩, -⟩ := qI HBX.out
 have HBb := qb (HB.out.trans (HBA.out.mono (by omega)))
 have H0b := qb (qi H0.out HBA.out)
 have H1b := qb (qi H1.out HBA.out)
 clear c0 c1 c2 c3 c4 H0 H1 HB
 obtain ⟨⟨y0, y1, y2, y3⟩, p0, p1, p2, p3⟩ := qh H0b.out
 by_cases e1 : kd = 1
 ·subst e1
  rw [if_pos rfl, Bool.and_eq_true] at hok
  have htl := jQ hok.1
  have HFN := qb (St.fit_after HF.out tt)
  have HC := qb (fun w => Wi cm ct ca cz tt w HF.out.1 HF.out.2 (by omega))
  have HTN := qb (fun (h : (St.after ⟨cm, ct, ca, cz⟩ tt).mode = 15) => HNO.out _ _ (Pt.ft1_text_no h) (by decide))
  have HTY := qb (fun (h : ¬ (St.after ⟨cm, ct, ca, cz⟩ tt).mode = 15) => HYES.out _ (Pt.ft1_text h))
  generalize St.after ⟨cm, ct, ca, cz⟩ tt = s1 at *
  obtain ⟨sm, st, sa, sz⟩ := s1
  dsimp only at HTN HTY
  clear hok
  go_wp2_with fail
  refine (HC.out _).mono ?_
  rintro e w2 ⟨rfl, hb⟩
  have HB2 := qb (qa3 HBb.out hb)
  have H02 := qb (qi H0b.out hb)
  have H12 := qb (qi H1b.out hb)
  have hz3 := hb.size
  clear hb y0 y1 y2 y3 p0 p1 p2 p3 f0 f1 f2 f3 f4
  obtain ⟨⟨y0, y1, y2, y3⟩, p0, p1, p2, p3⟩ := qh H02.out
  have HP0 := qb (put4 (v0 := .int .i64 sm) (v1 := sv st) (v2 := sv sa) (v3 := .bool sz) H02.out)
  have HP1 := qb (qQ (b := w.heap.size) (.int .i64 sm) (sv st) (sv sa) (.bool sz) H12.out (by omega))
  have HPB := qb (qq HB2.out (Nat.le_refl _) (.int .i64 sm) (sv st) (sv sa) (.bool sz))
  go_upto_region 19 with fail
  generalize (((w2.setCell ⟨w.heap.size, 0, none⟩ (.int .i64 sm)).setCell ⟨w.heap.size, 1, none⟩ (sv st)).setCell ⟨w.heap.size, 2, none⟩ (sv sa)).setCell ⟨w.heap.size, 3, none⟩ (.bool sz) = w9 at *
  obtain ⟨⟨y0, y1, y2, y3⟩, -⟩ := qh HP0.out
  obtain ⟨⟨z0, z1, z2, z3⟩, x0, x1, x2, x3⟩ := qh HP1.out
  by_cases hm : sm = 15
  ·subst hm
   have HEE : Hid (r.1 = 1) := HTN.out rfl
   go_wp2_with (go_region)
   exact bodyPost_ret (jC (u := .int .i64 1) results87 rfl rfl (put4 HP1.out)) rfl ⟨⟨⟨_, _, _, _⟩, by rw [HEE.out]; rfl, fun h => absurd (HEE.out.symm.trans h) (by decide)⟩, (qq HPB.out (by omega) _ _ _ _).drew⟩
  have nm : (sm == 15) = false := by simpa using hm
  have HD2 := qb (HTY.out hm)
  clear hm
  go_wp2
  go_roundw
  case rel => exact ⟨j + 1, ⟨sm, st, sa, sz⟩, by omega, by go_num, HP0.out, HP1.out, HFN.out, HD2.out, HPB.out⟩
  case measure => simp [intOf]; omega
 rw [if_neg e1] at hok
 by_cases e2 : kd = 2
 ·subst e2
  have HFN := qb (St.fit_behind HF.out)
  have HC := qb (fun w => Zv cm ct ca cz w (by have := HF.out.1; dsimp only at this; omega) (by have := HF.out.2; dsimp only at this; omega))
  have HTN := qb (fun (h : (St.behind ⟨cm, ct, ca, cz⟩).mode = 15) => HNO.out _ _ (Pt.ft1_hole_no ((St.behind_bad _).1 h)) (by decide))
  have HTY := qb (fun (h : ¬ (St.behind ⟨cm, ct, ca, cz⟩).mode = 15) => HYES.out _ (Pt.ft1_hole (fun e => h ((St.behind_bad _).2 e))))
  generalize St.behind ⟨cm, ct, ca, cz⟩ = s1 at *
  obtain ⟨sm, st, sa, sz⟩ := s1
  dsimp only at HTN HTY
  clear hok e1
  go_wp2_with fail
  refine (HC.out _).mono ?_
  rintro e w2 ⟨rfl, hb⟩
  have HB2 := qb (qa3 HBb.out hb)
  have H02 := qb (qi H0b.out hb)
  have H12 := qb (qi H1b.out hb)
  have hz3 := hb.size
  clear hb y0 y1 y2 y3 p0 p1 p2 p3 f0 f1 f2 f3 f4
  obtain ⟨⟨y0, y1, y2, y3⟩, p0, p1, p2, p3⟩ := qh H02.out
  have HP0 := qb (put4 (v0 := .int .i64 sm) (v1 := sv st) (v2 := sv sa) (v3 := .bool sz) H02.out)
  have HP1 := qb (qQ (b := w.heap.size) (.int .i64 sm) (sv st) (sv sa) (.bool sz) H12.out (by omega))
  have HPB := qb (qq HB2.out (Nat.le_refl _) (.int .i64 sm) (sv st) (sv sa) (.bool sz))
  go_upto_region 23 with fail
  generalize (((w2.setCell ⟨w.heap.size, 0, none⟩ (.int .i64 sm)).setCell ⟨w.heap.size, 1, none⟩ (sv st)).setCell ⟨w.heap.size, 2, none⟩ (sv sa)).setCell ⟨w.heap.size, 3, none⟩ (.bool sz) = w9 at *
  obtain ⟨⟨y0, y1, y2, y3⟩, -⟩ := qh HP0.out
  obtain ⟨⟨z0, z1, z2, z3⟩, x0, x1, x2, x3⟩ := qh HP1.out
  by_cases hm : sm = 15
  ·subst hm
   have HEE : Hid (r.1 = 2) := HTN.out rfl
   go_wp2_with (go_region)
   exact bodyPost_ret (jC (u := .int .i64 2) results87 rfl rfl (put4 HP1.out)) rfl ⟨⟨⟨_, _, _, _⟩, by rw [HEE.out]; rfl, fun h => absurd (HEE.out.symm.trans h) (by decide)⟩, (qq HPB.out (by omega) _ _ _ _).drew⟩
  have nm : (sm == 15) = false := by simpa using hm
  have HD2 := qb (HTY.out hm)
  clear hm
  go_wp2
  go_roundw
  case rel => exact ⟨j + 1, ⟨sm, st, sa, sz⟩, by omega, by go_num, HP0.out, HP1.out, HFN.out, HD2.out, HPB.out⟩
  case measure => simp [intOf]; omega
 rw [if_neg e2] at hok
 by_cases e34 : kd = 3 \/ kd = 4
 case neg => rw [if_neg e34] at hok; cases hok
 rw [if_pos e34] at hok
 simp only [Bool.and_eq_true] at hok
 obtain ⟨-, -, hv4, hd0, hou, hov⟩ := hok
 obtain ⟨d', rfl⟩ : ∃ d', d = d' + 1 := ⟨d - 1, by have := of_decide_eq_true hd0; omega⟩
 clear hd0
 rw [Nat.add_sub_cancel] at hou hov
 have HS := qb HSZ.out
 have hsu : us.length + Pt.sizes us <= 1048576 := by have := HSZ.out; omega
 have hsv : vs.length + Pt.sizes vs <= 1048576 := by have := HSZ.out; omega
 have HCU := qb (fun w3 (hb : Below wb.heap.size wb w3) => IH.out d' rfl us false cm ct ca cz Ap cp w3 hou (HU.out.now hb) hsu HF.out)
 have HCV := qb (fun w3 (hb : Below wb.heap.size wb w3) => IH.out d' rfl vs false cm ct ca cz Ao co w3 hov (HV.out.now hb) hsv HF.out)
 have HFU := qb (Pt.fit_ft us _ HF.out)
 have HY0 := qb f0
 have HY4 := qb f4
 have hz4 : w.heap.size < wb.heap.size := by omega
 have H34 := qb e34
 have HV4 := qb hv4
 clear hou hov hsu hsv HU HV f1 f2 f4 hv4
 obtain ⟨n1, s1, hs1⟩ : ∃ n1 s1, Pt.ft us ⟨cm, ct, ca, cz⟩ = (n1, s1) := ⟨_, _, rfl⟩
 obtain ⟨n2, s2, hs2⟩ : ∃ n2 s2, Pt.ft vs ⟨cm, ct, ca, cz⟩ = (n2, s2) := ⟨_, _, rfl⟩
 rw [hs1] at HCU HFU
 rw [hs2] at HCV
 dsimp only at HCU HFU HCV
 have HS1 := qb hs1
 have HS2 := qb hs2
 have k1 : (kd == 1) = false := by simpa using e1
 have k2 : (kd == 2) = false := by simpa using e2
 clear hs1 hs2 e1 e2 e34
 go_wp2_with fail
 refine (HCU.out wb (Below.refl _ _)).mono ?_
 rintro e w3 ⟨⟨⟨m8, t8, a8, z8⟩, rfl, hst⟩, hb⟩
 have hbx := hb.alloc hb.size (.cells (ql m8 t8 a8 z8) 90)
 have HST := qb hst
 have HBX3 := qb hbx
 have H03 := qb (qi H0b.out hbx)
 have H13 := qb (qi H1b.out hbx)
 have HQ8 := qb (heap_alloc_new w3 (.cells (ql m8 t8 a8 z8) 90))
 have HPB3 := qb (qa3 HBb.out hbx)
 have hz5 := hb.size
 have hz6 : w3.heap.size < (w3.alloc (.cells (ql m8 t8 a8 z8) 90)).heap.size := by simp
 clear hb hbx hst y0 y1 y2 y3 p0 p1 p2 p3 f0 f3
 unfold gS
 go_upto_region 7 with fail
 generalize w3.alloc (.cells (ql m8 t8 a8 z8) 90) = wc at *
 have HCV2 := qb (HCV.out wc HBX3.out)
 have f4 := (HBX3.out.cell (p := ⟨wr.heap.size, 4, none⟩) hzb).trans HY4.out
 have hz7 : w.heap.size + 1 < wc.heap.size := by have := HBX3.out.size; omega
 have hz8 : wr.heap.size < wc.heap.size := by have := HBX3.out.size; omega
 obtain ⟨⟨y0, y1, y2, y3⟩, p0, p1, p2, p3⟩ := qh H03.out
 go_wp2_with fail
 refine HCV2.out.mono ?_
 rintro e w5 ⟨⟨⟨m9, t9, a9, z9⟩, rfl, hst9⟩, hb⟩
 have hbx := hb.alloc hb.size (.cells (ql m9 t9 a9 z9) 90)
 have HST9 := qb hst9
 have H05 := qb (qi H03.out hbx)
 have H15 := qb (qi H13.out hbx)
 have HQ85 := qb (qi HQ8.out hbx)
 have HQ95 := qb (heap_alloc_new w5 (.cells (ql m9 t9 a9 z9) 90))
 have HPB5 := qb (qa3 HPB3.out hbx)
 have hz9 := hb.size
 have HK5 := qb ((hbx.cell (p := ⟨wr.heap.size, 0, none⟩) hz8).trans ((HBX3.out.cell (p := ⟨wr.heap.size, 0, none⟩) hzb).trans HY0.out))
 clear hb hbx hst9 y0 y1 y2 y3 p0 p1 p2 p3 f4
 unfold gS
 go_upto_region 8 with fail
 generalize w5.alloc (.cells (ql m9 t9 a9 z9) 90) = wd at *
 obtain ⟨⟨y0, y1, y2, y3⟩, p0, p1, p2, p3⟩ := qh H05.out
 obtain ⟨⟨z0, z1, z2, z3⟩, x0, x1, x2, x3⟩ := qh H15.out
 obtain ⟨⟨a80, a81, a82, a83⟩, -⟩ := qh HQ85.out
 obtain ⟨⟨a90, a91, a92, a93⟩, -⟩ := qh HQ95.out
 have f0 := HK5.out
 by_cases hn1 : n1 = 0
 case neg =>
  have nm : (n1 == 0) = false := by simpa using hn1
  have HEE : Hid (r.1 = n1) := HNO.out _ _ (Pt.ft1_in H34.out HS1.out hn1) hn1
  have HN1 := qb hn1
  clear hn1
  go_wp2_with (go_region)
  exact bodyPost_ret (jC (u := .int .i64 n1) results87 rfl rfl (put4 H15.out)) rfl ⟨⟨⟨_, _, _, _⟩, by rw [HEE.out]; rfl, fun h => absurd (HEE.out.symm.trans h) HN1.out⟩, (qq HPB5.out (by omega) _ _ _ _).drew⟩
 subst hn1
 have HE8 := qb (HST.out rfl)
 clear HST
 obtain rfl : s1 = ⟨m8, t8, a8, z8⟩ := HE8.out.symm
 by_cases hn2 : n2 = 0
 case neg =>
  have nm : (n2 == 0) = false := by simpa using hn2
  have HEE : Hid (r.1 = n2) := HNO.out _ _ (Pt.ft1_in2 H34.out HS1.out HS2.out hn2) hn2
  have HN1 := qb hn2
  clear hn2
  go_wp2_with (go_region)
  exact bodyPost_ret (jC (u := .int .i64 n2) results87 rfl rfl (put4 H15.out)) rfl ⟨⟨⟨_, _, _, _⟩, by rw [HEE.out]; rfl, fun h => absurd (HEE.out.symm.trans h) HN1.out⟩, (qq HPB5.out (by omega) _ _ _ _).drew⟩
 subst hn2
 have HE9 := qb (HST9.out rfl)
 clear HST9
 obtain rfl : s2 = ⟨m9, t9, a9, z9⟩ := HE9.out.symm
 have e34 := H34.out
 rcases e34 with rfl | rfl
 ·by_cases hss : (⟨m8, t8, a8, z8⟩ : St) = ⟨m9, t9, a9, z9⟩
  ·have HD2 := qb (HYES.out _ (Pt.ft1_if HS1.out HS2.out hss))
   have hdd := zV hss
   clear hss
   have HFN := qb HFU.out
   have HP0 := qb (put4 (v0 := .int .i64 m8) (v1 := sv t8) (v2 := sv a8) (v3 := .bool z8) H05.out)
   have HP1 := qb (qQ (b := w.heap.size) (.int .i64 m8) (sv t8) (sv a8) (.bool z8) H15.out (by omega))
   have HPB := qb (qq HPB5.out (Nat.le_refl _) (.int .i64 m8) (sv t8) (sv a8) (.bool z8))
   go_wp2
   go_roundw
   case rel => exact ⟨j + 1, ⟨m8, t8, a8, z8⟩, by omega, by go_num, HP0.out, HP1.out, HFN.out, HD2.out, HPB.out⟩
   case measure => simp [intOf]; omega
  have HEE : Hid (r.1 = 3) := HNO.out _ _ (Pt.ft1_branch HS1.out HS2.out hss) (by decide)
  have hdd := zW hss
  clear hss
  go_wp2
  exact bodyPost_ret (jC (u := .int .i64 3) results87 rfl rfl (put4 H15.out)) rfl ⟨⟨⟨_, _, _, _⟩, by rw [HEE.out]; rfl, fun h => absurd (HEE.out.symm.trans h) (by decide)⟩, qq HPB5.out (by omega) _ _ _ _⟩
 have hv0 : vs = [] := by
  have := HV4.out
  cases vs with
  | nil => rfl
  | cons => simp at this
 by_cases hss : (⟨m8, t8, a8, z8⟩ : St) = ⟨cm, ct, ca, cz⟩
 ·have hnx := HYES.out ⟨m8, t8, a8, z8⟩ (by rw [hv0]; exact Pt.ft1_each HS1.out hss)
  have HD2 := qb hnx
  have hdd := zV hss
  clear hss hnx
  have HFN := qb HFU.out
  have HP0 := qb (put4 (v0 := .int .i64 m8) (v1 := sv t8) (v2 := sv a8) (v3 := .bool z8) H05.out)
  have HP1 := qb (qQ (b := w.heap.size) (.int .i64 m8) (sv t8) (sv a8) (.bool z8) H15.out (by omega))
  have HPB := qb (qq HPB5.out (Nat.le_refl _) (.int .i64 m8) (sv t8) (sv a8) (.bool z8))
  go_wp2
  go_roundw
  case rel => exact ⟨j + 1, ⟨m8, t8, a8, z8⟩, by omega, by go_num, HP0.out, HP1.out, HFN.out, HD2.out, HPB.out⟩
  case measure => simp [intOf]; omega
 have HEE : Hid (r.1 = 4) := HNO.out _ _ (by rw [hv0]; exact Pt.ft1_loop HS1.out hss) (by decide)
 have hdd := zW hss
 clear hss
 go_wp2
 exact bodyPost_ret (jC (u := .int .i64 4) results87 rfl rfl (put4 H15.out)) rfl ⟨⟨⟨_, _, _, _⟩, by rw [HEE.out]; rfl, fun h => absurd (HEE.out.symm.trans h) (by decide)⟩, qq HPB5.out (by omega) _ _ _ _⟩
theorem XD (d : Nat) : FtC gS 87 d := by
 induction d with
 | zero => exact Zf 0 fun d' h => by omega
 | succ d ih => exact Zf (d + 1) fun d' h => by obtain rfl : d = d' := (by omega); exact ih
namespace Pt
theorem ft_range_list {xs : List Pt} (h : ∀ x ∈ xs, ∀ s, 0 <= (ft1 x s).1 /\ (ft1 x s).1 <= 4) : ∀ s, 0 <= (ft xs s).1 /\ (ft xs s).1 <= 4 := by
 induction xs with
 | nil => intro s; unfold ft; simp
 | cons x t ih =>
  intro s
  rw [ft]
  split
  ·exact h x (by simp) s
  exact ih (fun y hy => h y (List.mem_cons_of_mem _ hy)) _
theorem ft1_range (x : Pt) : ∀ s, 0 <= (ft1 x s).1 /\ (ft1 x s).1 <= 4 := by
 induction x using ind with
 | h k t n xs ys ih1 ih2 =>
  intro s
  have h1 := ft_range_list ih1 s
  have h2 := ft_range_list ih2 s
  rw [ft1]
  repeat' split
  all_goals first
   | exact h1
   | exact h2
   | simp
theorem ft_range (xs : List Pt) (s : St) : 0 <= (ft xs s).1 /\ (ft xs s).1 <= 4 := ft_range_list (fun x _ => ft1_range x) s
theorem fault_range {xs : List Pt} (h : valid xs = true) : 0 <= fault xs /\ fault xs <= 5 := by
 have := ft_range xs St.zero
 unfold fault
 rw [if_pos h]
 split <;> omega
end Pt
def jv (n : Int) : Tx := if n = 0 then [110, 111, 110, 101] else if n = 1 then [109, 97, 114, 107, 117, 112] else if n = 2 then [112, 108, 97, 99, 101] else if n = 3 then [98, 114, 97, 110, 99, 104] else if n = 4 then [108, 111, 111, 112] else [101, 110, 100]
theorem KK (n : Int) (h0 : 0 <= n) (h5 : n <= 5) (w : World) :
  Calls Tryz.prog 45 #[.int .i64 n] w fun e w' => e = .returned (sv (jv n)) /\ Below w.heap.size w w' := by
 rcases (show n = 0 \/ n = 1 \/ n = 2 \/ n = 3 \/ n = 4 \/ n = 5 by omega) with rfl | rfl | rfl | rfl | rfl | rfl
 all_goals
  go_enter func45, ntmps45
  go_wp2
  go_ret
  exact ⟨rfl, (Below.refl _ _).alloc (Nat.le_refl _) _⟩
theorem KL (n : Int) (h0 : 0 <= n) (h5 : n <= 5) (w : World) :
  Calls Tryz.prog 38 #[.int .i64 n] w fun e w' => e = .returned (sv (jv n)) /\ Below w.heap.size w w' := by
 have HI := qb (qN n 0 5 w)
 rw [show (decide (0 <= n) && decide (n <= 5)) = true by simp [h0, h5]] at HI
 rcases (show n = 0 \/ n = 1 \/ n = 2 \/ n = 3 \/ n = 4 \/ n = 5 by omega) with rfl | rfl | rfl | rfl | rfl | rfl
 all_goals
  go_enter func38, ntmps38
  go_wp2_with fail
  refine HI.out.mono ?_
  rintro e w1 ⟨rfl, rfl⟩
  go_wp2
  go_ret
  exact ⟨rfl, (Below.refl _ _).alloc (Nat.le_refl _) _⟩
theorem KM (xs : List Pt) (A : Option Addr) (c : Nat) (w : World) (hx : RdP w (All w) A xs) (hs : xs.length + Pt.sizes xs <= 1048576) (hm : Hm w) :
  Calls Tryz.prog 46 #[.slice A xs.length c] w fun e w' => e = .returned (.int .i64 (Pt.fault xs)) /\ Below w.heap.size w w' := by
 have HPV := qb (xv xs A c w hx hs hm)
 have HX := qb hx
 have HCU := qb (fun (hv : Pt.oks xs 3 false = true) w2 (hb : Below w.heap.size w w2) => Jr 3 xs false 0 [] [] false A c w2 hv (HX.out.now hb) hs St.fit_lit)
 have HE0 : Hid (Pt.valid xs = false -> Pt.fault xs = -1) := fun h => by unfold Pt.fault; rw [h, if_neg (by simp)]
 have HE1 : Hid (Pt.valid xs = true -> Pt.fault xs = if (Pt.ft xs ⟨0, [], [], false⟩).1 = 0 /\ (Pt.ft xs ⟨0, [], [], false⟩).2 ≠ ⟨0, [], [], false⟩ then 5 else (Pt.ft xs ⟨0, [], [], false⟩).1) := fun h => by unfold Pt.fault; rw [h, if_pos rfl]; rfl
 have HVO := qb (zK (xs := xs))
 clear hx
 obtain ⟨n1, s1, hs1⟩ : ∃ n1 s1, Pt.ft xs ⟨0, [], [], false⟩ = (n1, s1) := ⟨_, _, rfl⟩
 rw [hs1] at HCU HE1
 dsimp only at HCU HE1
 clear hs1
 generalize Pt.fault xs = F at *
 generalize Pt.valid xs = v at *
 cases v
 case false =>
  have HE := qb (HE0.out rfl)
  clear HE0 HE1 HVO HCU
  go_enter func46, ntmps46
  go_wp2_with fail
  refine HPV.out.mono ?_
  rintro e w1 ⟨rfl, hb⟩
  have HB1 := qb hb
  clear hb
  go_wp2
  go_ret
  exact ⟨qA HE.out.symm, HB1.out⟩
 have HE := qb (HE1.out rfl)
 have HCU2 := qb (HCU.out (HVO.out rfl))
 clear HE0 HE1 HVO HCU
 go_enter func46, ntmps46
 go_wp2_with fail
 refine HPV.out.mono ?_
 rintro e w1 ⟨rfl, hb⟩
 have HB1 := qb hb
 clear hb
 go_wp2_with fail
 refine (HCU2.out w1 HB1.out).mono ?_
 rintro e w2 ⟨⟨⟨m8, t8, a8, z8⟩, rfl, hst⟩, hb⟩
 have hbx := (qa3 HB1.out hb).alloc (Nat.le_trans HB1.out.size hb.size) (.cells (ql m8 t8 a8 z8) 90)
 have HST := qb hst
 have HBX := qb hbx
 obtain ⟨⟨a0, a1, a2, a3⟩, -⟩ := qh (heap_alloc_new w2 (.cells (ql m8 t8 a8 z8) 90))
 clear hb hbx hst
 unfold gI
 by_cases hn1 : n1 = 0
 case neg =>
  have nm : (n1 == 0) = false := by simpa using hn1
  have HE2 : Hid (F = n1) := by show _ = _; rw [HE.out, if_neg (fun h => hn1 h.1)]
  clear hn1
  go_wp2
  go_ret
  exact ⟨qA HE2.out.symm, HBX.out⟩
 subst hn1
 obtain rfl : s1 = ⟨m8, t8, a8, z8⟩ := (HST.out rfl).symm
 by_cases hss : (⟨m8, t8, a8, z8⟩ : St) = ⟨0, [], [], false⟩
 ·have HE2 : Hid (F = 0) := by show _ = _; rw [HE.out, if_neg (fun h => h.2 hss)]
  have hdd := zV hss
  clear hss
  go_wp2
  go_ret
  exact ⟨qA HE2.out.symm, HBX.out⟩
 have HE2 : Hid (F = 5) := by show _ = _; rw [HE.out, if_pos ⟨rfl, hss⟩]
 have hdd := zW hss
 clear hss
 go_wp2
 go_ret
 exact ⟨qA HE2.out.symm, HBX.out⟩
theorem KN (xs : List Pt) (A : Option Addr) (c : Nat) (w : World) (hx : RdP w (All w) A xs) (hs : xs.length + Pt.sizes xs <= 1048576) :
  Calls Tryz.prog 39 #[.slice A xs.length c] w fun e w' => e = .returned (.int .i64 (Pt.fault xs)) /\ Below w.heap.size w w' := by
 have HPV := qb (jZ xs A c w hx hs)
 have HX := qb hx
 have HCU := qb (fun (hv : Pt.oks xs 3 false = true) w2 (hb : Below w.heap.size w w2) => XD 3 xs false 0 [] [] false A c w2 hv (HX.out.now hb) hs St.fit_lit)
 have HE0 : Hid (Pt.valid xs = false -> Pt.fault xs = -1) := fun h => by unfold Pt.fault; rw [h, if_neg (by simp)]
 have HE1 : Hid (Pt.valid xs = true -> Pt.fault xs = if (Pt.ft xs ⟨0, [], [], false⟩).1 = 0 /\ (Pt.ft xs ⟨0, [], [], false⟩).2 ≠ ⟨0, [], [], false⟩ then 5 else (Pt.ft xs ⟨0, [], [], false⟩).1) := fun h => by unfold Pt.fault; rw [h, if_pos rfl]; rfl
 have HVO := qb (zK (xs := xs))
 clear hx
 obtain ⟨n1, s1, hs1⟩ : ∃ n1 s1, Pt.ft xs ⟨0, [], [], false⟩ = (n1, s1) := ⟨_, _, rfl⟩
 rw [hs1] at HCU HE1
 dsimp only at HCU HE1
 clear hs1
 generalize Pt.fault xs = F at *
 generalize Pt.valid xs = v at *
 cases v
 case false =>
  have HE := qb (HE0.out rfl)
  clear HE0 HE1 HVO HCU
  go_enter func39, ntmps39
  go_wp2_with fail
  refine HPV.out.mono ?_
  rintro e w1 ⟨rfl, hb⟩
  have HB1 := qb hb
  clear hb
  go_wp2
  go_ret
  exact ⟨qA HE.out.symm, HB1.out⟩
 have HE := qb (HE1.out rfl)
 have HCU2 := qb (HCU.out (HVO.out rfl))
 clear HE0 HE1 HVO HCU
 go_enter func39, ntmps39
 go_wp2_with fail
 refine HPV.out.mono ?_
 rintro e w1 ⟨rfl, hb⟩
 have HB1 := qb hb
 clear hb
 go_wp2_with fail
 refine (HCU2.out w1 HB1.out).mono ?_
 rintro e w2 ⟨⟨⟨m8, t8, a8, z8⟩, rfl, hst⟩, hb⟩
 have hbx := (qa3 HB1.out hb).alloc (Nat.le_trans HB1.out.size hb.size) (.cells (ql m8 t8 a8 z8) 90)
 have HST := qb hst
 have HBX := qb hbx
 obtain ⟨⟨a0, a1, a2, a3⟩, -⟩ := qh (heap_alloc_new w2 (.cells (ql m8 t8 a8 z8) 90))
 clear hb hbx hst
 unfold gS
 by_cases hn1 : n1 = 0
 case neg =>
  have nm : (n1 == 0) = false := by simpa using hn1
  have HE2 : Hid (F = n1) := by show _ = _; rw [HE.out, if_neg (fun h => hn1 h.1)]
  clear hn1
  go_wp2
  go_ret
  exact ⟨qA HE2.out.symm, HBX.out⟩
 subst hn1
 obtain rfl : s1 = ⟨m8, t8, a8, z8⟩ := (HST.out rfl).symm
 by_cases hss : (⟨m8, t8, a8, z8⟩ : St) = ⟨0, [], [], false⟩
 ·have HE2 : Hid (F = 0) := by show _ = _; rw [HE.out, if_neg (fun h => h.2 hss)]
  have hdd := zV hss
  clear hss
  go_wp2
  go_ret
  exact ⟨qA HE2.out.symm, HBX.out⟩
 have HE2 : Hid (F = 5) := by show _ = _; rw [HE.out, if_pos ⟨rfl, hss⟩]
 have hdd := zW hss
 clear hss
 go_wp2
 go_ret
 exact ⟨qA HE2.out.symm, HBX.out⟩
end Go.Proofs.YtmboieajfdkllaaGreat
