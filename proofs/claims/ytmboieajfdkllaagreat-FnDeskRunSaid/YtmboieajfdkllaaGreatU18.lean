import Derived.Test.YtmboieajfdkllaaGreatU17
open Go.Proofs.Tryz
namespace Go.Proofs.YtmboieajfdkllaaGreat
open Go.RowKit Go.Deep
set_option maxRecDepth 100000 in
set_option maxHeartbeats 8000000 in
theorem vO (d : Nat) (ih : ∀ d', d = d' + 1 -> CkC 133 d') : CkC 133 d := by
 intro xs p m t a z A c w ho hx hs hf
 have HO := qb (xT ho)
 have HX := qb hx
 have IH := qb ih
 have HFT := qb hf
 have hxl : xs.length <= 1048576 := by omega
 have HSZ := qb hs
 obtain ⟨r, hr⟩ : ∃ r, r = Pt.ck xs ⟨m, t, a, z⟩ := ⟨_, rfl⟩
 rw [<- hr]
 have HR := qb hr.symm
 clear hr ho hx hf ih hs
 obtain ⟨hB, g0, g1, g2, hz⟩ := qB (w := w) (cs := ql m t a z) (ds := qH) (es := ql 15 [] [] false) (T := 90) (Below.refl _ _)
 have HB0 := qb hB
 have HG0 := qb g0
 have HG1 := qb g1
 have HG2 := qb g2
 clear hB g0 g1 g2
 go_enter func133, ntmps133
 go_upto_region 2 with fail
 generalize ((w.alloc (.cells (ql m t a z) 90)).alloc (.cells qH 90)).alloc (.cells (ql 15 [] [] false) 90) = w0 at *
 go_wp2
 go_loopw [6] (fun i wr => ∃ (j : Nat) (s : St), j <= xs.length /\ i = .int .i64 j /\ wr.heap[w.heap.size]? = some (.cells (ql s.mode s.tag s.attr s.seen) 90 (0, 0)) /\ wr.heap[w.heap.size + 1]? = some (.cells qH 90 (0, 0)) /\ wr.heap[w.heap.size + 2]? = some (.cells (ql 15 [] [] false) 90 (0, 0)) /\ St.Fit s /\ Pt.ck (xs.drop j) s = r /\ Below w.heap.size w wr) (fun i _ => xs.length - (intOf i).toNat)
 case atStart => exact ⟨0, ⟨m, t, a, z⟩, Nat.zero_le _, rfl, HG0.out, HG1.out, HG2.out, HFT.out, by rw [List.drop_zero]; exact HR.out, HB0.out⟩
 obtain ⟨j, ⟨cm, ct, ca, cz⟩, hj, rfl, h0, h1, h2, hft, hck, hb⟩ := hrel
 dsimp only at h0 h1 h2
 have HB := qb hb
 have H0 := qb h0
 have H1 := qb h1
 have H2 := qb h2
 have HF := qb hft
 have HD := qb hck
 have hz2 : w.heap.size + 2 < wr.heap.size := (Array.getElem?_eq_some_iff.1 h2).1
 clear h0 h1 h2 hft hck hb
 by_cases hlt : j < xs.length
 ·obtain ⟨b1, o1, rfl, hb1, kd, tt, nn, us, vs, Ap, cp, Ao, co, hxj, k1, k2, k3, k4, c0, c1, c2, c3, c4⟩ := (HX.out.now HB.out).at2 hlt
  have hmem : Pt.mk kd tt nn us vs ∈ xs := by rw [<- hxj]; exact List.getElem_mem hlt
  have hok := HO.out _ hmem
  have hsm := Pt.size_mem hmem
  have hcd := Zg hlt ⟨cm, ct, ca, cz⟩
  rw [HD.out, hxj] at hcd
  have HD := qb hcd.symm
  clear hcd hmem hxj
  simp only [Pt.size] at hsm
  rw [Pt.ok] at hok
  have HBX := qb (heap_alloc_new wr (.cells (qD kd tt nn Ap us.length cp Ao vs.length co) 115))
  have hBA := (Below.refl wr.heap.size wr).alloc (Nat.le_refl _) (.cells (qD kd tt nn Ap us.length cp Ao vs.length co) 115)
  have HBA := qb hBA
  have HU := qb (k3.now hBA)
  have HV := qb (k4.now hBA)
  have hzb : wr.heap.size < (wr.alloc (.cells (qD kd tt nn Ap us.length cp Ao vs.length co) 115)).heap.size := by simp
  clear k1 k2 k3 k4 hBA
  go_upto_region 6 with fail
  generalize wr.alloc (.cells (qD kd tt nn Ap us.length cp Ao vs.length co) 115) = wb at *
  obtain ⟨⟨f0, f1, f2, f3, f4⟩, -⟩ := qI HBX.out
  have HBb := qb (HB.out.trans (HBA.out.mono (by omega)))
  have H0b := qb (qi H0.out HBA.out)
  have H1b := qb (qi H1.out HBA.out)
  have H2b := qb (qi H2.out HBA.out)
  clear c0 c1 c2 c3 c4 H0 H1 H2 HB
  obtain ⟨⟨y0, y1, y2, y3⟩, p0, p1, p2, p3⟩ := qh H0b.out
  by_cases e1 : kd = 1
  ·subst e1
   rw [if_pos rfl, Bool.and_eq_true] at hok
   have htl := jQ hok.1
   have HFN := qb (St.fit_after HF.out tt)
   have HC := qb (fun w => Wi cm ct ca cz tt w HF.out.1 HF.out.2 (by omega))
   rw [Pt.ck1, if_pos rfl] at HD
   generalize St.after ⟨cm, ct, ca, cz⟩ tt = s1 at *
   obtain ⟨sm, st, sa, sz⟩ := s1
   dsimp only at HD
   clear hok
   go_wp2_with fail
   refine (HC.out _).mono ?_
   rintro e w2 ⟨rfl, hb⟩
   have HB2 := qb (qa3 HBb.out hb)
   have H02 := qb (qi H0b.out hb)
   have H12 := qb (qi H1b.out hb)
   have H22 := qb (qi H2b.out hb)
   have hz3 := hb.size
   clear hb y0 y1 y2 y3 p0 p1 p2 p3 f0 f1 f2 f3 f4
   obtain ⟨⟨y0, y1, y2, y3⟩, p0, p1, p2, p3⟩ := qh H02.out
   have HP0 := qb (put4 (v0 := .int .i64 sm) (v1 := sv st) (v2 := sv sa) (v3 := .bool sz) H02.out)
   have HP1 := qb (qQ (b := w.heap.size) (.int .i64 sm) (sv st) (sv sa) (.bool sz) H12.out (by omega))
   have HP2 := qb (qQ (b := w.heap.size) (.int .i64 sm) (sv st) (sv sa) (.bool sz) H22.out (by omega))
   have HPB := qb (qq HB2.out (Nat.le_refl _) (.int .i64 sm) (sv st) (sv sa) (.bool sz))
   go_upto_region 18 with fail
   generalize (((w2.setCell ⟨w.heap.size, 0, none⟩ (.int .i64 sm)).setCell ⟨w.heap.size, 1, none⟩ (sv st)).setCell ⟨w.heap.size, 2, none⟩ (sv sa)).setCell ⟨w.heap.size, 3, none⟩ (.bool sz) = w9 at *
   obtain ⟨⟨y0, y1, y2, y3⟩, -⟩ := qh HP0.out
   obtain ⟨⟨z0, z1, z2, z3⟩, x0, x1, x2, x3⟩ := qh HP1.out
   obtain ⟨⟨q0, q1, q2, q3⟩, -⟩ := qh HP2.out
   by_cases hm : sm = 15
   ·subst hm
    have HEE : Hid (r = St.bad) := by show _ = _; rw [<- HD.out, if_pos rfl]
    go_wp2
    exact bodyPost_ret (qp (m := 15) (t := []) (a := []) (z := false) results133 rfl (put4 HP1.out)) rfl ⟨by rw [HEE.out]; rfl, qq HPB.out (by omega) _ _ _ _⟩
   have nm : (sm == 15) = false := by simpa using hm
   rw [if_neg hm] at HD
   clear hm
   go_wp2
   go_roundw
   case rel => exact ⟨j + 1, ⟨sm, st, sa, sz⟩, by omega, by go_num, HP0.out, HP1.out, HP2.out, HFN.out, HD.out, HPB.out⟩
   case measure => simp [intOf]; omega
  rw [if_neg e1] at hok
  by_cases e2 : kd = 2
  ·subst e2
   have HFN := qb (St.fit_behind HF.out)
   have HC := qb (fun w => Zv cm ct ca cz w (by have := HF.out.1; dsimp only at this; omega) (by have := HF.out.2; dsimp only at this; omega))
   rw [Pt.ck1, if_neg (show ¬ (2 : Int) = 1 by decide), if_pos rfl] at HD
   generalize St.behind ⟨cm, ct, ca, cz⟩ = s1 at *
   obtain ⟨sm, st, sa, sz⟩ := s1
   dsimp only at HD
   clear hok e1
   go_wp2_with fail
   refine (HC.out _).mono ?_
   rintro e w2 ⟨rfl, hb⟩
   have HB2 := qb (qa3 HBb.out hb)
   have H02 := qb (qi H0b.out hb)
   have H12 := qb (qi H1b.out hb)
   have H22 := qb (qi H2b.out hb)
   have hz3 := hb.size
   clear hb y0 y1 y2 y3 p0 p1 p2 p3 f0 f1 f2 f3 f4
   obtain ⟨⟨y0, y1, y2, y3⟩, p0, p1, p2, p3⟩ := qh H02.out
   have HP0 := qb (put4 (v0 := .int .i64 sm) (v1 := sv st) (v2 := sv sa) (v3 := .bool sz) H02.out)
   have HP1 := qb (qQ (b := w.heap.size) (.int .i64 sm) (sv st) (sv sa) (.bool sz) H12.out (by omega))
   have HP2 := qb (qQ (b := w.heap.size) (.int .i64 sm) (sv st) (sv sa) (.bool sz) H22.out (by omega))
   have HPB := qb (qq HB2.out (Nat.le_refl _) (.int .i64 sm) (sv st) (sv sa) (.bool sz))
   go_upto_region 18 with fail
   generalize (((w2.setCell ⟨w.heap.size, 0, none⟩ (.int .i64 sm)).setCell ⟨w.heap.size, 1, none⟩ (sv st)).setCell ⟨w.heap.size, 2, none⟩ (sv sa)).setCell ⟨w.heap.size, 3, none⟩ (.bool sz) = w9 at *
   obtain ⟨⟨y0, y1, y2, y3⟩, -⟩ := qh HP0.out
   obtain ⟨⟨z0, z1, z2, z3⟩, x0, x1, x2, x3⟩ := qh HP1.out
   obtain ⟨⟨q0, q1, q2, q3⟩, -⟩ := qh HP2.out
   by_cases hm : sm = 15
   ·subst hm
    have HEE : Hid (r = St.bad) := by show _ = _; rw [<- HD.out, if_pos rfl]
    go_wp2
    exact bodyPost_ret (qp (m := 15) (t := []) (a := []) (z := false) results133 rfl (put4 HP1.out)) rfl ⟨by rw [HEE.out]; rfl, qq HPB.out (by omega) _ _ _ _⟩
   have nm : (sm == 15) = false := by simpa using hm
   rw [if_neg hm] at HD
   clear hm
   go_wp2
   go_roundw
   case rel => exact ⟨j + 1, ⟨sm, st, sa, sz⟩, by omega, by go_num, HP0.out, HP1.out, HP2.out, HFN.out, HD.out, HPB.out⟩
   case measure => simp [intOf]; omega
  rw [if_neg e2] at hok
  by_cases e34 : kd = 3 \/ kd = 4
  case neg => rw [if_neg e34] at hok; cases hok
  rw [if_pos e34] at hok
  simp only [Bool.and_eq_true] at hok
  obtain ⟨-, -, -, hd0, hou, hov⟩ := hok
  obtain ⟨d', rfl⟩ : ∃ d', d = d' + 1 := ⟨d - 1, by have := of_decide_eq_true hd0; omega⟩
  clear hd0
  rw [Nat.add_sub_cancel] at hou hov
  have HS := qb HSZ.out
  have hsu : us.length + Pt.sizes us <= 1048576 := by have := HSZ.out; omega
  have hsv : vs.length + Pt.sizes vs <= 1048576 := by have := HSZ.out; omega
  have HCU := qb (fun w3 (hb : Below wb.heap.size wb w3) => IH.out d' rfl us false cm ct ca cz Ap cp w3 hou (HU.out.now hb) hsu HF.out)
  have HCV := qb (fun w3 (hb : Below wb.heap.size wb w3) => IH.out d' rfl vs false cm ct ca cz Ao co w3 hov (HV.out.now hb) hsv HF.out)
  have HFU := qb (Pt.fit_ck us _ HF.out)
  have HY3 := qb f3
  have HY4 := qb f4
  have hz4 : w.heap.size < wb.heap.size := by omega
  clear hou hov hsu hsv HU HV f1 f2 f3 f4
  rcases e34 with rfl | rfl
  ·rw [Pt.ck1, if_neg (show ¬ (3 : Int) = 1 by decide), if_neg (show ¬ (3 : Int) = 2 by decide), if_neg (show ¬ (3 : Int) = 4 by decide)] at HD
   generalize Pt.ck us ⟨cm, ct, ca, cz⟩ = s1 at *
   generalize Pt.ck vs ⟨cm, ct, ca, cz⟩ = s2 at *
   have f3 := HY3.out
   go_wp2_with fail
   refine (HCU.out wb (Below.refl _ _)).mono ?_
   rintro e w3 ⟨rfl, hb⟩
   obtain ⟨sm, st, sa, sz⟩ := s1
   have HB3 := qb (qa3 HBb.out hb)
   have hbx := hb.alloc hb.size (.cells (ql sm st sa sz) 90)
   have HBX3 := qb hbx
   have H03 := qb (qi H0b.out hbx)
   have H13 := qb (qi H1b.out hbx)
   have H23 := qb (qi H2b.out hbx)
   have HQ8 := qb (heap_alloc_new w3 (.cells (ql sm st sa sz) 90))
   have HPB3 := qb (qa3 HBb.out hbx)
   have hz5 := hb.size
   have hz6 : w3.heap.size < (w3.alloc (.cells (ql sm st sa sz) 90)).heap.size := by simp
   clear hb hbx y0 y1 y2 y3 p0 p1 p2 p3 f0 f3
   go_upto_region 8 with fail
   generalize w3.alloc (.cells (ql sm st sa sz) 90) = wc at *
   have HCV2 := qb (fun w9 (hb : Below wc.heap.size wc w9) => HCV.out w9 (qa3 HBX3.out hb))
   have HY5 := qb ((HBX3.out.cell (p := ⟨wr.heap.size, 4, none⟩) hzb).trans HY4.out)
   have hz7 : w.heap.size < wc.heap.size := by have := HBX3.out.size; omega
   have hz8 : wr.heap.size < wc.heap.size := by have := HBX3.out.size; omega
   refine qU 5 (by kernel_rfl) (by kernel_rfl) (fun _ w => Below (World.heap wc).size wc w) KB (fun i => ([bIs (stV sm st sa sz), bIs (stV cm ct ca cz), bIs (.pointer (some ⟨wr.heap.size, 4, none⟩)), bIs (.slice Ao vs.length co), bIs (St.v s2)] : List TyB).getD i bAny) ?hWbB1 ?hkeepB1 ?hstepB1 ?hfinbB1
   case hkeepB1 =>
    refine qg (qg (qg (qg (qg qG ?_) ?_) ?_) ?_) ?_
    all_goals exact qj
   case hstepB1 =>
    refine qg (qg (qg (qg (qg qG ?_) ?_) ?_) ?_) ?_
    all_goals (intro o ho m' a w1 hm' hW hb hd K Q hK; obtain rfl := Option.some.inj ho)
    ·(have e0 : a.tmps[8]?.getD undef = .pointer (some ⟨w3.heap.size, 0, none⟩) := (by rw [hb 8 (by decide +kernel)]; simp); have hbl := (hW.block _ hz6).trans HQ8.out; have q0 := cell_of_row w1 _ 0 _ _ _ hbl; have q1 := cell_of_row w1 _ 1 _ _ _ hbl; have q2 := cell_of_row w1 _ 2 _ _ _ hbl; have q3 := cell_of_row w1 _ 3 _ _ _ hbl; go_simp; exact hK _ _ hW (VY _) rfl)
    ·(have e0 : a.tmps[2]?.getD undef = .pointer (some ⟨w.heap.size, 0, none⟩) := (by rw [hb 2 (by decide +kernel)]; simp); have hbl := (hW.block _ hz7).trans H03.out; have q0 := cell_of_row w1 _ 0 _ _ _ hbl; have q1 := cell_of_row w1 _ 1 _ _ _ hbl; have q2 := cell_of_row w1 _ 2 _ _ _ hbl; have q3 := cell_of_row w1 _ 3 _ _ _ hbl; go_simp; exact hK _ _ hW (VY _) rfl)
    ·(have e0 : a.tmps[7]?.getD undef = .pointer (some ⟨wr.heap.size, 0, none⟩) := (by rw [hb 7 (by decide +kernel)]; simp); go_simp; exact hK _ _ hW (VY _) rfl)
    ·(have e0 := qo (hd 2 (by kernel_rfl) 28 rfl); have hcw := (hW.cell (p := ⟨wr.heap.size, 4, none⟩) hz8).trans HY5.out; go_simp; exact hK _ _ hW (VY _) rfl)
    (have e0 := qo (hd 1 (by kernel_rfl) 27 rfl); have e1 := qo (hd 3 (by kernel_rfl) 29 rfl); go_simp; refine (HCV2.out _ hW).mono ?_; rintro e w2 ⟨rfl, hb2⟩; exact hK _ _ (qa3 hW hb2) hb2 rfl)
   case hWbB1 => exact (Below.refl _ _).drew
   intro vs9 w5 hW hF
   simp only [qF, hdst, List.getElem?_cons_succ, List.getElem?_cons_zero, Option.bind, List.drop_succ_cons, List.drop_zero, Act.put]
   have h3 : vs9 0 = stV sm st sa sz := hF 0 (by omega)
   have h7 : vs9 4 = St.v s2 := hF 4 (by omega)
   rw [h3, h7]
   have HQB := qb (qa3 HPB3.out hW)
   have HQ0 := qb (qi H03.out hW)
   have HQ1 := qb (qi H13.out hW)
   have HQ2 := qb (qi H23.out hW)
   have HQA := qb (qi HQ8.out hW)
   have hz9 := hW.size
   clear hF h3 h7 hW HCU HCV HCV2
   obtain ⟨vm, vt, va, vz⟩ := s2
   obtain ⟨⟨a0, a1, a2, a3⟩, -⟩ := qh HQA.out
   obtain ⟨⟨y0, y1, y2, y3⟩, p0, p1, p2, p3⟩ := qh HQ0.out
   obtain ⟨⟨z0, z1, z2, z3⟩, x0, x1, x2, x3⟩ := qh HQ1.out
   obtain ⟨⟨q0, q1, q2, q3⟩, -⟩ := qh HQ2.out
   go_simp
   by_cases hss : (⟨sm, st, sa, sz⟩ : St) = ⟨vm, vt, va, vz⟩
   ·rw [if_pos hss] at HD
    have hdd := zV hss
    clear hss
    dsimp only at HD
    have HFN := qb HFU.out
    have HP0 := qb (put4 (v0 := .int .i64 sm) (v1 := sv st) (v2 := sv sa) (v3 := .bool sz) HQ0.out)
    have HP1 := qb (qQ (b := w.heap.size) (.int .i64 sm) (sv st) (sv sa) (.bool sz) HQ1.out (by omega))
    have HP2 := qb (qQ (b := w.heap.size) (.int .i64 sm) (sv st) (sv sa) (.bool sz) HQ2.out (by omega))
    have HPB := qb (qq HQB.out (Nat.le_refl _) (.int .i64 sm) (sv st) (sv sa) (.bool sz))
    clear q0 q1 q2 q3 z0 z1 z2 z3 x0 x1 x2 x3
    go_upto_region 18 with fail
    generalize (((w5.setCell ⟨w.heap.size, 0, none⟩ (.int .i64 sm)).setCell ⟨w.heap.size, 1, none⟩ (sv st)).setCell ⟨w.heap.size, 2, none⟩ (sv sa)).setCell ⟨w.heap.size, 3, none⟩ (.bool sz) = w9 at *
    obtain ⟨⟨y0, y1, y2, y3⟩, -⟩ := qh HP0.out
    obtain ⟨⟨z0, z1, z2, z3⟩, x0, x1, x2, x3⟩ := qh HP1.out
    obtain ⟨⟨q0, q1, q2, q3⟩, -⟩ := qh HP2.out
    by_cases hm : sm = 15
    ·subst hm
     have HEE : Hid (r = St.bad) := by show _ = _; rw [<- HD.out, if_pos rfl]
     go_wp2
     exact bodyPost_ret (qp (m := 15) (t := []) (a := []) (z := false) results133 rfl (put4 HP1.out)) rfl ⟨by rw [HEE.out]; rfl, qq HPB.out (by omega) _ _ _ _⟩
    have nm : (sm == 15) = false := by simpa using hm
    rw [if_neg hm] at HD
    clear hm
    go_wp2
    go_roundw
    case rel => exact ⟨j + 1, ⟨sm, st, sa, sz⟩, by omega, by go_num, HP0.out, HP1.out, HP2.out, HFN.out, HD.out, HPB.out⟩
    case measure => simp [intOf]; omega
   rw [if_neg hss] at HD
   have HEE : Hid (r = St.bad) := HD.out.symm
   have hdd := zW hss
   clear hss
   go_wp2
   exact bodyPost_ret (qp (m := 15) (t := []) (a := []) (z := false) results133 rfl (put4 HQ1.out)) rfl ⟨by rw [HEE.out]; rfl, qq HQB.out (by omega) _ _ _ _⟩
  rw [Pt.ck1, if_neg (show ¬ (4 : Int) = 1 by decide), if_neg (show ¬ (4 : Int) = 2 by decide), if_pos (show (4 : Int) = 4 from rfl)] at HD
  generalize Pt.ck us ⟨cm, ct, ca, cz⟩ = s1 at *
  clear HCV
  go_wp2_with fail
  refine qU 5 (by kernel_rfl) (by kernel_rfl) (fun _ w => Below (World.heap wb).size wb w) KB (fun i => ([bIs (stV cm ct ca cz), bIs (.pointer (some ⟨wr.heap.size, 3, none⟩)), bIs (.slice Ap us.length cp), bIs (St.v s1), bIs (stV cm ct ca cz)] : List TyB).getD i bAny) ?hWbB2 ?hkeepB2 ?hstepB2 ?hfinbB2
  case hkeepB2 =>
   refine qg (qg (qg (qg (qg qG ?_) ?_) ?_) ?_) ?_
   all_goals exact qj
  case hstepB2 =>
   refine qg (qg (qg (qg (qg qG ?_) ?_) ?_) ?_) ?_
   all_goals (intro o ho m' a w1 hm' hW hb hd K Q hK; obtain rfl := Option.some.inj ho)
   ·(have e0 : a.tmps[2]?.getD undef = .pointer (some ⟨w.heap.size, 0, none⟩) := (by rw [hb 2 (by decide +kernel)]; simp); have hbl := (hW.block _ hz4).trans H0b.out; have q0 := cell_of_row w1 _ 0 _ _ _ hbl; have q1 := cell_of_row w1 _ 1 _ _ _ hbl; have q2 := cell_of_row w1 _ 2 _ _ _ hbl; have q3 := cell_of_row w1 _ 3 _ _ _ hbl; go_simp; exact hK _ _ hW (VY _) rfl)
   ·(have e0 : a.tmps[7]?.getD undef = .pointer (some ⟨wr.heap.size, 0, none⟩) := (by rw [hb 7 (by decide +kernel)]; simp); go_simp; exact hK _ _ hW (VY _) rfl)
   ·(have e0 := qo (hd 1 (by kernel_rfl) 47 rfl); have hcw := (hW.cell (p := ⟨wr.heap.size, 3, none⟩) hzb).trans HY3.out; go_simp; exact hK _ _ hW (VY _) rfl)
   ·(have e0 := qo (hd 0 (by kernel_rfl) 46 rfl); have e1 := qo (hd 2 (by kernel_rfl) 48 rfl); go_simp; refine (HCU.out _ hW).mono ?_; rintro e w2 ⟨rfl, hb2⟩; exact hK _ _ (qa3 hW hb2) hb2 rfl)
   (have e0 : a.tmps[2]?.getD undef = .pointer (some ⟨w.heap.size, 0, none⟩) := (by rw [hb 2 (by decide +kernel)]; simp); have hbl := (hW.block _ hz4).trans H0b.out; have q0 := cell_of_row w1 _ 0 _ _ _ hbl; have q1 := cell_of_row w1 _ 1 _ _ _ hbl; have q2 := cell_of_row w1 _ 2 _ _ _ hbl; have q3 := cell_of_row w1 _ 3 _ _ _ hbl; go_simp; exact hK _ _ hW (VY _) rfl)
  case hWbB2 => exact (Below.refl _ _).drew
  intro vs9 w3 hW hF
  simp only [qF, hdst, List.getElem?_cons_succ, List.getElem?_cons_zero, Option.bind, List.drop_succ_cons, List.drop_zero, Act.put]
  have h3 : vs9 3 = St.v s1 := hF 3 (by omega)
  have h7 : vs9 4 = stV cm ct ca cz := hF 4 (by omega)
  rw [h3, h7]
  have HPB := qb (qa3 HBb.out hW)
  have HP0 := qb (qi H0b.out hW)
  have HP1 := qb (qi H1b.out hW)
  have HP2 := qb (qi H2b.out hW)
  have hz5 := hW.size
  clear hF h3 h7 hW HCU y0 y1 y2 y3 p0 p1 p2 p3
  obtain ⟨sm, st, sa, sz⟩ := s1
  obtain ⟨⟨y0, y1, y2, y3⟩, p0, p1, p2, p3⟩ := qh HP0.out
  obtain ⟨⟨z0, z1, z2, z3⟩, x0, x1, x2, x3⟩ := qh HP1.out
  obtain ⟨⟨q0, q1, q2, q3⟩, -⟩ := qh HP2.out
  go_simp
  by_cases hss : (⟨sm, st, sa, sz⟩ : St) = ⟨cm, ct, ca, cz⟩
  ·rw [if_pos hss] at HD
   have hdd := zV hss
   clear hss
   have HFN := qb HF.out
   dsimp only at HD
   by_cases hm : cm = 15
   ·subst hm
    have HEE : Hid (r = St.bad) := by show _ = _; rw [<- HD.out, if_pos rfl]
    go_wp2
    exact bodyPost_ret (qp (m := 15) (t := []) (a := []) (z := false) results133 rfl (put4 HP1.out)) rfl ⟨by rw [HEE.out]; rfl, qq HPB.out (by omega) _ _ _ _⟩
   have nm : (cm == 15) = false := by simpa using hm
   rw [if_neg hm] at HD
   clear hm
   go_wp2
   go_roundw
   case rel => exact ⟨j + 1, ⟨cm, ct, ca, cz⟩, by omega, by go_num, HP0.out, HP1.out, HP2.out, HFN.out, HD.out, HPB.out⟩
   case measure => simp [intOf]; omega
  rw [if_neg hss] at HD
  have HEE : Hid (r = St.bad) := HD.out.symm
  have hdd := zW hss
  clear hss
  go_wp2
  exact bodyPost_ret (qp (m := 15) (t := []) (a := []) (z := false) results133 rfl (put4 HP1.out)) rfl ⟨by rw [HEE.out]; rfl, qq HPB.out (by omega) _ _ _ _⟩
 have HEE : Hid (r = ⟨cm, ct, ca, cz⟩) := by show _ = _; rw [<- HD.out, Zh hlt]
 obtain ⟨⟨y0, y1, y2, y3⟩, -⟩ := qh H0.out
 obtain ⟨⟨z0, z1, z2, z3⟩, x0, x1, x2, x3⟩ := qh H1.out
 go_wp2
 exact bodyPost_ret (qp (m := cm) (t := ct) (a := ca) (z := cz) results133 rfl (put4 H1.out)) rfl ⟨by rw [HEE.out], qq HB.out (by omega) _ _ _ _⟩
theorem vP (d : Nat) : CkC 133 d := by
 induction d with
 | zero => exact vO 0 fun d' h => by omega
 | succ d ih => exact vO (d + 1) fun d' h => by obtain rfl : d = d' := (by omega); exact ih
end Go.Proofs.YtmboieajfdkllaaGreat
