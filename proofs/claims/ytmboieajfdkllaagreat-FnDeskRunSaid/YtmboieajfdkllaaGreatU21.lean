import Derived.Test.YtmboieajfdkllaaGreatU07
import Derived.Test.YtmboieajfdkllaaGreatU09
import Derived.Test.YtmboieajfdkllaaGreatU18
import Derived.Test.YtmboieajfdkllaaGreatU19
set_option maxHeartbeats 8000000
set_option maxRecDepth 100000
open Go.Proofs.Tryz
namespace Go.Proofs.YtmboieajfdkllaaGreat
open Go.RowKit Go.Deep
theorem pow5_le {d : Nat} (h : d <= 3) : 5 ^ d <= 125 := by
 rcases (show d = 0 \/ d = 1 \/ d = 2 \/ d = 3 by omega) with rfl | rfl | rfl | rfl <;> decide
theorem yW {E : Pt.EscF} (hE : Pt.Short E) {xs : List Pt} {d : Nat} {p : Bool} (h : Pt.oks xs d p = true) (hd : d <= 3) (hs : xs.length + Pt.sizes xs <= 1048576) (fs : List Fd) (s : St) (hg : Fd.Goods fs) : (Pt.sl E xs fs s).length <= 200000000000 := by
 have h1 := Pt.sl_len hE h fs s hg
 have h2 := Pt.manys_size (xs := xs) (fun x _ => Pt.many_size x)
 have h3 : 800 * Pt.manys xs * 5 ^ d <= 800 * 1048576 * 125 := Nat.mul_le_mul (Nat.mul_le_mul_left _ (by omega)) (pow5_le hd)
 omega
def SfC (E : Pt.EscF) (args : Value -> Value -> Value -> Array Value) (f : FuncId) (d : Nat) : Prop := ∀ (xs : List Pt) (p : Bool) (m : Int) (t a : Tx) (z : Bool) (Ap : Option Addr) (cp : Nat) (fs : List Fd) (Ad : Option Addr) (cd : Nat) (w : World), xs.length <= cp -> Pt.oks xs d p = true -> RdP w (All w) Ap xs -> RdF w (All w) Ad fs -> xs.length + Pt.sizes xs <= 1048576 -> Fd.Goods fs -> fs.length + d <= 20 -> St.Fit ⟨m, t, a, z⟩ →
  Calls Tryz.prog f (args (stV m t a z) (.slice Ap xs.length cp) (.slice Ad fs.length cd)) w fun e w' => e = .returned (sv (Pt.sl E xs fs ⟨m, t, a, z⟩)) /\ Below w.heap.size w w'
theorem RdP.one {w : World} {S : Nat -> Prop} {b o : Nat} {xs : List Pt} (h : RdP w S (some ⟨b, o, none⟩) xs) {k : Nat} (hk : k < xs.length) : RdP w S (some ⟨b, o + k * 5, none⟩) [xs[k]] := fun _ => by
 obtain ⟨b', o', e, hb, hin⟩ := h (by intro e; rw [e] at hk; simp at hk)
 injection e with e
 injection e with e1 e2
 subst e1; subst e2
 obtain ⟨v, h1, h2⟩ := hin.get k hk
 exact ⟨b, o + k * 5, rfl, hb, by simp only [InPs]; exact ⟨⟨v, h1, h2⟩, trivial⟩⟩
def bRdF (xs : List Fd) : TyB := fun w v => ∃ A c, v = .slice A xs.length c /\ RdF w (All w) A xs
theorem yX {xs : List Fd} : ∀ w w' v, KB w w' -> bRdF xs w v -> bRdF xs w' v := fun _ _ _ hk ⟨A, c, e, h⟩ => ⟨A, c, e, h.now hk⟩
theorem yY {w : World} {xs : List Fd} {e : Ending} {w' : World} (h : NewW w (All w) xs e w') : ∃ A c, e = .returned (.slice A xs.length c) /\ RdF w' (All w') A xs /\ Below w.heap.size w w' := by
 obtain ⟨A, c, rs, he, ho, hel, hb⟩ := h
 refine ⟨A, c, by rw [he, hel.1], (hel.keep (fun _ _ => rfl) (fun b h => Nat.lt_of_lt_of_le h hb.size) : ElsF w' (All w') rs xs).rdF ho (fun b h => (ho.lt b h).2), hb⟩
theorem RdIn.at {w : World} {S : Nat -> Prop} {A : Option Addr} {is : List Tx} (h : RdIn w S A (qS is)) {q : Nat} (hq : q < is.length) : ∃ b o, A = some ⟨b, o, none⟩ /\ S b /\ w.cell? ⟨b, o + q, none⟩ = some (sv is[q]) := by
 obtain ⟨b, o, e, hb, hc⟩ := h (by intro e; have := congrArg List.length e; simp at this; rw [this] at hq; simp at hq)
 exact ⟨b, o, e, hb, hc q _ (by simp [hq])⟩
theorem yZ (d : Nat) (hd3 : d <= 3) (ih : ∀ d', d = d' + 1 -> SfC Pt.plainE (fun _ x y => #[x, y]) 85 d') : SfC Pt.plainE (fun _ x y => #[x, y]) 85 d := by
 intro xs p m t a z Ap cp fs Ad cd w hcap ho hx hfx hs hg hn hft
 have HO := qb (jY ho)
 have HX := qb hx
 have HF := qb hfx
 have HG := qb hg
 have IH := qb ih
 have HSZ := qb hs
 have hxl : xs.length <= 1048576 := by omega
 have HTL := qb (yW Pt.short_plain ho hd3 hs fs ⟨m, t, a, z⟩ hg)
 obtain ⟨T, hT⟩ : ∃ T, T = Pt.sl Pt.plainE xs fs ⟨m, t, a, z⟩ := ⟨_, rfl⟩
 rw [<- hT] at HTL ⊢
 have HT0 := qb hT.symm
 have HFT := qb hft
 clear ho hx hfx hg ih hs hT hft
 go_enter func85, ntmps85
 go_wp2
 go_loopw [5, 6] (fun o i wr => ∃ (j : Nat) (s : St) (D : Tx), j <= xs.length /\ i = .int .i64 j /\ o = sv D /\ St.Fit s /\ D ++ Pt.sl Pt.plainE (xs.drop j) fs s = T /\ Below w.heap.size w wr) (fun _ i _ => xs.length - (intOf i).toNat)
 case atStart => exact ⟨0, ⟨m, t, a, z⟩, [], Nat.zero_le _, rfl, rfl, HFT.out, by rw [List.drop_zero, List.nil_append]; exact HT0.out, Below.refl _ _⟩
 obtain ⟨j, ⟨cm, ct, ca, cz⟩, D, hj, rfl, rfl, hsf, hT, hb⟩ := hrel
 have HSF := qb hsf
 have HT := qb hT
 clear hT hsf
 have HB := qb hb
 clear hb
 by_cases hlt : j < xs.length
 case neg =>
  have HEE : Hid (D = T) := by show _ = _; rw [<- HT.out, Pt.sl_end hlt, List.append_nil]
  go_wp2
  go_ret
  exact ⟨qM HEE.out, HB.out⟩
 obtain ⟨b1, o1, rfl, hb1, kd, tt, nn, us, vs, Ap1, cp1, Ao, co, hxj, k1, k2, k3, k4, c0, c1, c2, c3, c4⟩ := (HX.out.now HB.out).at2 hlt
 have hmem : Pt.mk kd tt nn us vs ∈ xs := by rw [<- hxj]; exact List.getElem_mem hlt
 have hok := HO.out _ hmem
 have hsm := Pt.size_mem hmem
 have hst := Pt.sl_step (E := Pt.plainE) hlt fs ⟨cm, ct, ca, cz⟩
 rw [hxj] at hst
 have htt := HT.out
 rw [hst, <- List.append_assoc] at htt
 have hLE : D.length + (Pt.sl1 Pt.plainE (.mk kd tt nn us vs) fs ⟨cm, ct, ca, cz⟩).length <= 200000000000 := by
  have := HTL.out
  rw [<- htt, List.length_append, List.length_append] at this
  omega
 have HT2 := qb htt
 have HFN := qb (Pt.fit_ck [.mk kd tt nn us vs] ⟨cm, ct, ca, cz⟩ HSF.out)
 have HR1 := qb ((HX.out.now HB.out).one hlt)
 rw [hxj] at HR1
 clear hst htt hmem hxj HT
 simp only [Pt.size] at hsm
 have HOK := qb hok
 rw [Pt.ok] at hok
 have HBX := qb (heap_alloc_new wr (.cells (qD kd tt nn Ap1 us.length cp1 Ao vs.length co) 115))
 have hBA := (Below.refl wr.heap.size wr).alloc (Nat.le_refl _) (.cells (qD kd tt nn Ap1 us.length cp1 Ao vs.length co) 115)
 have HBA := qb hBA
 have hzb : wr.heap.size < (wr.alloc (.cells (qD kd tt nn Ap1 us.length cp1 Ao vs.length co) 115)).heap.size := by simp
 have HU := qb (k3.now hBA)
 have HV := qb (k4.now hBA)
 have HFD := qb (yP fs nn Ad cd _ ((HF.out.now HB.out).now hBA) (by omega))
 have HK1 := qb k1
 have HK2 := qb k2
 clear k1 k2 k3 k4 hBA
 go_upto_region 6 with fail
 generalize wr.alloc (.cells (qD kd tt nn Ap1 us.length cp1 Ao vs.length co) 115) = wb at *
 obtain ⟨⟨f0, f1, f2, f3, f4⟩, -⟩ := qI HBX.out
 have HBb := qb (HB.out.trans (HBA.out.mono (by have := HB.out.size; omega)))
 clear c0 c1 c2 c3 c4
 go_wp2_with fail
 refine HFD.out.mono ?_
 rintro e w2 ⟨⟨nm, Ai, ci, rfl, hri, hci⟩, hb⟩
 have hbx := hb.alloc hb.size (.cells (qC nm (Fd.get fs nn).text (Fd.get fs nn).holds Ai (Fd.get fs nn).items.length ci) 62)
 have HBX2 := qb hbx
 have HRI := qb (hri.keep (fun p hp => hbx.cell hp) (fun b h => Nat.lt_of_lt_of_le h hbx.size) : RdIn _ (All _) Ai (qS (Fd.get fs nn).items))
 have HQF := qb (heap_alloc_new w2 (.cells (qC nm (Fd.get fs nn).text (Fd.get fs nn).holds Ai (Fd.get fs nn).items.length ci) 62))
 have HGD := qb (Fd.good_get HG.out nn)
 have hz5 := hb.size
 have hz6 : w2.heap.size < (w2.alloc (.cells (qC nm (Fd.get fs nn).text (Fd.get fs nn).holds Ai (Fd.get fs nn).items.length ci) 62)).heap.size := by simp
 generalize hff : Fd.get fs nn = ff at *
 obtain ⟨fn, ft, fh, is⟩ := ff
 dsimp only at HBX2 HRI HQF hz6 hci hbx ⊢
 clear hb hri hbx f0 f1 f2 f3 f4
 go_upto_region 7 with fail
 generalize w2.alloc (.cells (qC nm ft fh Ai is.length ci) 62) = wc at *
 have HPC := qb (qi HBX.out HBX2.out)
 obtain ⟨⟨f0, f1, f2, f3, f4⟩, -⟩ := qI HPC.out
 obtain ⟨⟨g0, g1, g2, g3⟩, -⟩ := qh HQF.out
 have HBc := qb (qa3 HBb.out HBX2.out)
 have HBrc := qb (qa3 HBA.out HBX2.out)
 have hzc : wr.heap.size < wc.heap.size := Nat.lt_of_lt_of_le hzb HBX2.out.size
 rw [Pt.sl1] at HT2 hLE
 rw [hff] at HT2 hLE
 dsimp only at HT2 hLE
 have HFG : Hid (Fd.good ⟨fn, ft, fh, is⟩ = true) := HGD.out
 clear HGD HFD
 by_cases e1 : kd = 1
 ·subst e1
  rw [if_pos rfl] at HT2 hLE
  have hsum : (9223372036854775807 < D.length + tt.length) = False := by rw [eq_iff_iff, iff_false]; omega
  go_wp2
  go_roundw
  case rel => exact ⟨j + 1, _, _, by omega, by go_num, rfl, HFN.out, HT2.out, HBc.out⟩
  case measure => simp [intOf]; omega
 rw [if_neg e1] at hok HT2 hLE
 by_cases e2 : kd = 2
 ·subst e2
  rw [if_pos rfl] at HT2 hLE
  unfold Pt.plainE at hLE
  have hsum : (9223372036854775807 < D.length + ft.length) = False := by rw [eq_iff_iff, iff_false]; omega
  go_wp2
  go_roundw
  case rel => exact ⟨j + 1, _, _, by omega, by go_num, rfl, HFN.out, HT2.out, HBc.out⟩
  case measure => simp [intOf]; omega
 rw [if_neg e2] at hok HT2 hLE
 by_cases e34 : kd = 3 \/ kd = 4
 case neg => rw [if_neg e34] at hok; cases hok
 rw [if_pos e34] at hok
 simp only [Bool.and_eq_true] at hok
 obtain ⟨-, -, hv4, hd0, hou, hov⟩ := hok
 obtain ⟨d', rfl⟩ : ∃ d', d = d' + 1 := ⟨d - 1, by have := of_decide_eq_true hd0; omega⟩
 clear hd0
 rw [Nat.add_sub_cancel] at hou hov
 have hsu : us.length + Pt.sizes us <= 1048576 := by have := HSZ.out; omega
 have hsv : vs.length + Pt.sizes vs <= 1048576 := by have := HSZ.out; omega
 have HUc := qb (HU.out.now HBX2.out)
 have HVc := qb (HV.out.now HBX2.out)
 have HFc := qb ((HF.out.now HB.out).now HBrc.out)
 have hwc : w.heap.size <= wr.heap.size := HB.out.size
 rcases e34 with rfl | rfl
 ·rw [if_neg (show ¬ (3 : Int) = 4 by decide)] at HT2 hLE
  cases fh
  ·rw [if_neg (by decide)] at HT2 hLE
   have HCV := qb (IH.out d' rfl vs false cm ct ca cz Ao co fs Ad cd wc HK2.out hov HVc.out HFc.out hsv HG.out (by omega) HSF.out)
   go_wp2_with fail
   refine HCV.out.mono ?_
   rintro e w4 ⟨rfl, hb⟩
   have HB4 := qb (qa3 HBc.out hb)
   clear hb
   generalize Pt.sl Pt.plainE vs fs ⟨cm, ct, ca, cz⟩ = V at *
   have hsum : (9223372036854775807 < D.length + V.length) = False := by rw [eq_iff_iff, iff_false]; omega
   go_wp2
   go_roundw
   case rel => exact ⟨j + 1, _, _, by omega, by go_num, rfl, HFN.out, HT2.out, HB4.out⟩
   case measure => simp [intOf]; omega
  rw [if_pos rfl] at HT2 hLE
  have HCU := qb (IH.out d' rfl us false cm ct ca cz Ap1 cp1 fs Ad cd wc HK1.out hou HUc.out HFc.out hsu HG.out (by omega) HSF.out)
  go_wp2_with fail
  refine HCU.out.mono ?_
  rintro e w4 ⟨rfl, hb⟩
  have HB4 := qb (qa3 HBc.out hb)
  clear hb
  generalize Pt.sl Pt.plainE us fs ⟨cm, ct, ca, cz⟩ = V at *
  have hsum : (9223372036854775807 < D.length + V.length) = False := by rw [eq_iff_iff, iff_false]; omega
  go_wp2
  go_roundw
  case rel => exact ⟨j + 1, _, _, by omega, by go_num, rfl, HFN.out, HT2.out, HB4.out⟩
  case measure => simp [intOf]; omega
 rw [if_pos rfl] at HT2 hLE
 have HIT := qb (Fd.good_items HFG.out)
 have HF3 := qb f3
 have HG3 := qb g3
 have hil : is.length <= 5 := HIT.out.1
 obtain ⟨F, hF0⟩ : ∃ F : Tx -> Tx, F = fun it => Pt.sl Pt.plainE us (Fd.withI fs it) ⟨cm, ct, ca, cz⟩ := ⟨_, rfl⟩
 rw [<- hF0] at HT2 hLE
 have HFE : Hid (∀ it, F it = Pt.sl Pt.plainE us (Fd.withI fs it) ⟨cm, ct, ca, cz⟩) := fun it => by rw [hF0]
 clear hF0 hov f1 f2 f3 f4 g0 g1 g2
 go_wp2
 generalize wr = wo at *
 go_loopw [5, 9] (fun o i wq => ∃ (q : Nat), q <= is.length /\ i = .int .i64 q /\ o = sv (D ++ cat F (is.take q)) /\ Below wc.heap.size wc wq) (fun _ i _ => is.length - (intOf i).toNat)
 case atStart => exact ⟨0, Nat.zero_le _, rfl, by rw [List.take_zero]; simp [cat], Below.refl _ _⟩
 obtain ⟨q, hq, rfl, rfl, hb⟩ := hrel
 have HBq := qb hb
 have HQ3 := qb ((hb.cell (p := ⟨w2.heap.size, 3, none⟩) hz6).trans HG3.out)
 have HP3 := qb ((hb.cell (p := ⟨wo.heap.size, 3, none⟩) hzc).trans HF3.out)
 have hzq := hb.size
 have g3 := HQ3.out
 have hz7 : w2.heap.size < wr.heap.size := by omega
 have hz8 : wo.heap.size < wr.heap.size := by omega
 clear hb
 by_cases hqi : q < is.length
 ·obtain ⟨bi, oi, hAi, hbi, hci2⟩ := (HRI.out.keep (fun p hp => HBq.out.cell hp) (fun b h => Nat.lt_of_lt_of_le h HBq.out.size) : RdIn wr (All wr) Ai (qS is)).at hqi
  have HCI := qb hci2
  have HVI := qb (HIT.out.2 _ (List.getElem_mem hqi))
  have hct := kb F is q hqi
  have hcl := kc F is (q + 1)
  rw [hct, List.length_append] at hcl
  have HCT := qb hct
  have HWI := qb (fun w5 (hb : Below wr.heap.size wr w5) => (yR fs is[q] Ad cd (All w5) w5 (fun _ h => h) ((HFc.out.now HBq.out).now hb) (by omega)).mono fun e w' h => yY h)
  have HIF := qb (fun A c w5 (hb : Below wr.heap.size wr w5) (hr : RdF w5 (All w5) A (Fd.withI fs is[q])) => IH.out d' rfl us false cm ct ca cz Ap1 cp1 (Fd.withI fs is[q]) A c w5 HK1.out hou ((HUc.out.now HBq.out).now hb) hr hsu (Fd.goods_with HG.out HVI.out) (by have := Fd.with_len fs is[q]; omega) HSF.out)
  rw [<- HFE.out is[q]] at HIF
  generalize F is[q] = X at *
  generalize is[q] = it at *
  generalize hDD : D ++ cat F (is.take q) = DD at *
  have HDD := qb hDD
  have hdl : DD.length + X.length <= 200000000000 := by rw [<- hDD, List.length_append]; omega
  subst hAi
  clear hci2 hct hcl hDD
  go_wp2_with fail
  refine qU 12 (by kernel_rfl) (by kernel_rfl) (fun _ w => Below (World.heap wr).size wr w) KB (fun i => ([bIs (sv DD), bIs (.pointer (some ⟨wo.heap.size, 3, none⟩)), bIs (.slice Ap1 us.length cp1), bIs (.slice Ad fs.length cd), bIs (.pointer (some ⟨w2.heap.size, 3, none⟩)), bIs (.slice (some ⟨bi, oi, none⟩) is.length ci), bIs (.int .i64 (q : Int)), bIs (.pointer (some ⟨bi, oi + q, none⟩)), bIs (sv it), bRdF (Fd.withI fs it), bIs (sv X), bIs (sv (DD ++ X))] : List TyB).getD i bAny) ?hWbB1 ?hkeepB1 ?hstepB1 ?hfinbB1
  case hkeepB1 =>
   refine qg (qg (qg (qg (qg (qg (qg (qg (qg (qg (qg (qg qG ?_) ?_) ?_) ?_) ?_) ?_) ?_) ?_) ?_) ?_) ?_) ?_
   ·exact qj
   ·exact qj
   ·exact qj
   ·exact qj
   ·exact qj
   ·exact qj
   ·exact qj
   ·exact qj
   ·exact qj
   ·exact yX
   all_goals exact qj
  case hstepB1 =>
   refine qg (qg (qg (qg (qg (qg (qg (qg (qg (qg (qg (qg qG ?_) ?_) ?_) ?_) ?_) ?_) ?_) ?_) ?_) ?_) ?_) ?_
   all_goals (intro o ho m' a w1 hm' hW hb hd K Q hK; obtain rfl := Option.some.inj ho)
   ·(have e0 : a.tmps[5]?.getD undef = (sv DD) := (by rw [hb 5 (by decide +kernel)]; simp); go_simp; exact hK _ _ hW (VY _) rfl)
   ·(have e0 : a.tmps[7]?.getD undef = .pointer (some ⟨wo.heap.size, 0, none⟩) := (by rw [hb 7 (by decide +kernel)]; simp); go_simp; exact hK _ _ hW (VY _) rfl)
   ·(have e0 := qo (hd 1 (by kernel_rfl) 62 rfl); have hcw := (hW.cell (p := ⟨wo.heap.size, 3, none⟩) hz8).trans HP3.out; go_simp; exact hK _ _ hW (VY _) rfl)
   ·(have e0 : a.tmps[1]?.getD undef = (.slice Ad fs.length cd) := (by rw [hb 1 (by decide +kernel)]; simp); go_simp; exact hK _ _ hW (VY _) rfl)
   ·(have e0 : a.tmps[8]?.getD undef = .pointer (some ⟨w2.heap.size, 0, none⟩) := (by rw [hb 8 (by decide +kernel)]; simp); go_simp; exact hK _ _ hW (VY _) rfl)
   ·(have e0 := qo (hd 4 (by kernel_rfl) 65 rfl); have hcw := (hW.cell (p := ⟨w2.heap.size, 3, none⟩) hz7).trans HQ3.out; go_simp; exact hK _ _ hW (VY _) rfl)
   ·(have e0 : a.tmps[9]?.getD undef = (.int .i64 (q : Int)) := (by rw [hb 9 (by decide +kernel)]; simp); go_simp; exact hK _ _ hW (VY _) rfl)
   ·(have e0 := qo (hd 5 (by kernel_rfl) 66 rfl); have e1 := qo (hd 6 (by kernel_rfl) 67 rfl); go_simp; exact hK _ _ hW (VY _) rfl)
   ·(have e0 := qo (hd 7 (by kernel_rfl) 68 rfl); have hcw := (hW.cell (p := ⟨bi, oi + q, none⟩) hbi).trans HCI.out; go_simp; exact hK _ _ hW (VY _) rfl)
   ·(have e0 := qo (hd 3 (by kernel_rfl) 64 rfl); have e1 := qo (hd 8 (by kernel_rfl) 69 rfl); go_simp; refine (HWI.out _ hW).mono ?_; rintro e w2 ⟨A9, c9, rfl, hr9, hb2⟩; exact hK _ _ (qa3 hW hb2) hb2 ⟨A9, c9, rfl, hr9⟩)
   ·(have e0 := qo (hd 2 (by kernel_rfl) 63 rfl); obtain ⟨A9, c9, e9, h9⟩ := (hd 9 (by kernel_rfl) 70 rfl); have e9 := qo e9; go_simp; refine (HIF.out _ _ _ hW h9).mono ?_; rintro e w2 ⟨rfl, hb2⟩; exact hK _ _ (qa3 hW hb2) hb2 rfl)
   (have e0 := qo (hd 0 (by kernel_rfl) 61 rfl); have e1 := qo (hd 10 (by kernel_rfl) 71 rfl); go_simp; rw [if_neg (by (try simp only [List.length_append, List.length_cons, List.length_nil]); omega)]; go_simp; exact hK _ _ hW (VY _) rfl)
  case hWbB1 => exact (Below.refl _ _).drew
  intro vs9 w6 hW hF
  simp only [qF, hdst, List.getElem?_cons_succ, List.getElem?_cons_zero, Option.bind, List.drop_succ_cons, List.drop_zero, Act.put]
  have h9 : vs9 11 = sv (DD ++ X) := hF 11 (by omega)
  rw [h9]
  have HB6 := qb (qa3 HBq.out hW)
  clear hF h9 hW HWI HIF g3
  go_simp
  go_wp2
  go_roundw
  case rel => exact ⟨q + 1, by omega, by go_num, congrArg sv (by rw [HCT.out, <- HDD.out, List.append_assoc]), HB6.out⟩
  case measure => simp [intOf]; omega
 have HEE : Hid (is.take q = is) := by show _ = _; exact List.take_of_length_le (by omega)
 rw [HEE.out]
 have HBB := qb (qa3 HBc.out HBq.out)
 go_wp2
 go_roundw
 case rel => exact ⟨j + 1, _, _, by omega, by go_num, rfl, HFN.out, HT2.out, HBB.out⟩
 case measure => simp [intOf]; omega
theorem Xp (d : Nat) : d <= 3 -> SfC Pt.plainE (fun _ x y => #[x, y]) 85 d := by
 induction d with
 | zero => exact fun h3 => yZ 0 h3 fun d' h => by omega
 | succ d ih => exact fun h3 => yZ (d + 1) h3 fun d' h => by obtain rfl : d = d' := (by omega); exact ih (by omega)
theorem Za (d : Nat) (hd3 : d <= 3) (ih : ∀ d', d = d' + 1 -> SfC Pt.safeE (fun s x y => #[s, x, y]) 84 d') : SfC Pt.safeE (fun s x y => #[s, x, y]) 84 d := by
 intro xs p m t a z Ap cp fs Ad cd w hcap ho hx hfx hs hg hn hft
 have HO := qb (jY ho)
 have HX := qb hx
 have HF := qb hfx
 have HG := qb hg
 have IH := qb ih
 have HSZ := qb hs
 have hxl : xs.length <= 1048576 := by omega
 have HTL := qb (yW Pt.short_safe ho hd3 hs fs ⟨m, t, a, z⟩ hg)
 obtain ⟨T, hT⟩ : ∃ T, T = Pt.sl Pt.safeE xs fs ⟨m, t, a, z⟩ := ⟨_, rfl⟩
 rw [<- hT] at HTL ⊢
 have HT0 := qb hT.symm
 have HFT := qb hft
 clear ho hx hfx hg ih hs hT hft
 go_enter func84, ntmps84
 go_wp2
 go_loopw [7, 8] (fun o i wr => ∃ (j : Nat) (s : St) (D : Tx), j <= xs.length /\ i = .int .i64 j /\ o = sv D /\ wr.heap[w.heap.size]? = some (.cells (ql s.mode s.tag s.attr s.seen) 90 (0, 0)) /\ St.Fit s /\ D ++ Pt.sl Pt.safeE (xs.drop j) fs s = T /\ Below w.heap.size w wr) (fun _ i _ => xs.length - (intOf i).toNat)
 case atStart => exact ⟨0, ⟨m, t, a, z⟩, [], Nat.zero_le _, rfl, rfl, heap_alloc_new w _, HFT.out, by rw [List.drop_zero, List.nil_append]; exact HT0.out, (Below.refl _ _).alloc (Nat.le_refl _) _⟩
 obtain ⟨j, ⟨cm, ct, ca, cz⟩, D, hj, rfl, rfl, h0, hsf, hT, hb⟩ := hrel
 dsimp only at h0
 have H0 := qb h0
 have hz0 : w.heap.size < wr.heap.size := lt_of_block h0
 have HSF := qb hsf
 have HT := qb hT
 clear hT hsf h0
 have HB := qb hb
 clear hb
 by_cases hlt : j < xs.length
 case neg =>
  have HEE : Hid (D = T) := by show _ = _; rw [<- HT.out, Pt.sl_end hlt, List.append_nil]
  go_wp2
  go_ret
  exact ⟨qM HEE.out, HB.out⟩
 obtain ⟨b1, o1, rfl, hb1, kd, tt, nn, us, vs, Ap1, cp1, Ao, co, hxj, k1, k2, k3, k4, c0, c1, c2, c3, c4⟩ := (HX.out.now HB.out).at2 hlt
 have hmem : Pt.mk kd tt nn us vs ∈ xs := by rw [<- hxj]; exact List.getElem_mem hlt
 have hok := HO.out _ hmem
 have hsm := Pt.size_mem hmem
 have hst := Pt.sl_step (E := Pt.safeE) hlt fs ⟨cm, ct, ca, cz⟩
 rw [hxj] at hst
 have htt := HT.out
 rw [hst, <- List.append_assoc] at htt
 have hLE : D.length + (Pt.sl1 Pt.safeE (.mk kd tt nn us vs) fs ⟨cm, ct, ca, cz⟩).length <= 200000000000 := by
  have := HTL.out
  rw [<- htt, List.length_append, List.length_append] at this
  omega
 have HT2 := qb htt
 have HFN := qb (Pt.fit_ck [.mk kd tt nn us vs] ⟨cm, ct, ca, cz⟩ HSF.out)
 have HR1 := qb ((HX.out.now HB.out).one hlt)
 rw [hxj] at HR1
 clear hst htt hmem hxj HT
 simp only [Pt.size] at hsm
 have HOK := qb hok
 rw [Pt.ok] at hok
 have HBX := qb (heap_alloc_new wr (.cells (qD kd tt nn Ap1 us.length cp1 Ao vs.length co) 115))
 have hBA := (Below.refl wr.heap.size wr).alloc (Nat.le_refl _) (.cells (qD kd tt nn Ap1 us.length cp1 Ao vs.length co) 115)
 have HBA := qb hBA
 have hzb : wr.heap.size < (wr.alloc (.cells (qD kd tt nn Ap1 us.length cp1 Ao vs.length co) 115)).heap.size := by simp
 have HU := qb (k3.now hBA)
 have HV := qb (k4.now hBA)
 have HFD := qb (yP fs nn Ad cd _ ((HF.out.now HB.out).now hBA) (by omega))
 have HK1 := qb k1
 have HK2 := qb k2
 clear k1 k2 k3 k4 hBA
 go_upto_region 6 with fail
 generalize wr.alloc (.cells (qD kd tt nn Ap1 us.length cp1 Ao vs.length co) 115) = wb at *
 obtain ⟨⟨f0, f1, f2, f3, f4⟩, -⟩ := qI HBX.out
 have HBb := qb (HB.out.trans (HBA.out.mono (by have := HB.out.size; omega)))
 clear c0 c1 c2 c3 c4
 go_wp2_with fail
 refine HFD.out.mono ?_
 rintro e w2 ⟨⟨nm, Ai, ci, rfl, hri, hci⟩, hb⟩
 have hbx := hb.alloc hb.size (.cells (qC nm (Fd.get fs nn).text (Fd.get fs nn).holds Ai (Fd.get fs nn).items.length ci) 62)
 have HBX2 := qb hbx
 have HRI := qb (hri.keep (fun p hp => hbx.cell hp) (fun b h => Nat.lt_of_lt_of_le h hbx.size) : RdIn _ (All _) Ai (qS (Fd.get fs nn).items))
 have HQF := qb (heap_alloc_new w2 (.cells (qC nm (Fd.get fs nn).text (Fd.get fs nn).holds Ai (Fd.get fs nn).items.length ci) 62))
 have HGD := qb (Fd.good_get HG.out nn)
 have hz5 := hb.size
 have hz6 : w2.heap.size < (w2.alloc (.cells (qC nm (Fd.get fs nn).text (Fd.get fs nn).holds Ai (Fd.get fs nn).items.length ci) 62)).heap.size := by simp
 generalize hff : Fd.get fs nn = ff at *
 obtain ⟨fn, ft, fh, is⟩ := ff
 dsimp only at HBX2 HRI HQF hz6 hci hbx ⊢
 clear hb hri hbx f0 f1 f2 f3 f4
 go_upto_region 7 with fail
 generalize w2.alloc (.cells (qC nm ft fh Ai is.length ci) 62) = wc at *
 have HPC := qb (qi HBX.out HBX2.out)
 obtain ⟨⟨f0, f1, f2, f3, f4⟩, -⟩ := qI HPC.out
 obtain ⟨⟨g0, g1, g2, g3⟩, -⟩ := qh HQF.out
 have HBc := qb (qa3 HBb.out HBX2.out)
 have HBrc := qb (qa3 HBA.out HBX2.out)
 have hzc : wr.heap.size < wc.heap.size := Nat.lt_of_lt_of_le hzb HBX2.out.size
 rw [Pt.sl1] at HT2 hLE
 rw [hff] at HT2 hLE
 dsimp only at HT2 hLE
 have HFG : Hid (Fd.good ⟨fn, ft, fh, is⟩ = true) := HGD.out
 clear HGD HFD
 have H0c := qb (qi (qi H0.out HBA.out) HBX2.out)
 have hz0c : w.heap.size < wc.heap.size := by omega
 have hzf : w2.heap.size < wc.heap.size := hz6
 have HKC0 := qb (fun w5 (hb : Below wc.heap.size wc w5) => vP d [.mk kd tt nn us vs] false cm ct ca cz (some ⟨b1, o1 + j * 5, none⟩) (cp - j) w5 (by simp only [Pt.oks]; rw [HOK.out]; rfl) ((HR1.out.now HBrc.out).now hb) (by simp only [Pt.sizes, Pt.size, List.length_cons, List.length_nil]; have := HSZ.out; omega) HSF.out)
 have hck : j < cp := by omega
 have hck1 : (j : Int) + 1 <= (cp : Int) := by omega
 have hck2 : (cp = j) = False := by rw [eq_iff_iff, iff_false]; omega
 have hck3 : (0 : Int) <= (j : Int) + 1 := by omega
 obtain ⟨⟨y0, y1, y2, y3⟩, p0, p1, p2, p3⟩ := qh H0c.out
 generalize Pt.ck [Pt.mk kd tt nn us vs] ⟨cm, ct, ca, cz⟩ = s2 at *
 obtain ⟨sm, st, sa, sz⟩ := s2
 by_cases e1 : kd = 1
 ·subst e1
  rw [if_pos rfl] at HT2 hLE
  have hsum : (9223372036854775807 < D.length + tt.length) = False := by rw [eq_iff_iff, iff_false]; omega
  go_upto_region 20 with fail
  have HX0 := qb (qi H0c.out (Below.refl wc.heap.size wc))
  have HXC := qb (Below.refl wc.heap.size wc)
  have HKC := qb (fun w5 (hb : Below wc.heap.size wc w5) => HKC0.out w5 (qa3 HXC.out hb))
  have HXB := qb HBc.out
  have hzx : w.heap.size < wc.heap.size := Nat.lt_of_lt_of_le hz0c HXC.out.size
  go_wp2_with fail
  refine qU 7 (by kernel_rfl) (by kernel_rfl) (fun _ w => Below (World.heap wc).size wc w) KB (fun i => ([bIs (stV cm ct ca cz), bIs (.slice (some ⟨b1, o1, none⟩) xs.length cp), bIs (.int .i64 (j : Int)), bIs (.int .i64 (j : Int)), bIs (.int .i64 ((j : Int) + 1)), bIs (.slice (some ⟨b1, o1 + j * 5, none⟩) 1 (cp - j)), bIs (St.v ⟨sm, st, sa, sz⟩)] : List TyB).getD i bAny) ?hWbB2 ?hkeepB2 ?hstepB2 ?hfinbB2
  case hkeepB2 =>
   refine qg (qg (qg (qg (qg (qg (qg qG ?_) ?_) ?_) ?_) ?_) ?_) ?_
   all_goals exact qj
  case hstepB2 =>
   refine qg (qg (qg (qg (qg (qg (qg qG ?_) ?_) ?_) ?_) ?_) ?_) ?_
   all_goals (intro o ho m' a w1 hm' hW hb hd K Q hK; obtain rfl := Option.some.inj ho)
   ·(have e0 : a.tmps[3]?.getD undef = .pointer (some ⟨w.heap.size, 0, none⟩) := (by rw [hb 3 (by decide +kernel)]; simp); have hbl := (hW.block _ hzx).trans HX0.out; have q0 := cell_of_row w1 _ 0 _ _ _ hbl; have q1 := cell_of_row w1 _ 1 _ _ _ hbl; have q2 := cell_of_row w1 _ 2 _ _ _ hbl; have q3 := cell_of_row w1 _ 3 _ _ _ hbl; go_simp; exact hK _ _ hW (VY _) rfl)
   ·(have e0 : a.tmps[1]?.getD undef = (.slice (some ⟨b1, o1, none⟩) xs.length cp) := (by rw [hb 1 (by decide +kernel)]; simp); go_simp; exact hK _ _ hW (VY _) rfl)
   ·(have e0 : a.tmps[8]?.getD undef = (.int .i64 (j : Int)) := (by rw [hb 8 (by decide +kernel)]; simp); go_simp; exact hK _ _ hW (VY _) rfl)
   ·(have e0 : a.tmps[8]?.getD undef = (.int .i64 (j : Int)) := (by rw [hb 8 (by decide +kernel)]; simp); go_simp; exact hK _ _ hW (VY _) rfl)
   ·(have e0 := qo (hd 3 (by kernel_rfl) 84 rfl); go_simp; exact hK _ _ hW (VY _) (show Value.int _ _ = Value.int _ _ from congrArg (Value.int _) (IntWalk.i64_in _ (by omega))))
   ·(have e0 := qo (hd 1 (by kernel_rfl) 82 rfl); have e1 := qo (hd 2 (by kernel_rfl) 83 rfl); have e2 := qo (hd 4 (by kernel_rfl) 85 rfl); go_simp; exact hK _ _ hW (VY _) rfl)
   (have e0 := qo (hd 0 (by kernel_rfl) 81 rfl); have e1 := qo (hd 5 (by kernel_rfl) 86 rfl); go_simp; refine (HKC.out _ hW).mono ?_; rintro e w2 ⟨rfl, hb2⟩; exact hK _ _ (qa3 hW hb2) hb2 rfl)
  case hWbB2 => exact (Below.refl _ _).drew
  intro vs9 w5 hW hF
  simp only [qF, hdst, List.getElem?_cons_succ, List.getElem?_cons_zero, Option.bind, List.drop_succ_cons, List.drop_zero, Act.put]
  have h9 : vs9 6 = St.v ⟨sm, st, sa, sz⟩ := hF 6 (by omega)
  rw [h9]
  have HB5 := qb (qa3 HXB.out hW)
  have hk5 := qi HX0.out hW
  have HK5 := qb hk5
  have hz5x : w.heap.size < w5.heap.size := Nat.lt_of_lt_of_le hzx hW.size
  obtain ⟨⟨y0, y1, y2, y3⟩, p0, p1, p2, p3⟩ := qh hk5
  clear hF h9 hW HKC hk5
  go_simp
  go_wp2
  go_roundw
  case rel => exact ⟨j + 1, ⟨sm, st, sa, sz⟩, _, by omega, by go_num, rfl, put4 HK5.out, HFN.out, HT2.out, qq HB5.out (Nat.le_refl _) _ _ _ _⟩
  case measure => simp [intOf]; omega
 rw [if_neg e1] at hok HT2 hLE
 by_cases e2 : kd = 2
 ·subst e2
  rw [if_pos rfl] at HT2 hLE
  have HG1 := qb g1
  have HPL := qb (fun w5 (hb : Below wc.heap.size wc w5) => ZK cm ct ca cz w5 (by have := HSF.out.1; dsimp only at this; omega) (by have := HSF.out.2; dsimp only at this; omega))
  have hfl : ft.length <= 40 := jE (Fd.good_text HFG.out)
  have HES := qb (fun w5 (hb : Below wc.heap.size wc w5) => JZ (St.place ⟨cm, ct, ca, cz⟩) ft (by omega) w5)
  unfold Pt.safeE at HT2 hLE
  generalize St.place ⟨cm, ct, ca, cz⟩ = pl at *
  generalize zP pl ft = X at *
  go_upto_region 14 with fail
  go_wp2_with fail
  refine qU 7 (by kernel_rfl) (by kernel_rfl) (fun _ w => Below (World.heap wc).size wc w) KB (fun i => ([bIs (sv D), bIs (stV cm ct ca cz), bIs (.int .i64 pl), bIs (.pointer (some ⟨w2.heap.size, 1, none⟩)), bIs (sv ft), bIs (sv X), bIs (sv (D ++ X))] : List TyB).getD i bAny) ?hWbB3 ?hkeepB3 ?hstepB3 ?hfinbB3
  case hkeepB3 =>
   refine qg (qg (qg (qg (qg (qg (qg qG ?_) ?_) ?_) ?_) ?_) ?_) ?_
   all_goals exact qj
  case hstepB3 =>
   refine qg (qg (qg (qg (qg (qg (qg qG ?_) ?_) ?_) ?_) ?_) ?_) ?_
   all_goals (intro o ho m' a w1 hm' hW hb hd K Q hK; obtain rfl := Option.some.inj ho)
   ·(have e0 : a.tmps[7]?.getD undef = (sv D) := (by rw [hb 7 (by decide +kernel)]; simp); go_simp; exact hK _ _ hW (VY _) rfl)
   ·(have e0 : a.tmps[3]?.getD undef = .pointer (some ⟨w.heap.size, 0, none⟩) := (by rw [hb 3 (by decide +kernel)]; simp); have hbl := (hW.block _ hz0c).trans H0c.out; have q0 := cell_of_row w1 _ 0 _ _ _ hbl; have q1 := cell_of_row w1 _ 1 _ _ _ hbl; have q2 := cell_of_row w1 _ 2 _ _ _ hbl; have q3 := cell_of_row w1 _ 3 _ _ _ hbl; go_simp; exact hK _ _ hW (VY _) rfl)
   ·(have e0 := qo (hd 1 (by kernel_rfl) 53 rfl); go_simp; refine (HPL.out _ hW).mono ?_; rintro e w2 ⟨rfl, hb2⟩; exact hK _ _ (qa3 hW hb2) hb2 rfl)
   ·(have e0 : a.tmps[10]?.getD undef = .pointer (some ⟨w2.heap.size, 0, none⟩) := (by rw [hb 10 (by decide +kernel)]; simp); go_simp; exact hK _ _ hW (VY _) rfl)
   ·(have e0 := qo (hd 3 (by kernel_rfl) 55 rfl); have hcw := (hW.cell (p := ⟨w2.heap.size, 1, none⟩) hzf).trans HG1.out; go_simp; exact hK _ _ hW (VY _) rfl)
   ·(have e0 := qo (hd 2 (by kernel_rfl) 54 rfl); have e1 := qo (hd 4 (by kernel_rfl) 56 rfl); go_simp; refine (HES.out _ hW).mono ?_; rintro e w2 ⟨rfl, hb2⟩; exact hK _ _ (qa3 hW hb2) hb2 rfl)
   (have e0 := qo (hd 0 (by kernel_rfl) 52 rfl); have e1 := qo (hd 5 (by kernel_rfl) 57 rfl); go_simp; rw [if_neg (by (try simp only [List.length_append, List.length_cons, List.length_nil]); omega)]; go_simp; exact hK _ _ hW (VY _) rfl)
  case hWbB3 => exact (Below.refl _ _).drew
  intro vs9 w4 hW hF
  simp only [qF, hdst, List.getElem?_cons_succ, List.getElem?_cons_zero, Option.bind, List.drop_succ_cons, List.drop_zero, Act.put]
  have h9 : vs9 6 = sv (D ++ X) := hF 6 (by omega)
  rw [h9]
  have HB4 := qb (qa3 HBc.out hW)
  have HC4 := qb hW
  clear hF h9 hW HPL HES
  go_simp
  go_upto_region 20 with fail
  have HX0 := qb (qi H0c.out HC4.out)
  have HXC := qb HC4.out
  have HKC := qb (fun w5 (hb : Below w4.heap.size w4 w5) => HKC0.out w5 (qa3 HXC.out hb))
  have HXB := qb HB4.out
  have hzx : w.heap.size < w4.heap.size := Nat.lt_of_lt_of_le hz0c HXC.out.size
  go_wp2_with fail
  refine qU 7 (by kernel_rfl) (by kernel_rfl) (fun _ w => Below (World.heap w4).size w4 w) KB (fun i => ([bIs (stV cm ct ca cz), bIs (.slice (some ⟨b1, o1, none⟩) xs.length cp), bIs (.int .i64 (j : Int)), bIs (.int .i64 (j : Int)), bIs (.int .i64 ((j : Int) + 1)), bIs (.slice (some ⟨b1, o1 + j * 5, none⟩) 1 (cp - j)), bIs (St.v ⟨sm, st, sa, sz⟩)] : List TyB).getD i bAny) ?hWbB4 ?hkeepB4 ?hstepB4 ?hfinbB4
  case hkeepB4 =>
   refine qg (qg (qg (qg (qg (qg (qg qG ?_) ?_) ?_) ?_) ?_) ?_) ?_
   all_goals exact qj
  case hstepB4 =>
   refine qg (qg (qg (qg (qg (qg (qg qG ?_) ?_) ?_) ?_) ?_) ?_) ?_
   all_goals (intro o ho m' a w1 hm' hW hb hd K Q hK; obtain rfl := Option.some.inj ho)
   ·(have e0 : a.tmps[3]?.getD undef = .pointer (some ⟨w.heap.size, 0, none⟩) := (by rw [hb 3 (by decide +kernel)]; simp); have hbl := (hW.block _ hzx).trans HX0.out; have q0 := cell_of_row w1 _ 0 _ _ _ hbl; have q1 := cell_of_row w1 _ 1 _ _ _ hbl; have q2 := cell_of_row w1 _ 2 _ _ _ hbl; have q3 := cell_of_row w1 _ 3 _ _ _ hbl; go_simp; exact hK _ _ hW (VY _) rfl)
   ·(have e0 : a.tmps[1]?.getD undef = (.slice (some ⟨b1, o1, none⟩) xs.length cp) := (by rw [hb 1 (by decide +kernel)]; simp); go_simp; exact hK _ _ hW (VY _) rfl)
   ·(have e0 : a.tmps[8]?.getD undef = (.int .i64 (j : Int)) := (by rw [hb 8 (by decide +kernel)]; simp); go_simp; exact hK _ _ hW (VY _) rfl)
   ·(have e0 : a.tmps[8]?.getD undef = (.int .i64 (j : Int)) := (by rw [hb 8 (by decide +kernel)]; simp); go_simp; exact hK _ _ hW (VY _) rfl)
   ·(have e0 := qo (hd 3 (by kernel_rfl) 84 rfl); go_simp; exact hK _ _ hW (VY _) (show Value.int _ _ = Value.int _ _ from congrArg (Value.int _) (IntWalk.i64_in _ (by omega))))
   ·(have e0 := qo (hd 1 (by kernel_rfl) 82 rfl); have e1 := qo (hd 2 (by kernel_rfl) 83 rfl); have e2 := qo (hd 4 (by kernel_rfl) 85 rfl); go_simp; exact hK _ _ hW (VY _) rfl)
   (have e0 := qo (hd 0 (by kernel_rfl) 81 rfl); have e1 := qo (hd 5 (by kernel_rfl) 86 rfl); go_simp; refine (HKC.out _ hW).mono ?_; rintro e w2 ⟨rfl, hb2⟩; exact hK _ _ (qa3 hW hb2) hb2 rfl)
  case hWbB4 => exact (Below.refl _ _).drew
  intro vs9 w5 hW hF
  simp only [qF, hdst, List.getElem?_cons_succ, List.getElem?_cons_zero, Option.bind, List.drop_succ_cons, List.drop_zero, Act.put]
  have h9 : vs9 6 = St.v ⟨sm, st, sa, sz⟩ := hF 6 (by omega)
  rw [h9]
  have HB5 := qb (qa3 HXB.out hW)
  have hk5 := qi HX0.out hW
  have HK5 := qb hk5
  have hz5x : w.heap.size < w5.heap.size := Nat.lt_of_lt_of_le hzx hW.size
  obtain ⟨⟨y0, y1, y2, y3⟩, p0, p1, p2, p3⟩ := qh hk5
  clear hF h9 hW HKC hk5
  go_simp
  go_wp2
  go_roundw
  case rel => exact ⟨j + 1, ⟨sm, st, sa, sz⟩, _, by omega, by go_num, rfl, put4 HK5.out, HFN.out, HT2.out, qq HB5.out (Nat.le_refl _) _ _ _ _⟩
  case measure => simp [intOf]; omega
 rw [if_neg e2] at hok HT2 hLE
 by_cases e34 : kd = 3 \/ kd = 4
 case neg => rw [if_neg e34] at hok; cases hok
 rw [if_pos e34] at hok
 simp only [Bool.and_eq_true] at hok
 obtain ⟨-, -, hv4, hd0, hou, hov⟩ := hok
 obtain ⟨d', rfl⟩ : ∃ d', d = d' + 1 := ⟨d - 1, by have := of_decide_eq_true hd0; omega⟩
 clear hd0
 rw [Nat.add_sub_cancel] at hou hov
 have hsu : us.length + Pt.sizes us <= 1048576 := by have := HSZ.out; omega
 have hsv : vs.length + Pt.sizes vs <= 1048576 := by have := HSZ.out; omega
 have HUc := qb (HU.out.now HBX2.out)
 have HVc := qb (HV.out.now HBX2.out)
 have HFc := qb ((HF.out.now HB.out).now HBrc.out)
 have hwc : w.heap.size <= wr.heap.size := HB.out.size
 rcases e34 with rfl | rfl
 ·rw [if_neg (show ¬ (3 : Int) = 4 by decide)] at HT2 hLE
  cases fh
  ·rw [if_neg (by decide)] at HT2 hLE
   have HCV := qb (IH.out d' rfl vs false cm ct ca cz Ao co fs Ad cd wc HK2.out hov HVc.out HFc.out hsv HG.out (by omega) HSF.out)
   go_wp2_with fail
   refine HCV.out.mono ?_
   rintro e w4 ⟨rfl, hb⟩
   have HB4 := qb (qa3 HBc.out hb)
   have HC4 := qb hb
   clear hb
   generalize Pt.sl Pt.safeE vs fs ⟨cm, ct, ca, cz⟩ = V at *
   have hsum : (9223372036854775807 < D.length + V.length) = False := by rw [eq_iff_iff, iff_false]; omega
   go_upto_region 20 with fail
   have HX0 := qb (qi H0c.out HC4.out)
   have HXC := qb HC4.out
   have HKC := qb (fun w5 (hb : Below w4.heap.size w4 w5) => HKC0.out w5 (qa3 HXC.out hb))
   have HXB := qb HB4.out
   have hzx : w.heap.size < w4.heap.size := Nat.lt_of_lt_of_le hz0c HXC.out.size
   go_wp2_with fail
   refine qU 7 (by kernel_rfl) (by kernel_rfl) (fun _ w => Below (World.heap w4).size w4 w) KB (fun i => ([bIs (stV cm ct ca cz), bIs (.slice (some ⟨b1, o1, none⟩) xs.length cp), bIs (.int .i64 (j : Int)), bIs (.int .i64 (j : Int)), bIs (.int .i64 ((j : Int) + 1)), bIs (.slice (some ⟨b1, o1 + j * 5, none⟩) 1 (cp - j)), bIs (St.v ⟨sm, st, sa, sz⟩)] : List TyB).getD i bAny) ?hWbB5 ?hkeepB5 ?hstepB5 ?hfinbB5
   case hkeepB5 =>
    refine qg (qg (qg (qg (qg (qg (qg qG ?_) ?_) ?_) ?_) ?_) ?_) ?_
    all_goals exact qj
   case hstepB5 =>
    refine qg (qg (qg (qg (qg (qg (qg qG ?_) ?_) ?_) ?_) ?_) ?_) ?_
    all_goals (intro o ho m' a w1 hm' hW hb hd K Q hK; obtain rfl := Option.some.inj ho)
    ·(have e0 : a.tmps[3]?.getD undef = .pointer (some ⟨w.heap.size, 0, none⟩) := (by rw [hb 3 (by decide +kernel)]; simp); have hbl := (hW.block _ hzx).trans HX0.out; have q0 := cell_of_row w1 _ 0 _ _ _ hbl; have q1 := cell_of_row w1 _ 1 _ _ _ hbl; have q2 := cell_of_row w1 _ 2 _ _ _ hbl; have q3 := cell_of_row w1 _ 3 _ _ _ hbl; go_simp; exact hK _ _ hW (VY _) rfl)
    ·(have e0 : a.tmps[1]?.getD undef = (.slice (some ⟨b1, o1, none⟩) xs.length cp) := (by rw [hb 1 (by decide +kernel)]; simp); go_simp; exact hK _ _ hW (VY _) rfl)
    ·(have e0 : a.tmps[8]?.getD undef = (.int .i64 (j : Int)) := (by rw [hb 8 (by decide +kernel)]; simp); go_simp; exact hK _ _ hW (VY _) rfl)
    ·(have e0 : a.tmps[8]?.getD undef = (.int .i64 (j : Int)) := (by rw [hb 8 (by decide +kernel)]; simp); go_simp; exact hK _ _ hW (VY _) rfl)
    ·(have e0 := qo (hd 3 (by kernel_rfl) 84 rfl); go_simp; exact hK _ _ hW (VY _) (show Value.int _ _ = Value.int _ _ from congrArg (Value.int _) (IntWalk.i64_in _ (by omega))))
    ·(have e0 := qo (hd 1 (by kernel_rfl) 82 rfl); have e1 := qo (hd 2 (by kernel_rfl) 83 rfl); have e2 := qo (hd 4 (by kernel_rfl) 85 rfl); go_simp; exact hK _ _ hW (VY _) rfl)
    (have e0 := qo (hd 0 (by kernel_rfl) 81 rfl); have e1 := qo (hd 5 (by kernel_rfl) 86 rfl); go_simp; refine (HKC.out _ hW).mono ?_; rintro e w2 ⟨rfl, hb2⟩; exact hK _ _ (qa3 hW hb2) hb2 rfl)
   case hWbB5 => exact (Below.refl _ _).drew
   intro vs9 w5 hW hF
   simp only [qF, hdst, List.getElem?_cons_succ, List.getElem?_cons_zero, Option.bind, List.drop_succ_cons, List.drop_zero, Act.put]
   have h9 : vs9 6 = St.v ⟨sm, st, sa, sz⟩ := hF 6 (by omega)
   rw [h9]
   have HB5 := qb (qa3 HXB.out hW)
   have hk5 := qi HX0.out hW
   have HK5 := qb hk5
   have hz5x : w.heap.size < w5.heap.size := Nat.lt_of_lt_of_le hzx hW.size
   obtain ⟨⟨y0, y1, y2, y3⟩, p0, p1, p2, p3⟩ := qh hk5
   clear hF h9 hW HKC hk5
   go_simp
   go_wp2
   go_roundw
   case rel => exact ⟨j + 1, ⟨sm, st, sa, sz⟩, _, by omega, by go_num, rfl, put4 HK5.out, HFN.out, HT2.out, qq HB5.out (Nat.le_refl _) _ _ _ _⟩
   case measure => simp [intOf]; omega
  rw [if_pos rfl] at HT2 hLE
  have HCU := qb (IH.out d' rfl us false cm ct ca cz Ap1 cp1 fs Ad cd wc HK1.out hou HUc.out HFc.out hsu HG.out (by omega) HSF.out)
  go_wp2_with fail
  refine HCU.out.mono ?_
  rintro e w4 ⟨rfl, hb⟩
  have HB4 := qb (qa3 HBc.out hb)
  have HC4 := qb hb
  clear hb
  generalize Pt.sl Pt.safeE us fs ⟨cm, ct, ca, cz⟩ = V at *
  have hsum : (9223372036854775807 < D.length + V.length) = False := by rw [eq_iff_iff, iff_false]; omega
  go_upto_region 20 with fail
  have HX0 := qb (qi H0c.out HC4.out)
  have HXC := qb HC4.out
  have HKC := qb (fun w5 (hb : Below w4.heap.size w4 w5) => HKC0.out w5 (qa3 HXC.out hb))
  have HXB := qb HB4.out
  have hzx : w.heap.size < w4.heap.size := Nat.lt_of_lt_of_le hz0c HXC.out.size
  go_wp2_with fail
  refine qU 7 (by kernel_rfl) (by kernel_rfl) (fun _ w => Below (World.heap w4).size w4 w) KB (fun i => ([bIs (stV cm ct ca cz), bIs (.slice (some ⟨b1, o1, none⟩) xs.length cp), bIs (.int .i64 (j : Int)), bIs (.int .i64 (j : Int)), bIs (.int .i64 ((j : Int) + 1)), bIs (.slice (some ⟨b1, o1 + j * 5, none⟩) 1 (cp - j)), bIs (St.v ⟨sm, st, sa, sz⟩)] : List TyB).getD i bAny) ?hWbB6 ?hkeepB6 ?hstepB6 ?hfinbB6
  case hkeepB6 =>
   refine qg (qg (qg (qg (qg (qg (qg qG ?_) ?_) ?_) ?_) ?_) ?_) ?_
   all_goals exact qj
  case hstepB6 =>
   refine qg (qg (qg (qg (qg (qg (qg qG ?_) ?_) ?_) ?_) ?_) ?_) ?_
   all_goals (intro o ho m' a w1 hm' hW hb hd K Q hK; obtain rfl := Option.some.inj ho)
   ·(have e0 : a.tmps[3]?.getD undef = .pointer (some ⟨w.heap.size, 0, none⟩) := (by rw [hb 3 (by decide +kernel)]; simp); have hbl := (hW.block _ hzx).trans HX0.out; have q0 := cell_of_row w1 _ 0 _ _ _ hbl; have q1 := cell_of_row w1 _ 1 _ _ _ hbl; have q2 := cell_of_row w1 _ 2 _ _ _ hbl; have q3 := cell_of_row w1 _ 3 _ _ _ hbl; go_simp; exact hK _ _ hW (VY _) rfl)
   ·(have e0 : a.tmps[1]?.getD undef = (.slice (some ⟨b1, o1, none⟩) xs.length cp) := (by rw [hb 1 (by decide +kernel)]; simp); go_simp; exact hK _ _ hW (VY _) rfl)
   ·(have e0 : a.tmps[8]?.getD undef = (.int .i64 (j : Int)) := (by rw [hb 8 (by decide +kernel)]; simp); go_simp; exact hK _ _ hW (VY _) rfl)
   ·(have e0 : a.tmps[8]?.getD undef = (.int .i64 (j : Int)) := (by rw [hb 8 (by decide +kernel)]; simp); go_simp; exact hK _ _ hW (VY _) rfl)
   ·(have e0 := qo (hd 3 (by kernel_rfl) 84 rfl); go_simp; exact hK _ _ hW (VY _) (show Value.int _ _ = Value.int _ _ from congrArg (Value.int _) (IntWalk.i64_in _ (by omega))))
   ·(have e0 := qo (hd 1 (by kernel_rfl) 82 rfl); have e1 := qo (hd 2 (by kernel_rfl) 83 rfl); have e2 := qo (hd 4 (by kernel_rfl) 85 rfl); go_simp; exact hK _ _ hW (VY _) rfl)
   (have e0 := qo (hd 0 (by kernel_rfl) 81 rfl); have e1 := qo (hd 5 (by kernel_rfl) 86 rfl); go_simp; refine (HKC.out _ hW).mono ?_; rintro e w2 ⟨rfl, hb2⟩; exact hK _ _ (qa3 hW hb2) hb2 rfl)
  case hWbB6 => exact (Below.refl _ _).drew
  intro vs9 w5 hW hF
  simp only [qF, hdst, List.getElem?_cons_succ, List.getElem?_cons_zero, Option.bind, List.drop_succ_cons, List.drop_zero, Act.put]
  have h9 : vs9 6 = St.v ⟨sm, st, sa, sz⟩ := hF 6 (by omega)
  rw [h9]
  have HB5 := qb (qa3 HXB.out hW)
  have hk5 := qi HX0.out hW
  have HK5 := qb hk5
  have hz5x : w.heap.size < w5.heap.size := Nat.lt_of_lt_of_le hzx hW.size
  obtain ⟨⟨y0, y1, y2, y3⟩, p0, p1, p2, p3⟩ := qh hk5
  clear hF h9 hW HKC hk5
  go_simp
  go_wp2
  go_roundw
  case rel => exact ⟨j + 1, ⟨sm, st, sa, sz⟩, _, by omega, by go_num, rfl, put4 HK5.out, HFN.out, HT2.out, qq HB5.out (Nat.le_refl _) _ _ _ _⟩
  case measure => simp [intOf]; omega
 rw [if_pos rfl] at HT2 hLE
 have HIT := qb (Fd.good_items HFG.out)
 have HF3 := qb f3
 have HG3 := qb g3
 have hil : is.length <= 5 := HIT.out.1
 obtain ⟨F, hF0⟩ : ∃ F : Tx -> Tx, F = fun it => Pt.sl Pt.safeE us (Fd.withI fs it) ⟨cm, ct, ca, cz⟩ := ⟨_, rfl⟩
 rw [<- hF0] at HT2 hLE
 have HFE : Hid (∀ it, F it = Pt.sl Pt.safeE us (Fd.withI fs it) ⟨cm, ct, ca, cz⟩) := fun it => by rw [hF0]
 clear hF0 hov f1 f2 f3 f4 g0 g1 g2
 go_wp2
 generalize wr = wo at *
 go_loopw [7, 11] (fun o i wq => ∃ (q : Nat), q <= is.length /\ i = .int .i64 q /\ o = sv (D ++ cat F (is.take q)) /\ Below wc.heap.size wc wq) (fun _ i _ => is.length - (intOf i).toNat)
 case atStart => exact ⟨0, Nat.zero_le _, rfl, by rw [List.take_zero]; simp [cat], Below.refl _ _⟩
 obtain ⟨q, hq, rfl, rfl, hb⟩ := hrel
 have HBq := qb hb
 have HQ3 := qb ((hb.cell (p := ⟨w2.heap.size, 3, none⟩) hz6).trans HG3.out)
 have HP3 := qb ((hb.cell (p := ⟨wo.heap.size, 3, none⟩) hzc).trans HF3.out)
 have hzq := hb.size
 have g3 := HQ3.out
 have hz7 : w2.heap.size < wr.heap.size := by omega
 have hz8 : wo.heap.size < wr.heap.size := by omega
 clear hb
 by_cases hqi : q < is.length
 ·obtain ⟨bi, oi, hAi, hbi, hci2⟩ := (HRI.out.keep (fun p hp => HBq.out.cell hp) (fun b h => Nat.lt_of_lt_of_le h HBq.out.size) : RdIn wr (All wr) Ai (qS is)).at hqi
  have HCI := qb hci2
  have HVI := qb (HIT.out.2 _ (List.getElem_mem hqi))
  have hct := kb F is q hqi
  have hcl := kc F is (q + 1)
  rw [hct, List.length_append] at hcl
  have HCT := qb hct
  have HWI := qb (fun w5 (hb : Below wr.heap.size wr w5) => (yR fs is[q] Ad cd (All w5) w5 (fun _ h => h) ((HFc.out.now HBq.out).now hb) (by omega)).mono fun e w' h => yY h)
  have HIF := qb (fun A c w5 (hb : Below wr.heap.size wr w5) (hr : RdF w5 (All w5) A (Fd.withI fs is[q])) => IH.out d' rfl us false cm ct ca cz Ap1 cp1 (Fd.withI fs is[q]) A c w5 HK1.out hou ((HUc.out.now HBq.out).now hb) hr hsu (Fd.goods_with HG.out HVI.out) (by have := Fd.with_len fs is[q]; omega) HSF.out)
  rw [<- HFE.out is[q]] at HIF
  generalize F is[q] = X at *
  generalize is[q] = it at *
  generalize hDD : D ++ cat F (is.take q) = DD at *
  have HDD := qb hDD
  have hdl : DD.length + X.length <= 200000000000 := by rw [<- hDD, List.length_append]; omega
  subst hAi
  clear hci2 hct hcl hDD
  have HS0 := qb (qi H0c.out HBq.out)
  have hzs : w.heap.size < wr.heap.size := by omega
  go_wp2_with fail
  refine qU 13 (by kernel_rfl) (by kernel_rfl) (fun _ w => Below (World.heap wr).size wr w) KB (fun i => ([bIs (sv DD), bIs (stV cm ct ca cz), bIs (.pointer (some ⟨wo.heap.size, 3, none⟩)), bIs (.slice Ap1 us.length cp1), bIs (.slice Ad fs.length cd), bIs (.pointer (some ⟨w2.heap.size, 3, none⟩)), bIs (.slice (some ⟨bi, oi, none⟩) is.length ci), bIs (.int .i64 (q : Int)), bIs (.pointer (some ⟨bi, oi + q, none⟩)), bIs (sv it), bRdF (Fd.withI fs it), bIs (sv X), bIs (sv (DD ++ X))] : List TyB).getD i bAny) ?hWbB7 ?hkeepB7 ?hstepB7 ?hfinbB7
  case hkeepB7 =>
   refine qg (qg (qg (qg (qg (qg (qg (qg (qg (qg (qg (qg (qg qG ?_) ?_) ?_) ?_) ?_) ?_) ?_) ?_) ?_) ?_) ?_) ?_) ?_
   ·exact qj
   ·exact qj
   ·exact qj
   ·exact qj
   ·exact qj
   ·exact qj
   ·exact qj
   ·exact qj
   ·exact qj
   ·exact qj
   ·exact yX
   all_goals exact qj
  case hstepB7 =>
   refine qg (qg (qg (qg (qg (qg (qg (qg (qg (qg (qg (qg (qg qG ?_) ?_) ?_) ?_) ?_) ?_) ?_) ?_) ?_) ?_) ?_) ?_) ?_
   all_goals (intro o ho m' a w1 hm' hW hb hd K Q hK; obtain rfl := Option.some.inj ho)
   ·(have e0 : a.tmps[7]?.getD undef = (sv DD) := (by rw [hb 7 (by decide +kernel)]; simp); go_simp; exact hK _ _ hW (VY _) rfl)
   ·(have e0 : a.tmps[3]?.getD undef = .pointer (some ⟨w.heap.size, 0, none⟩) := (by rw [hb 3 (by decide +kernel)]; simp); have hbl := (hW.block _ hzs).trans HS0.out; have q0 := cell_of_row w1 _ 0 _ _ _ hbl; have q1 := cell_of_row w1 _ 1 _ _ _ hbl; have q2 := cell_of_row w1 _ 2 _ _ _ hbl; have q3 := cell_of_row w1 _ 3 _ _ _ hbl; go_simp; exact hK _ _ hW (VY _) rfl)
   ·(have e0 : a.tmps[9]?.getD undef = .pointer (some ⟨wo.heap.size, 0, none⟩) := (by rw [hb 9 (by decide +kernel)]; simp); go_simp; exact hK _ _ hW (VY _) rfl)
   ·(have e0 := qo (hd 2 (by kernel_rfl) 70 rfl); have hcw := (hW.cell (p := ⟨wo.heap.size, 3, none⟩) hz8).trans HP3.out; go_simp; exact hK _ _ hW (VY _) rfl)
   ·(have e0 : a.tmps[2]?.getD undef = (.slice Ad fs.length cd) := (by rw [hb 2 (by decide +kernel)]; simp); go_simp; exact hK _ _ hW (VY _) rfl)
   ·(have e0 : a.tmps[10]?.getD undef = .pointer (some ⟨w2.heap.size, 0, none⟩) := (by rw [hb 10 (by decide +kernel)]; simp); go_simp; exact hK _ _ hW (VY _) rfl)
   ·(have e0 := qo (hd 5 (by kernel_rfl) 73 rfl); have hcw := (hW.cell (p := ⟨w2.heap.size, 3, none⟩) hz7).trans HQ3.out; go_simp; exact hK _ _ hW (VY _) rfl)
   ·(have e0 : a.tmps[11]?.getD undef = (.int .i64 (q : Int)) := (by rw [hb 11 (by decide +kernel)]; simp); go_simp; exact hK _ _ hW (VY _) rfl)
   ·(have e0 := qo (hd 6 (by kernel_rfl) 74 rfl); have e1 := qo (hd 7 (by kernel_rfl) 75 rfl); go_simp; exact hK _ _ hW (VY _) rfl)
   ·(have e0 := qo (hd 8 (by kernel_rfl) 76 rfl); have hcw := (hW.cell (p := ⟨bi, oi + q, none⟩) hbi).trans HCI.out; go_simp; exact hK _ _ hW (VY _) rfl)
   ·(have e0 := qo (hd 4 (by kernel_rfl) 72 rfl); have e1 := qo (hd 9 (by kernel_rfl) 77 rfl); go_simp; refine (HWI.out _ hW).mono ?_; rintro e w2 ⟨A9, c9, rfl, hr9, hb2⟩; exact hK _ _ (qa3 hW hb2) hb2 ⟨A9, c9, rfl, hr9⟩)
   ·(have e0 := qo (hd 1 (by kernel_rfl) 69 rfl); have e1 := qo (hd 3 (by kernel_rfl) 71 rfl); obtain ⟨A9, c9, e9, h9⟩ := (hd 10 (by kernel_rfl) 78 rfl); have e9 := qo e9; go_simp; refine (HIF.out _ _ _ hW h9).mono ?_; rintro e w2 ⟨rfl, hb2⟩; exact hK _ _ (qa3 hW hb2) hb2 rfl)
   (have e0 := qo (hd 0 (by kernel_rfl) 68 rfl); have e1 := qo (hd 11 (by kernel_rfl) 79 rfl); go_simp; rw [if_neg (by (try simp only [List.length_append, List.length_cons, List.length_nil]); omega)]; go_simp; exact hK _ _ hW (VY _) rfl)
  case hWbB7 => exact (Below.refl _ _).drew
  intro vs9 w6 hW hF
  simp only [qF, hdst, List.getElem?_cons_succ, List.getElem?_cons_zero, Option.bind, List.drop_succ_cons, List.drop_zero, Act.put]
  have h9 : vs9 12 = sv (DD ++ X) := hF 12 (by omega)
  rw [h9]
  have HB6 := qb (qa3 HBq.out hW)
  clear hF h9 hW HWI HIF g3
  go_simp
  go_wp2
  go_roundw
  case rel => exact ⟨q + 1, by omega, by go_num, congrArg sv (by rw [HCT.out, <- HDD.out, List.append_assoc]), HB6.out⟩
  case measure => simp [intOf]; omega
 have HEE : Hid (is.take q = is) := by show _ = _; exact List.take_of_length_le (by omega)
 rw [HEE.out]
 have HBB := qb (qa3 HBc.out HBq.out)
 go_upto_region 20 with fail
 have HX0 := qb (qi H0c.out HBq.out)
 have HXC := qb HBq.out
 have HKC := qb (fun w5 (hb : Below wr.heap.size wr w5) => HKC0.out w5 (qa3 HXC.out hb))
 have HXB := qb HBB.out
 have hzx : w.heap.size < wr.heap.size := Nat.lt_of_lt_of_le hz0c HXC.out.size
 go_wp2_with fail
 refine qU 7 (by kernel_rfl) (by kernel_rfl) (fun _ w => Below (World.heap wr).size wr w) KB (fun i => ([bIs (stV cm ct ca cz), bIs (.slice (some ⟨b1, o1, none⟩) xs.length cp), bIs (.int .i64 (j : Int)), bIs (.int .i64 (j : Int)), bIs (.int .i64 ((j : Int) + 1)), bIs (.slice (some ⟨b1, o1 + j * 5, none⟩) 1 (cp - j)), bIs (St.v ⟨sm, st, sa, sz⟩)] : List TyB).getD i bAny) ?hWbB8 ?hkeepB8 ?hstepB8 ?hfinbB8
 case hkeepB8 =>
  refine qg (qg (qg (qg (qg (qg (qg qG ?_) ?_) ?_) ?_) ?_) ?_) ?_
  all_goals exact qj
 case hstepB8 =>
  refine qg (qg (qg (qg (qg (qg (qg qG ?_) ?_) ?_) ?_) ?_) ?_) ?_
  all_goals (intro o ho m' a w1 hm' hW hb hd K Q hK; obtain rfl := Option.some.inj ho)
  ·(have e0 : a.tmps[3]?.getD undef = .pointer (some ⟨w.heap.size, 0, none⟩) := (by rw [hb 3 (by decide +kernel)]; simp); have hbl := (hW.block _ hzx).trans HX0.out; have q0 := cell_of_row w1 _ 0 _ _ _ hbl; have q1 := cell_of_row w1 _ 1 _ _ _ hbl; have q2 := cell_of_row w1 _ 2 _ _ _ hbl; have q3 := cell_of_row w1 _ 3 _ _ _ hbl; go_simp; exact hK _ _ hW (VY _) rfl)
  ·(have e0 : a.tmps[1]?.getD undef = (.slice (some ⟨b1, o1, none⟩) xs.length cp) := (by rw [hb 1 (by decide +kernel)]; simp); go_simp; exact hK _ _ hW (VY _) rfl)
  ·(have e0 : a.tmps[8]?.getD undef = (.int .i64 (j : Int)) := (by rw [hb 8 (by decide +kernel)]; simp); go_simp; exact hK _ _ hW (VY _) rfl)
  ·(have e0 : a.tmps[8]?.getD undef = (.int .i64 (j : Int)) := (by rw [hb 8 (by decide +kernel)]; simp); go_simp; exact hK _ _ hW (VY _) rfl)
  ·(have e0 := qo (hd 3 (by kernel_rfl) 84 rfl); go_simp; exact hK _ _ hW (VY _) (show Value.int _ _ = Value.int _ _ from congrArg (Value.int _) (IntWalk.i64_in _ (by omega))))
  ·(have e0 := qo (hd 1 (by kernel_rfl) 82 rfl); have e1 := qo (hd 2 (by kernel_rfl) 83 rfl); have e2 := qo (hd 4 (by kernel_rfl) 85 rfl); go_simp; exact hK _ _ hW (VY _) rfl)
  (have e0 := qo (hd 0 (by kernel_rfl) 81 rfl); have e1 := qo (hd 5 (by kernel_rfl) 86 rfl); go_simp; refine (HKC.out _ hW).mono ?_; rintro e w2 ⟨rfl, hb2⟩; exact hK _ _ (qa3 hW hb2) hb2 rfl)
 case hWbB8 => exact (Below.refl _ _).drew
 intro vs9 w5 hW hF
 simp only [qF, hdst, List.getElem?_cons_succ, List.getElem?_cons_zero, Option.bind, List.drop_succ_cons, List.drop_zero, Act.put]
 have h9 : vs9 6 = St.v ⟨sm, st, sa, sz⟩ := hF 6 (by omega)
 rw [h9]
 have HB5 := qb (qa3 HXB.out hW)
 have hk5 := qi HX0.out hW
 have HK5 := qb hk5
 have hz5x : w.heap.size < w5.heap.size := Nat.lt_of_lt_of_le hzx hW.size
 obtain ⟨⟨y0, y1, y2, y3⟩, p0, p1, p2, p3⟩ := qh hk5
 clear hF h9 hW HKC hk5
 go_simp
 go_wp2
 go_roundw
 case rel => exact ⟨j + 1, ⟨sm, st, sa, sz⟩, _, by omega, by go_num, rfl, put4 HK5.out, HFN.out, HT2.out, qq HB5.out (Nat.le_refl _) _ _ _ _⟩
 case measure => simp [intOf]; omega
theorem Xq (d : Nat) : d <= 3 -> SfC Pt.safeE (fun s x y => #[s, x, y]) 84 d := by
 induction d with
 | zero => exact fun h3 => Za 0 h3 fun d' h => by omega
 | succ d ih => exact fun h3 => Za (d + 1) h3 fun d' h => by obtain rfl : d = d' := (by omega); exact ih (by omega)
end Go.Proofs.YtmboieajfdkllaaGreat
