import Derived.Test.YtmboieajfdkllaaGreatU03
import Derived.Test.YtmboieajfdkllaaGreatU01
set_option maxHeartbeats 8000000
set_option maxRecDepth 100000
open Go.Proofs.Tryz
namespace Go.Proofs.YtmboieajfdkllaaGreat
open Go.RowKit Go.Deep
def TwC (f : FuncId) (d : Nat) : Prop := ∀ (xs : List Pt) (p : Bool) (A : Option Addr) (c : Nat) (w : World), Pt.oks xs d p = true -> RdP w (All w) A xs -> xs.length + Pt.sizes xs <= 1048576 →
  Calls Tryz.prog f #[.slice A xs.length c] w fun e w' => e = .returned (sv (Pt.wr xs)) /\ Below w.heap.size w w'
theorem Ql (xs : List Pt) (k : Nat) : (Pt.wr (xs.take k)).length <= (Pt.wr xs).length := by
 conv => rhs; rw [<- List.take_append_drop k xs, Pt.wr_append, List.length_append]
 omega
theorem Qm {xs : List Pt} (h : xs.length + Pt.sizes xs <= 1048576) : (Pt.wr xs).length <= 40000000 := by
 have h1 := Pt.wr_len xs
 have h2 := Pt.manys_size (xs := xs) (fun x _ => Pt.many_size x)
 omega
theorem jY {xs : List Pt} {d : Nat} {p : Bool} (h : Pt.oks xs d p = true) : ∀ x ∈ xs, Pt.ok x d = true := by
 induction xs generalizing p with
 | nil => intro x hx; cases hx
 | cons y t ih =>
  intro x hx
  simp only [Pt.oks, Bool.and_eq_true] at h
  rcases List.mem_cons.1 hx with e | hx
  ·rw [e]; exact h.1
  exact ih h.2.2 x hx
theorem Qn (d : Nat) (ih : ∀ d', d = d' + 1 -> TwC 96 d') : TwC 96 d := by
 intro xs p A c w ho hx hs
 have HO := qb (jY ho)
 have HX := qb hx
 have IH := qb ih
 have hxl : xs.length <= 1048576 := by omega
 have HSZ := qb hs
 have HWL := qb (Qm hs)
 clear ho hx ih hs
 go_enter func96, ntmps96
 go_wp2
 go_loopw [3, 8] (fun m i wr => ∃ (j : Nat), j <= xs.length /\ i = .int .i64 j /\ m = sv (Pt.wr (xs.take j)) /\ Below w.heap.size w wr) (fun _ i _ => xs.length - (intOf i).toNat)
 case atStart => exact ⟨0, Nat.zero_le _, rfl, by simp [Pt.wr], Below.refl _ _⟩
 obtain ⟨j, hj, rfl, rfl, hb⟩ := hrel
 have HB := qb hb
 clear hb
 by_cases hlt : j < xs.length
 case neg =>
  have HEE : Hid (xs.take j = xs) := by show _ = _; exact List.take_of_length_le (by omega)
  go_wp2
  go_ret
  exact ⟨qM (by rw [HEE.out]), HB.out⟩
 obtain ⟨b1, o1, rfl, hb1, kd, tt, nn, us, vs, Ap, cp, Ao, co, hxj, k1, k2, k3, k4, c0, c1, c2, c3, c4⟩ := (HX.out.now HB.out).at2 hlt
 have hmem : Pt.mk kd tt nn us vs ∈ xs := by rw [<- hxj]; exact List.getElem_mem hlt
 have hok := HO.out _ hmem
 have hsm := Pt.size_mem hmem
 have htk := Pt.wr_take xs j hlt
 have hle := Ql xs (j + 1)
 rw [hxj] at htk
 rw [htk, List.length_append] at hle
 have HTK := qb htk
 have hLE : (Pt.wr (xs.take j)).length + (Pt.wr1 (.mk kd tt nn us vs)).length <= 40000000 := Nat.le_trans hle HWL.out
 clear htk hle hmem hxj
 simp only [Pt.size] at hsm
 rw [Pt.ok] at hok
 generalize Pt.wr (xs.take j) = D at *
 have HBX := qb (heap_alloc_new wr (.cells (qD kd tt nn Ap us.length cp Ao vs.length co) 115))
 have hBA := (Below.refl wr.heap.size wr).alloc (Nat.le_refl _) (.cells (qD kd tt nn Ap us.length cp Ao vs.length co) 115)
 have HBA := qb hBA
 have HU := qb (k3.now hBA)
 have HV := qb (k4.now hBA)
 have hzb : wr.heap.size < (wr.alloc (.cells (qD kd tt nn Ap us.length cp Ao vs.length co) 115)).heap.size := by simp
 clear k1 k2 k3 k4 hBA
 go_upto_region 6 with fail
 generalize wr.alloc (.cells (qD kd tt nn Ap us.length cp Ao vs.length co) 115) = wb at *
 obtain ⟨⟨f0, f1, f2, f3, f4⟩, -⟩ := qI HBX.out
 have HBb := qb (HB.out.trans (HBA.out.mono (by have := HB.out.size; omega)))
 clear c0 c1 c2 c3 c4 HB
 by_cases e1 : kd = 1
 ·subst e1
  rw [Pt.wr1, if_pos rfl] at HTK hLE
  have hsum : (9223372036854775807 < D.length + tt.length) = False := by rw [eq_iff_iff, iff_false]; omega
  go_wp2
  go_roundw
  case rel => exact ⟨j + 1, by omega, by go_num, congrArg sv (by rw [HTK.out]; try simp), HBb.out⟩
  case measure => simp [intOf]; omega
 rw [if_neg e1] at hok
 by_cases e2 : kd = 2
 ·subst e2
  rw [Pt.wr1, if_neg (by decide), if_pos rfl] at HTK hLE
  simp only [List.length_append, List.length_cons, List.length_nil] at hLE
  go_wp2
  go_roundw
  case rel => exact ⟨j + 1, by omega, by go_num, congrArg sv (by rw [HTK.out]; try simp), HBb.out⟩
  case measure => simp [intOf]; omega
 rw [if_neg e2] at hok
 by_cases e34 : kd = 3 \/ kd = 4
 case neg => rw [if_neg e34] at hok; cases hok
 rw [if_pos e34] at hok
 simp only [Bool.and_eq_true] at hok
 obtain ⟨-, -, hv4, hd0, hou, hov⟩ := hok
 obtain ⟨d', rfl⟩ : ∃ d', d = d' + 1 := ⟨d - 1, by have := of_decide_eq_true hd0; omega⟩
 clear hd0
 rw [Nat.add_sub_cancel] at hou hov
 have hsu : us.length + Pt.sizes us <= 1048576 := by have := HSZ.out; omega
 have hsv : vs.length + Pt.sizes vs <= 1048576 := by have := HSZ.out; omega
 have HCU := qb (fun w3 (hb : Below wb.heap.size wb w3) => IH.out d' rfl us false Ap cp w3 hou (HU.out.now hb) hsu)
 have HCV := qb (fun w3 (hb : Below wb.heap.size wb w3) => IH.out d' rfl vs false Ao co w3 hov (HV.out.now hb) hsv)
 have HF2 := qb f2
 have HF3 := qb f3
 have HF4 := qb f4
 clear hou hov hsu hsv HU HV f1 f2 f3
 rcases e34 with rfl | rfl
 ·rw [Pt.wr1, if_neg (by decide), if_neg (by decide), if_neg (by decide)] at HTK hLE
  generalize Pt.wr us = U at *
  generalize Pt.wr vs = V at *
  simp only [List.length_append, List.length_cons, List.length_nil] at hLE
  go_upto_region 13 with fail
  go_wp2_with fail
  refine qU 10 (by kernel_rfl) (by kernel_rfl) (fun _ w => Below (World.heap wb).size wb w) KB (fun i => ([bIs (sv D), bIs (.pointer (some ⟨wr.heap.size, 2, none⟩)), bIs (sv nn), bIs (sv ([123, 123, 105, 102, 32] ++ nn)), bIs (sv ([123, 123, 105, 102, 32] ++ (nn ++ [125, 125]))), bIs (.pointer (some ⟨wr.heap.size, 3, none⟩)), bIs (.slice Ap us.length cp), bIs (sv U), bIs (sv ([123, 123, 105, 102, 32] ++ (nn ++ ([125, 125] ++ U)))), bIs (sv (D ++ ([123, 123, 105, 102, 32] ++ (nn ++ ([125, 125] ++ U)))))] : List TyB).getD i bAny) ?hWbB1 ?hkeepB1 ?hstepB1 ?hfinbB1
  case hkeepB1 =>
   refine qg (qg (qg (qg (qg (qg (qg (qg (qg (qg qG ?_) ?_) ?_) ?_) ?_) ?_) ?_) ?_) ?_) ?_
   all_goals exact qj
  case hstepB1 =>
   refine qg (qg (qg (qg (qg (qg (qg (qg (qg (qg qG ?_) ?_) ?_) ?_) ?_) ?_) ?_) ?_) ?_) ?_
   all_goals (intro o ho m' a w1 hm' hW hb hd K Q hK; obtain rfl := Option.some.inj ho)
   ·(have e0 : a.tmps[3]?.getD undef = (sv D) := (by rw [hb 3 (by decide +kernel)]; simp); go_simp; exact hK _ _ hW (VY _) rfl)
   ·(have e0 : a.tmps[5]?.getD undef = .pointer (some ⟨wr.heap.size, 0, none⟩) := (by rw [hb 5 (by decide +kernel)]; simp); go_simp; exact hK _ _ hW (VY _) rfl)
   ·(have e0 := qo (hd 1 (by kernel_rfl) 44 rfl); have hcw := (hW.cell (p := ⟨wr.heap.size, 2, none⟩) hzb).trans HF2.out; go_simp; exact hK _ _ hW (VY _) rfl)
   ·(have e0 := qo (hd 2 (by kernel_rfl) 45 rfl); go_simp; rw [if_neg (by (try simp only [List.length_append, List.length_cons, List.length_nil]); omega)]; go_simp; exact hK _ _ hW (VY _) rfl)
   ·(have e0 := qo (hd 3 (by kernel_rfl) 46 rfl); go_simp; rw [if_neg (by (try simp only [List.length_append, List.length_cons, List.length_nil]); omega)]; go_simp; exact hK _ _ hW (VY _) rfl)
   ·(have e0 : a.tmps[5]?.getD undef = .pointer (some ⟨wr.heap.size, 0, none⟩) := (by rw [hb 5 (by decide +kernel)]; simp); go_simp; exact hK _ _ hW (VY _) rfl)
   ·(have e0 := qo (hd 5 (by kernel_rfl) 48 rfl); have hcw := (hW.cell (p := ⟨wr.heap.size, 3, none⟩) hzb).trans HF3.out; go_simp; exact hK _ _ hW (VY _) rfl)
   ·(have e0 := qo (hd 6 (by kernel_rfl) 49 rfl); go_simp; refine (HCU.out _ hW).mono ?_; rintro e w2 ⟨rfl, hb2⟩; exact hK _ _ (qa3 hW hb2) hb2 rfl)
   ·(have e0 := qo (hd 4 (by kernel_rfl) 47 rfl); have e1 := qo (hd 7 (by kernel_rfl) 50 rfl); go_simp; rw [if_neg (by (try simp only [List.length_append, List.length_cons, List.length_nil]); omega)]; go_simp; exact hK _ _ hW (VY _) rfl)
   (have e0 := qo (hd 0 (by kernel_rfl) 43 rfl); have e1 := qo (hd 8 (by kernel_rfl) 51 rfl); go_simp; rw [if_neg (by (try simp only [List.length_append, List.length_cons, List.length_nil]); omega)]; go_simp; exact hK _ _ hW (VY _) rfl)
  case hWbB1 => exact (Below.refl _ _).drew
  intro vs9 w3 hW hF
  simp only [qF, hdst, List.getElem?_cons_succ, List.getElem?_cons_zero, Option.bind, List.drop_succ_cons, List.drop_zero, Act.put]
  have h9 : vs9 9 = sv (D ++ ([123, 123, 105, 102, 32] ++ (nn ++ ([125, 125] ++ U)))) := hF 9 (by omega)
  rw [h9]
  have HB3 := qb (qa3 HBb.out hW)
  have HCV3 := qb (HCV.out w3 hW)
  have f4 := (hW.cell (p := ⟨wr.heap.size, 4, none⟩) hzb).trans HF4.out
  have hz3 := hW.size
  clear hF h9 hW HCU HCV
  go_simp
  by_cases hy : vs = []
  ·subst hy
   rw [List.isEmpty_nil, if_pos rfl] at HTK hLE
   simp only [List.length_cons, List.length_nil] at hLE
   go_wp2
   go_roundw
   case rel => exact ⟨j + 1, by omega, by go_num, congrArg sv (by rw [HTK.out]; try simp), HB3.out⟩
   case measure => simp [intOf]; omega
  have hye : vs.isEmpty = false := by cases vs with | nil => exact absurd rfl hy | cons => rfl
  rw [hye, if_neg (by simp)] at HTK hLE
  have hvl : 0 < vs.length := List.length_pos_iff.2 hy
  simp only [List.length_append, List.length_cons, List.length_nil] at hLE
  go_wp2_with fail
  refine HCV3.out.mono ?_
  rintro e w4 ⟨rfl, hb⟩
  have HB4 := qb (qa3 HB3.out hb)
  clear hb
  go_wp2
  go_roundw
  case rel => exact ⟨j + 1, by omega, by go_num, congrArg sv (by rw [HTK.out]; try simp), HB4.out⟩
  case measure => simp [intOf]; omega
 rw [Pt.wr1, if_neg (by decide), if_neg (by decide), if_pos rfl] at HTK hLE
 generalize Pt.wr us = U at *
 simp only [List.length_append, List.length_cons, List.length_nil] at hLE
 go_upto_region 11 with fail
 go_wp2_with fail
 refine qU 11 (by kernel_rfl) (by kernel_rfl) (fun _ w => Below (World.heap wb).size wb w) KB (fun i => ([bIs (sv D), bIs (.pointer (some ⟨wr.heap.size, 2, none⟩)), bIs (sv nn), bIs (sv ([123, 123, 101, 97, 99, 104, 32] ++ nn)), bIs (sv ([123, 123, 101, 97, 99, 104, 32] ++ (nn ++ [125, 125]))), bIs (.pointer (some ⟨wr.heap.size, 3, none⟩)), bIs (.slice Ap us.length cp), bIs (sv U), bIs (sv ([123, 123, 101, 97, 99, 104, 32] ++ (nn ++ ([125, 125] ++ U)))), bIs (sv ([123, 123, 101, 97, 99, 104, 32] ++ (nn ++ ([125, 125] ++ (U ++ Pt.endT))))), bIs (sv (D ++ ([123, 123, 101, 97, 99, 104, 32] ++ (nn ++ ([125, 125] ++ (U ++ Pt.endT))))))] : List TyB).getD i bAny) ?hWbB2 ?hkeepB2 ?hstepB2 ?hfinbB2
 case hkeepB2 =>
  refine qg (qg (qg (qg (qg (qg (qg (qg (qg (qg (qg qG ?_) ?_) ?_) ?_) ?_) ?_) ?_) ?_) ?_) ?_) ?_
  all_goals exact qj
 case hstepB2 =>
  refine qg (qg (qg (qg (qg (qg (qg (qg (qg (qg (qg qG ?_) ?_) ?_) ?_) ?_) ?_) ?_) ?_) ?_) ?_) ?_
  all_goals (intro o ho m' a w1 hm' hW hb hd K Q hK; obtain rfl := Option.some.inj ho)
  ·(have e0 : a.tmps[3]?.getD undef = (sv D) := (by rw [hb 3 (by decide +kernel)]; simp); go_simp; exact hK _ _ hW (VY _) rfl)
  ·(have e0 : a.tmps[5]?.getD undef = .pointer (some ⟨wr.heap.size, 0, none⟩) := (by rw [hb 5 (by decide +kernel)]; simp); go_simp; exact hK _ _ hW (VY _) rfl)
  ·(have e0 := qo (hd 1 (by kernel_rfl) 31 rfl); have hcw := (hW.cell (p := ⟨wr.heap.size, 2, none⟩) hzb).trans HF2.out; go_simp; exact hK _ _ hW (VY _) rfl)
  ·(have e0 := qo (hd 2 (by kernel_rfl) 32 rfl); go_simp; rw [if_neg (by (try simp only [List.length_append, List.length_cons, List.length_nil]); omega)]; go_simp; exact hK _ _ hW (VY _) rfl)
  ·(have e0 := qo (hd 3 (by kernel_rfl) 33 rfl); go_simp; rw [if_neg (by (try simp only [List.length_append, List.length_cons, List.length_nil]); omega)]; go_simp; exact hK _ _ hW (VY _) rfl)
  ·(have e0 : a.tmps[5]?.getD undef = .pointer (some ⟨wr.heap.size, 0, none⟩) := (by rw [hb 5 (by decide +kernel)]; simp); go_simp; exact hK _ _ hW (VY _) rfl)
  ·(have e0 := qo (hd 5 (by kernel_rfl) 35 rfl); have hcw := (hW.cell (p := ⟨wr.heap.size, 3, none⟩) hzb).trans HF3.out; go_simp; exact hK _ _ hW (VY _) rfl)
  ·(have e0 := qo (hd 6 (by kernel_rfl) 36 rfl); go_simp; refine (HCU.out _ hW).mono ?_; rintro e w2 ⟨rfl, hb2⟩; exact hK _ _ (qa3 hW hb2) hb2 rfl)
  ·(have e0 := qo (hd 4 (by kernel_rfl) 34 rfl); have e1 := qo (hd 7 (by kernel_rfl) 37 rfl); go_simp; rw [if_neg (by (try simp only [List.length_append, List.length_cons, List.length_nil]); omega)]; go_simp; exact hK _ _ hW (VY _) rfl)
  ·(have e0 := qo (hd 8 (by kernel_rfl) 38 rfl); go_simp; rw [if_neg (by (try simp only [List.length_append, List.length_cons, List.length_nil]); omega)]; go_simp; exact hK _ _ hW (VY _) rfl)
  (have e0 := qo (hd 0 (by kernel_rfl) 30 rfl); have e1 := qo (hd 9 (by kernel_rfl) 39 rfl); go_simp; rw [if_neg (by (try simp only [List.length_append, List.length_cons, List.length_nil]); omega)]; go_simp; exact hK _ _ hW (VY _) rfl)
 case hWbB2 => exact (Below.refl _ _).drew
 intro vs9 w3 hW hF
 simp only [qF, hdst, List.getElem?_cons_succ, List.getElem?_cons_zero, Option.bind, List.drop_succ_cons, List.drop_zero, Act.put]
 have h9 : vs9 10 = sv (D ++ ([123, 123, 101, 97, 99, 104, 32] ++ (nn ++ ([125, 125] ++ (U ++ Pt.endT))))) := hF 10 (by omega)
 rw [h9]
 have HB3 := qb (qa3 HBb.out hW)
 clear hF h9 hW HCU HCV
 go_simp
 go_wp2
 go_roundw
 case rel => exact ⟨j + 1, by omega, by go_num, congrArg sv (by rw [HTK.out]; try simp), HB3.out⟩
 case measure => simp [intOf]; omega
theorem Vc (d : Nat) : TwC 96 d := by
 induction d with
 | zero => exact Qn 0 fun d' h => by omega
 | succ d ih => exact Qn (d + 1) fun d' h => by obtain rfl : d = d' := (by omega); exact ih
theorem Qo (d : Nat) (ih : ∀ d', d = d' + 1 -> TwC 127 d') : TwC 127 d := by
 intro xs p A c w ho hx hs
 have HO := qb (jY ho)
 have HX := qb hx
 have IH := qb ih
 have hxl : xs.length <= 1048576 := by omega
 have HSZ := qb hs
 have HWL := qb (Qm hs)
 clear ho hx ih hs
 go_enter func127, ntmps127
 go_wp2
 go_loopw [3, 4] (fun m i wr => ∃ (j : Nat), j <= xs.length /\ i = .int .i64 j /\ m = sv (Pt.wr (xs.take j)) /\ Below w.heap.size w wr) (fun _ i _ => xs.length - (intOf i).toNat)
 case atStart => exact ⟨0, Nat.zero_le _, rfl, by simp [Pt.wr], Below.refl _ _⟩
 obtain ⟨j, hj, rfl, rfl, hb⟩ := hrel
 have HB := qb hb
 clear hb
 by_cases hlt : j < xs.length
 case neg =>
  have HEE : Hid (xs.take j = xs) := by show _ = _; exact List.take_of_length_le (by omega)
  go_wp2
  go_ret
  exact ⟨qM (by rw [HEE.out]), HB.out⟩
 obtain ⟨b1, o1, rfl, hb1, kd, tt, nn, us, vs, Ap, cp, Ao, co, hxj, k1, k2, k3, k4, c0, c1, c2, c3, c4⟩ := (HX.out.now HB.out).at2 hlt
 have hmem : Pt.mk kd tt nn us vs ∈ xs := by rw [<- hxj]; exact List.getElem_mem hlt
 have hok := HO.out _ hmem
 have hsm := Pt.size_mem hmem
 have htk := Pt.wr_take xs j hlt
 have hle := Ql xs (j + 1)
 rw [hxj] at htk
 rw [htk, List.length_append] at hle
 have HTK := qb htk
 have hLE : (Pt.wr (xs.take j)).length + (Pt.wr1 (.mk kd tt nn us vs)).length <= 40000000 := Nat.le_trans hle HWL.out
 clear htk hle hmem hxj
 simp only [Pt.size] at hsm
 rw [Pt.ok] at hok
 generalize Pt.wr (xs.take j) = D at *
 have HBX := qb (heap_alloc_new wr (.cells (qD kd tt nn Ap us.length cp Ao vs.length co) 115))
 have hBA := (Below.refl wr.heap.size wr).alloc (Nat.le_refl _) (.cells (qD kd tt nn Ap us.length cp Ao vs.length co) 115)
 have HBA := qb hBA
 have HU := qb (k3.now hBA)
 have HV := qb (k4.now hBA)
 have hzb : wr.heap.size < (wr.alloc (.cells (qD kd tt nn Ap us.length cp Ao vs.length co) 115)).heap.size := by simp
 clear k1 k2 k3 k4 hBA
 go_upto_region 11 with fail
 generalize wr.alloc (.cells (qD kd tt nn Ap us.length cp Ao vs.length co) 115) = wb at *
 obtain ⟨⟨f0, f1, f2, f3, f4⟩, -⟩ := qI HBX.out
 have HBb := qb (HB.out.trans (HBA.out.mono (by have := HB.out.size; omega)))
 clear c0 c1 c2 c3 c4 HB
 by_cases e1 : kd = 1
 ·subst e1
  rw [Pt.wr1, if_pos rfl] at HTK hLE
  have hsum : (9223372036854775807 < D.length + tt.length) = False := by rw [eq_iff_iff, iff_false]; omega
  go_wp2
  go_roundw
  case rel => exact ⟨j + 1, by omega, by go_num, congrArg sv (by rw [HTK.out]; try simp), HBb.out⟩
  case measure => simp [intOf]; omega
 rw [if_neg e1] at hok
 by_cases e2 : kd = 2
 ·subst e2
  rw [Pt.wr1, if_neg (by decide), if_pos rfl] at HTK hLE
  simp only [List.length_append, List.length_cons, List.length_nil] at hLE
  go_wp2
  go_roundw
  case rel => exact ⟨j + 1, by omega, by go_num, congrArg sv (by rw [HTK.out]; try simp), HBb.out⟩
  case measure => simp [intOf]; omega
 rw [if_neg e2] at hok
 by_cases e34 : kd = 3 \/ kd = 4
 case neg => rw [if_neg e34] at hok; cases hok
 rw [if_pos e34] at hok
 simp only [Bool.and_eq_true] at hok
 obtain ⟨-, -, hv4, hd0, hou, hov⟩ := hok
 obtain ⟨d', rfl⟩ : ∃ d', d = d' + 1 := ⟨d - 1, by have := of_decide_eq_true hd0; omega⟩
 clear hd0
 rw [Nat.add_sub_cancel] at hou hov
 have hsu : us.length + Pt.sizes us <= 1048576 := by have := HSZ.out; omega
 have hsv : vs.length + Pt.sizes vs <= 1048576 := by have := HSZ.out; omega
 have HCU := qb (fun w3 (hb : Below wb.heap.size wb w3) => IH.out d' rfl us false Ap cp w3 hou (HU.out.now hb) hsu)
 have HCV := qb (fun w3 (hb : Below wb.heap.size wb w3) => IH.out d' rfl vs false Ao co w3 hov (HV.out.now hb) hsv)
 have HF2 := qb f2
 have HF3 := qb f3
 have HF4 := qb f4
 clear hou hov hsu hsv HU HV f1 f2 f3
 rcases e34 with rfl | rfl
 ·rw [Pt.wr1, if_neg (by decide), if_neg (by decide), if_neg (by decide)] at HTK hLE
  generalize Pt.wr us = U at *
  generalize Pt.wr vs = V at *
  simp only [List.length_append, List.length_cons, List.length_nil] at hLE
  go_upto_region 7 with fail
  go_wp2_with fail
  refine qU 10 (by kernel_rfl) (by kernel_rfl) (fun _ w => Below (World.heap wb).size wb w) KB (fun i => ([bIs (sv D), bIs (sv (D ++ [123, 123, 105, 102, 32])), bIs (.pointer (some ⟨wr.heap.size, 2, none⟩)), bIs (sv nn), bIs (sv (D ++ ([123, 123, 105, 102, 32] ++ nn))), bIs (sv (D ++ ([123, 123, 105, 102, 32] ++ (nn ++ [125, 125])))), bIs (.pointer (some ⟨wr.heap.size, 3, none⟩)), bIs (.slice Ap us.length cp), bIs (sv U), bIs (sv (D ++ ([123, 123, 105, 102, 32] ++ (nn ++ ([125, 125] ++ U)))))] : List TyB).getD i bAny) ?hWbB3 ?hkeepB3 ?hstepB3 ?hfinbB3
  case hkeepB3 =>
   refine qg (qg (qg (qg (qg (qg (qg (qg (qg (qg qG ?_) ?_) ?_) ?_) ?_) ?_) ?_) ?_) ?_) ?_
   all_goals exact qj
  case hstepB3 =>
   refine qg (qg (qg (qg (qg (qg (qg (qg (qg (qg qG ?_) ?_) ?_) ?_) ?_) ?_) ?_) ?_) ?_) ?_
   all_goals (intro o ho m' a w1 hm' hW hb hd K Q hK; obtain rfl := Option.some.inj ho)
   ·(have e0 : a.tmps[3]?.getD undef = (sv D) := (by rw [hb 3 (by decide +kernel)]; simp); go_simp; exact hK _ _ hW (VY _) rfl)
   ·(have e0 := qo (hd 0 (by kernel_rfl) 18 rfl); go_simp; rw [if_neg (by (try simp only [List.length_append, List.length_cons, List.length_nil]); omega)]; go_simp; exact hK _ _ hW (VY _) rfl)
   ·(have e0 : a.tmps[5]?.getD undef = .pointer (some ⟨wr.heap.size, 0, none⟩) := (by rw [hb 5 (by decide +kernel)]; simp); go_simp; exact hK _ _ hW (VY _) rfl)
   ·(have e0 := qo (hd 2 (by kernel_rfl) 20 rfl); have hcw := (hW.cell (p := ⟨wr.heap.size, 2, none⟩) hzb).trans HF2.out; go_simp; exact hK _ _ hW (VY _) rfl)
   ·(have e0 := qo (hd 1 (by kernel_rfl) 19 rfl); have e1 := qo (hd 3 (by kernel_rfl) 21 rfl); go_simp; rw [if_neg (by (try simp only [List.length_append, List.length_cons, List.length_nil]); omega)]; go_simp; exact hK _ _ hW (VY _) rfl)
   ·(have e0 := qo (hd 4 (by kernel_rfl) 22 rfl); go_simp; rw [if_neg (by (try simp only [List.length_append, List.length_cons, List.length_nil]); omega)]; go_simp; exact hK _ _ hW (VY _) rfl)
   ·(have e0 : a.tmps[5]?.getD undef = .pointer (some ⟨wr.heap.size, 0, none⟩) := (by rw [hb 5 (by decide +kernel)]; simp); go_simp; exact hK _ _ hW (VY _) rfl)
   ·(have e0 := qo (hd 6 (by kernel_rfl) 24 rfl); have hcw := (hW.cell (p := ⟨wr.heap.size, 3, none⟩) hzb).trans HF3.out; go_simp; exact hK _ _ hW (VY _) rfl)
   ·(have e0 := qo (hd 7 (by kernel_rfl) 25 rfl); go_simp; refine (HCU.out _ hW).mono ?_; rintro e w2 ⟨rfl, hb2⟩; exact hK _ _ (qa3 hW hb2) hb2 rfl)
   (have e0 := qo (hd 5 (by kernel_rfl) 23 rfl); have e1 := qo (hd 8 (by kernel_rfl) 26 rfl); go_simp; rw [if_neg (by (try simp only [List.length_append, List.length_cons, List.length_nil]); omega)]; go_simp; exact hK _ _ hW (VY _) rfl)
  case hWbB3 => exact (Below.refl _ _).drew
  intro vs9 w3 hW hF
  simp only [qF, hdst, List.getElem?_cons_succ, List.getElem?_cons_zero, Option.bind, List.drop_succ_cons, List.drop_zero, Act.put]
  have h9 : vs9 9 = sv (D ++ ([123, 123, 105, 102, 32] ++ (nn ++ ([125, 125] ++ U)))) := hF 9 (by omega)
  rw [h9]
  have HB3 := qb (qa3 HBb.out hW)
  have HCV3 := qb (HCV.out w3 hW)
  have f4 := (hW.cell (p := ⟨wr.heap.size, 4, none⟩) hzb).trans HF4.out
  have hz3 := hW.size
  clear hF h9 hW HCU HCV
  go_simp
  by_cases hy : vs = []
  ·subst hy
   rw [List.isEmpty_nil, if_pos rfl] at HTK hLE
   simp only [List.length_cons, List.length_nil] at hLE
   go_wp2
   go_roundw
   case rel => exact ⟨j + 1, by omega, by go_num, congrArg sv (by rw [HTK.out]; try simp), HB3.out⟩
   case measure => simp [intOf]; omega
  have hye : vs.isEmpty = false := by cases vs with | nil => exact absurd rfl hy | cons => rfl
  rw [hye, if_neg (by simp)] at HTK hLE
  have hvl : 0 < vs.length := List.length_pos_iff.2 hy
  simp only [List.length_append, List.length_cons, List.length_nil] at hLE
  go_wp2_with fail
  refine HCV3.out.mono ?_
  rintro e w4 ⟨rfl, hb⟩
  have HB4 := qb (qa3 HB3.out hb)
  clear hb
  go_wp2
  go_roundw
  case rel => exact ⟨j + 1, by omega, by go_num, congrArg sv (by rw [HTK.out]; try simp), HB4.out⟩
  case measure => simp [intOf]; omega
 rw [Pt.wr1, if_neg (by decide), if_neg (by decide), if_pos rfl] at HTK hLE
 generalize Pt.wr us = U at *
 simp only [List.length_append, List.length_cons, List.length_nil] at hLE
 go_upto_region 16 with fail
 go_wp2_with fail
 refine qU 11 (by kernel_rfl) (by kernel_rfl) (fun _ w => Below (World.heap wb).size wb w) KB (fun i => ([bIs (sv D), bIs (sv (D ++ [123, 123, 101, 97, 99, 104, 32])), bIs (.pointer (some ⟨wr.heap.size, 2, none⟩)), bIs (sv nn), bIs (sv (D ++ ([123, 123, 101, 97, 99, 104, 32] ++ nn))), bIs (sv (D ++ ([123, 123, 101, 97, 99, 104, 32] ++ (nn ++ [125, 125])))), bIs (.pointer (some ⟨wr.heap.size, 3, none⟩)), bIs (.slice Ap us.length cp), bIs (sv U), bIs (sv (D ++ ([123, 123, 101, 97, 99, 104, 32] ++ (nn ++ ([125, 125] ++ U))))), bIs (sv (D ++ ([123, 123, 101, 97, 99, 104, 32] ++ (nn ++ ([125, 125] ++ (U ++ Pt.endT))))))] : List TyB).getD i bAny) ?hWbB4 ?hkeepB4 ?hstepB4 ?hfinbB4
 case hkeepB4 =>
  refine qg (qg (qg (qg (qg (qg (qg (qg (qg (qg (qg qG ?_) ?_) ?_) ?_) ?_) ?_) ?_) ?_) ?_) ?_) ?_
  all_goals exact qj
 case hstepB4 =>
  refine qg (qg (qg (qg (qg (qg (qg (qg (qg (qg (qg qG ?_) ?_) ?_) ?_) ?_) ?_) ?_) ?_) ?_) ?_) ?_
  all_goals (intro o ho m' a w1 hm' hW hb hd K Q hK; obtain rfl := Option.some.inj ho)
  ·(have e0 : a.tmps[3]?.getD undef = (sv D) := (by rw [hb 3 (by decide +kernel)]; simp); go_simp; exact hK _ _ hW (VY _) rfl)
  ·(have e0 := qo (hd 0 (by kernel_rfl) 56 rfl); go_simp; rw [if_neg (by (try simp only [List.length_append, List.length_cons, List.length_nil]); omega)]; go_simp; exact hK _ _ hW (VY _) rfl)
  ·(have e0 : a.tmps[5]?.getD undef = .pointer (some ⟨wr.heap.size, 0, none⟩) := (by rw [hb 5 (by decide +kernel)]; simp); go_simp; exact hK _ _ hW (VY _) rfl)
  ·(have e0 := qo (hd 2 (by kernel_rfl) 58 rfl); have hcw := (hW.cell (p := ⟨wr.heap.size, 2, none⟩) hzb).trans HF2.out; go_simp; exact hK _ _ hW (VY _) rfl)
  ·(have e0 := qo (hd 1 (by kernel_rfl) 57 rfl); have e1 := qo (hd 3 (by kernel_rfl) 59 rfl); go_simp; rw [if_neg (by (try simp only [List.length_append, List.length_cons, List.length_nil]); omega)]; go_simp; exact hK _ _ hW (VY _) rfl)
  ·(have e0 := qo (hd 4 (by kernel_rfl) 60 rfl); go_simp; rw [if_neg (by (try simp only [List.length_append, List.length_cons, List.length_nil]); omega)]; go_simp; exact hK _ _ hW (VY _) rfl)
  ·(have e0 : a.tmps[5]?.getD undef = .pointer (some ⟨wr.heap.size, 0, none⟩) := (by rw [hb 5 (by decide +kernel)]; simp); go_simp; exact hK _ _ hW (VY _) rfl)
  ·(have e0 := qo (hd 6 (by kernel_rfl) 62 rfl); have hcw := (hW.cell (p := ⟨wr.heap.size, 3, none⟩) hzb).trans HF3.out; go_simp; exact hK _ _ hW (VY _) rfl)
  ·(have e0 := qo (hd 7 (by kernel_rfl) 63 rfl); go_simp; refine (HCU.out _ hW).mono ?_; rintro e w2 ⟨rfl, hb2⟩; exact hK _ _ (qa3 hW hb2) hb2 rfl)
  ·(have e0 := qo (hd 5 (by kernel_rfl) 61 rfl); have e1 := qo (hd 8 (by kernel_rfl) 64 rfl); go_simp; rw [if_neg (by (try simp only [List.length_append, List.length_cons, List.length_nil]); omega)]; go_simp; exact hK _ _ hW (VY _) rfl)
  (have e0 := qo (hd 9 (by kernel_rfl) 65 rfl); go_simp; rw [if_neg (by (try simp only [List.length_append, List.length_cons, List.length_nil]); omega)]; go_simp; exact hK _ _ hW (VY _) rfl)
 case hWbB4 => exact (Below.refl _ _).drew
 intro vs9 w3 hW hF
 simp only [qF, hdst, List.getElem?_cons_succ, List.getElem?_cons_zero, Option.bind, List.drop_succ_cons, List.drop_zero, Act.put]
 have h9 : vs9 10 = sv (D ++ ([123, 123, 101, 97, 99, 104, 32] ++ (nn ++ ([125, 125] ++ (U ++ Pt.endT))))) := hF 10 (by omega)
 rw [h9]
 have HB3 := qb (qa3 HBb.out hW)
 clear hF h9 hW HCU HCV
 go_simp
 go_wp2
 go_roundw
 case rel => exact ⟨j + 1, by omega, by go_num, congrArg sv (by rw [HTK.out]; try simp), HB3.out⟩
 case measure => simp [intOf]; omega
theorem Vd (d : Nat) : TwC 127 d := by
 induction d with
 | zero => exact Qo 0 fun d' h => by omega
 | succ d ih => exact Qo (d + 1) fun d' h => by obtain rfl : d = d' := (by omega); exact ih
end Go.Proofs.YtmboieajfdkllaaGreat
