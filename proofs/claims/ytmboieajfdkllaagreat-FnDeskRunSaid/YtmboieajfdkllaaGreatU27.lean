import Derived.Test.YtmboieajfdkllaaGreatU17
open Go.Proofs.Tryz
namespace Go.Proofs.YtmboieajfdkllaaGreat
open Go.RowKit Go.Deep
namespace Pt
variable {xs us vs : List Pt} {s : St} {t n : Tx}
theorem ft_no {j : Nat} {r : Int × St} {x : Pt} (h : ft (xs.drop j) s = r) (hj : j < xs.length) (hx : xs[j] = x) {f : Int} {s' : St} (he : ft1 x s = (f, s')) (hf : f ≠ 0) : r.1 = f := by
 subst hx
 rw [qX xs j hj, ft, he, if_pos hf] at h
 rw [<- h]
theorem ft_yes {j : Nat} {r : Int × St} {x : Pt} (h : ft (xs.drop j) s = r) (hj : j < xs.length) (hx : xs[j] = x) {s' : St} (he : ft1 x s = (0, s')) : ft (xs.drop (j + 1)) s' = r := by
 subst hx
 rw [qX xs j hj, ft, he, if_neg (by simp)] at h
 exact h
theorem ft_end {j : Nat} {r : Int × St} (h : ft (xs.drop j) s = r) (hj : ¬ j < xs.length) : r = (0, s) := by
 rw [zc xs j (by omega), ft] at h; exact h.symm
theorem ft1_text_no (h : (St.after s t).mode = 15) : ft1 (mk 1 t n us vs) s = (1, St.after s t) := by rw [ft1, if_pos rfl, if_pos h]
theorem ft1_text (h : ¬ (St.after s t).mode = 15) : ft1 (mk 1 t n us vs) s = (0, St.after s t) := by rw [ft1, if_pos rfl, if_neg h]
theorem ft1_hole_no (h : St.place s = 0) : ft1 (mk 2 t n us vs) s = (2, St.behind s) := by rw [ft1, if_neg (by decide), if_pos rfl, if_pos ((St.behind_bad s).2 h)]
theorem ft1_hole (h : ¬ St.place s = 0) : ft1 (mk 2 t n us vs) s = (0, St.behind s) := by rw [ft1, if_neg (by decide), if_pos rfl, if_neg (fun e => h ((St.behind_bad s).1 e))]
section ks
variable {k : Int} (hk : k = 3 \/ k = 4)
include hk
theorem ft1_in {f : Int} {s' : St} (h : ft us s = (f, s')) (hf : f ≠ 0) : ft1 (mk k t n us vs) s = (f, s') := by
 rw [ft1, if_neg (by rcases hk with rfl | rfl <;> decide), if_neg (by rcases hk with rfl | rfl <;> decide), h, if_pos hf]
theorem ft1_in2 {s' s2 : St} {f : Int} (h : ft us s = (0, s')) (h2 : ft vs s = (f, s2)) (hf : f ≠ 0) : ft1 (mk k t n us vs) s = (f, s2) := by
 rw [ft1, if_neg (by rcases hk with rfl | rfl <;> decide), if_neg (by rcases hk with rfl | rfl <;> decide), h, if_neg (by simp), h2, if_pos hf]
end ks
theorem ft1_branch {s' s2 : St} (h : ft us s = (0, s')) (h2 : ft vs s = (0, s2)) (hs : ¬ s' = s2) : ft1 (mk 3 t n us vs) s = (3, St.bad) := by
 rw [ft1, if_neg (by decide), if_neg (by decide), h, if_neg (by simp), h2, if_neg (by simp), if_neg (fun e => absurd e.1 (by decide)), if_pos ⟨rfl, hs⟩]
theorem ft1_if {s' s2 : St} (h : ft us s = (0, s')) (h2 : ft vs s = (0, s2)) (hs : s' = s2) : ft1 (mk 3 t n us vs) s = (0, s') := by
 rw [ft1, if_neg (by decide), if_neg (by decide), h, if_neg (by simp), h2, if_neg (by simp), if_neg (fun e => absurd e.1 (by decide)), if_neg (fun e => e.2 hs)]
theorem ft1_loop {s' : St} (h : ft us s = (0, s')) (hs : ¬ s' = s) : ft1 (mk 4 t n us []) s = (4, St.bad) := by
 rw [ft1, if_neg (by decide), if_neg (by decide), h, if_neg (by simp), ft, if_neg (by simp), if_pos ⟨rfl, hs⟩]
theorem ft1_each {s' : St} (h : ft us s = (0, s')) (hs : s' = s) : ft1 (mk 4 t n us []) s = (0, s') := by
 rw [ft1, if_neg (by decide), if_neg (by decide), h, if_neg (by simp), ft, if_neg (by simp), if_neg (fun e => e.2 hs), if_neg (fun e => absurd e.1 (by decide))]
end Pt
theorem js {f : Func} {k j b : Nat} {tmps : Array Value} {m : Int} {t a : Tx} {z : Bool} {u : Value} {w : World} (hf : f.results = #[.cell k 90, .tmp j]) (ht : tmps[k]?.getD undef = .pointer (some ⟨b, 0, none⟩)) (hj : tmps[j]?.getD undef = u) (h : w.heap[b]? = some (.cells (ql m t a z) 90 (0, 0))) :
  (results f tmps).run Tryz.prog w = .ok (.tuple #[stV m t a z, u]) w := by
 obtain ⟨⟨y0, y1, y2, y3⟩, -⟩ := qh h
 simp [results, go_sem, *]
theorem jC {f : Func} {k j b : Nat} {tmps : Array Value} {m : Int} {t a : Tx} {z : Bool} {u : Value} {w : World} (hf : f.results = #[.tmp j, .cell k 90]) (ht : tmps[k]?.getD undef = .pointer (some ⟨b, 0, none⟩)) (hj : tmps[j]?.getD undef = u) (h : w.heap[b]? = some (.cells (ql m t a z) 90 (0, 0))) :
  (results f tmps).run Tryz.prog w = .ok (.tuple #[u, stV m t a z]) w := by
 obtain ⟨⟨y0, y1, y2, y3⟩, -⟩ := qh h
 simp [results, go_sem, *]
def FtC (g : Value -> Value -> Value) (f : FuncId) (d : Nat) : Prop := ∀ (xs : List Pt) (p : Bool) (m : Int) (t a : Tx) (z : Bool) (A : Option Addr) (c : Nat) (w : World), Pt.oks xs d p = true -> RdP w (All w) A xs -> xs.length + Pt.sizes xs <= 1048576 -> St.Fit ⟨m, t, a, z⟩ →
  Calls Tryz.prog f #[stV m t a z, .slice A xs.length c] w fun e w' => (∃ s' : St, e = .returned (g (St.v s') (.int .i64 (Pt.ft xs ⟨m, t, a, z⟩).1)) /\ ((Pt.ft xs ⟨m, t, a, z⟩).1 = 0 -> s' = (Pt.ft xs ⟨m, t, a, z⟩).2)) /\ Below w.heap.size w w'
def gI : Value -> Value -> Value := fun s n => .tuple #[s, n]
def gS : Value -> Value -> Value := fun s n => .tuple #[n, s]
set_option maxRecDepth 100000 in
set_option maxHeartbeats 8000000 in
theorem yl (d : Nat) (ih : ∀ d', d = d' + 1 -> FtC gI 93 d') : FtC gI 93 d := by
 intro xs p m t a z A c w ho hx hs hf
 have HO := qb (xT ho)
 have HX := qb hx
 have IH := qb ih
 have HFT := qb hf
 have hxl : xs.length <= 1048576 := by omega
 have HSZ := qb hs
 obtain ⟨r, hr⟩ : ∃ r, r = Pt.ft xs ⟨m, t, a, z⟩ := ⟨_, rfl⟩
 rw [<- hr]
 have HR := qb hr.symm
 clear hr ho hx hf ih hs
 obtain ⟨hB, g0, g1⟩ := qE w (ql m t a z) qH 90 90
 have HB0 := qb hB
 have HG0 := qb g0
 have HG1 := qb g1
 clear hB g0 g1
 go_enter func93, ntmps93
 go_upto_region 2 with fail
 generalize (w.alloc (.cells (ql m t a z) 90)).alloc (.cells qH 90) = w0 at *
 go_wp2
 go_loopw [15] (fun i wr => ∃ (j : Nat) (s : St), j <= xs.length /\ i = .int .i64 j /\ wr.heap[w.heap.size]? = some (.cells (ql s.mode s.tag s.attr s.seen) 90 (0, 0)) /\ wr.heap[w.heap.size + 1]? = some (.cells qH 90 (0, 0)) /\ St.Fit s /\ Pt.ft (xs.drop j) s = r /\ Below w.heap.size w wr) (fun i _ => xs.length - (intOf i).toNat)
 case atStart => exact ⟨0, ⟨m, t, a, z⟩, Nat.zero_le _, rfl, HG0.out, HG1.out, HFT.out, by rw [List.drop_zero]; exact HR.out, HB0.out⟩
 obtain ⟨j, ⟨cm, ct, ca, cz⟩, hj, rfl, h0, h1, hft, hck, hb⟩ := hrel
 dsimp only at h0 h1
 have HB := qb hb
 have H0 := qb h0
 have H1 := qb h1
 have HF := qb hft
 have HD := qb hck
 have hz2 : w.heap.size + 1 < wr.heap.size := (Array.getElem?_eq_some_iff.1 h1).1
 clear h0 h1 hft hck hb
 by_cases hlt : j < xs.length
 ·obtain ⟨b1, o1, rfl, hb1, kd, tt, nn, us, vs, Ap, cp, Ao, co, hxj, k1, k2, k3, k4, c0, c1, c2, c3, c4⟩ := (HX.out.now HB.out).at2 hlt
  have hmem : Pt.mk kd tt nn us vs ∈ xs := by rw [<- hxj]; exact List.getElem_mem hlt
  have hok := HO.out _ hmem
  have hsm := Pt.size_mem hmem
  have HNO := qb (fun f s' he hf => Pt.ft_no HD.out hlt hxj (f := f) (s' := s') he hf)
  have HYES := qb (fun s' he => Pt.ft_yes HD.out hlt hxj (s' := s') he)
  clear HD hmem hxj
  simp only [Pt.size] at hsm
  rw [Pt.ok] at hok
  have HBX := qb (heap_alloc_new wr (.cells (qD kd tt nn Ap us.length cp Ao vs.length co) 115))
  have hBA := (Below.refl wr.heap.size wr).alloc (Nat.le_refl _) (.cells (qD kd tt nn Ap us.length cp Ao vs.length co) 115)
  have HBA := qb hBA
  have HU := qb (k3.now hBA)
  have HV := qb (k4.now hBA)
  have hzb : wr.heap.size < (wr.alloc (.cells (qD kd tt nn Ap us.length cp Ao vs.length co) 115)).heap.size := by simp
  clear k1 k2 k3 k4 hBA
  go_upto_region 5 with fail
  generalize wr.alloc (.cells (qD kd tt nn Ap us.length cp Ao vs.length co) 115) = wb at *
  obtain ⟨⟨f0, f1, f2, f3, f4⟩, -⟩ := qI HBX.out
  have HBb := qb (HB.out.trans (HBA.out.mono (by omega)))
  have H0b := qb (qi H0.out HBA.out)
  have H1b := qb (qi H1.out HBA.out)
  clear c0 c1 c2 c3 c4 H0 H1 HB
  obtain ⟨⟨y0, y1, y2, y3⟩, p0, p1, p2, p3⟩ := qh H0b.out
  by_cases e1 : kd = 1
  ·subst e1
   rw [if_pos rfl, Bool.and_eq_true] at hok
   have htl := jQ hok.1
   have HFN := qb (St.fit_after HF.out tt)
   have HC := qb (fun w => xz cm ct ca cz tt w HF.out.1 HF.out.2 (by omega))
   have HTN := qb (fun (h : (St.after ⟨cm, ct, ca, cz⟩ tt).mode = 15) => HNO.out _ _ (Pt.ft1_text_no h) (by decide))
   have HTY := qb (fun (h : ¬ (St.after ⟨cm, ct, ca, cz⟩ tt).mode = 15) => HYES.out _ (Pt.ft1_text h))
   generalize St.after ⟨cm, ct, ca, cz⟩ tt = s1 at *
   obtain ⟨sm, st, sa, sz⟩ := s1
   dsimp only at HTN HTY
   clear hok
   go_wp2_with fail
   refine (HC.out _).mono ?_
   rintro e w2 ⟨rfl, hb⟩
   have HB2 := qb (qa3 HBb.out hb)
   have H02 := qb (qi H0b.out hb)
   have H12 := qb (qi H1b.out hb)
   have hz3 := hb.size
   clear hb y0 y1 y2 y3 p0 p1 p2 p3 f0 f1 f2 f3 f4
   obtain ⟨⟨y0, y1, y2, y3⟩, p0, p1, p2, p3⟩ := qh H02.out
   have HP0 := qb (put4 (v0 := .int .i64 sm) (v1 := sv st) (v2 := sv sa) (v3 := .bool sz) H02.out)
   have HP1 := qb (qQ (b := w.heap.size) (.int .i64 sm) (sv st) (sv sa) (.bool sz) H12.out (by omega))
   have HPB := qb (qq HB2.out (Nat.le_refl _) (.int .i64 sm) (sv st) (sv sa) (.bool sz))
   go_upto_region 7 with fail
   generalize (((w2.setCell ⟨w.heap.size, 0, none⟩ (.int .i64 sm)).setCell ⟨w.heap.size, 1, none⟩ (sv st)).setCell ⟨w.heap.size, 2, none⟩ (sv sa)).setCell ⟨w.heap.size, 3, none⟩ (.bool sz) = w9 at *
   obtain ⟨⟨y0, y1, y2, y3⟩, -⟩ := qh HP0.out
   obtain ⟨⟨z0, z1, z2, z3⟩, x0, x1, x2, x3⟩ := qh HP1.out
   by_cases hm : sm = 15
   ·subst hm
    have HEE : Hid (r.1 = 1) := HTN.out rfl
    go_wp2
    exact bodyPost_ret (js (u := .int .i64 1) results93 rfl rfl (put4 HP1.out)) rfl ⟨⟨⟨_, _, _, _⟩, by rw [HEE.out]; rfl, fun h => absurd (HEE.out.symm.trans h) (by decide)⟩, qq HPB.out (by omega) _ _ _ _⟩
   have nm : (sm == 15) = false := by simpa using hm
   have HD2 := qb (HTY.out hm)
   clear hm
   go_wp2
   go_roundw
   case rel => exact ⟨j + 1, ⟨sm, st, sa, sz⟩, by omega, by go_num, HP0.out, HP1.out, HFN.out, HD2.out, HPB.out⟩
   case measure => simp [intOf]; omega
  rw [if_neg e1] at hok
  by_cases e2 : kd = 2
  ·subst e2
   have HFN := qb (St.fit_behind HF.out)
   have HPL := qb (vi cm ct ca cz wb (by have := HF.out.1; dsimp only at this; omega) (by have := HF.out.2; dsimp only at this; omega))
   have HC := qb (fun w => ka cm ct ca cz w (by have := HF.out.1; dsimp only at this; omega) (by have := HF.out.2; dsimp only at this; omega))
   have HTN := qb (fun (h : St.place ⟨cm, ct, ca, cz⟩ = 0) => HNO.out _ _ (Pt.ft1_hole_no h) (by decide))
   have HTY := qb (fun (h : ¬ St.place ⟨cm, ct, ca, cz⟩ = 0) => HYES.out _ (Pt.ft1_hole h))
   generalize St.behind ⟨cm, ct, ca, cz⟩ = s1 at *
   generalize St.place ⟨cm, ct, ca, cz⟩ = pl at *
   obtain ⟨sm, st, sa, sz⟩ := s1
   clear hok e1
   go_wp2_with fail
   refine HPL.out.mono ?_
   rintro e w1 ⟨rfl, hb⟩
   have HBa := qb (qa3 HBb.out hb)
   have H0a := qb (qi H0b.out hb)
   have H1a := qb (qi H1b.out hb)
   have hza := hb.size
   clear hb y0 y1 y2 y3 p0 p1 p2 p3 f0 f1 f2 f3 f4 HBb H0b H1b
   have HBb := HBa
   have H0b := H0a
   have H1b := H1a
   obtain ⟨⟨y0, y1, y2, y3⟩, p0, p1, p2, p3⟩ := qh H0b.out
   by_cases hm : pl = 0
   ·subst hm
    have HEE : Hid (r.1 = 2) := HTN.out rfl
    obtain ⟨⟨z0, z1, z2, z3⟩, x0, x1, x2, x3⟩ := qh H1b.out
    go_wp2
    exact bodyPost_ret (js (u := .int .i64 2) results93 rfl rfl (put4 H1b.out)) rfl ⟨⟨⟨_, _, _, _⟩, by rw [HEE.out]; rfl, fun h => absurd (HEE.out.symm.trans h) (by decide)⟩, qq HBb.out (by omega) _ _ _ _⟩
   have nm : (pl == 0) = false := by simpa using hm
   have HD2 := qb (HTY.out hm)
   clear hm
   have f0 : True := trivial
   have f1 : True := trivial
   have f2 : True := trivial
   have f3 : True := trivial
   have f4 : True := trivial
   go_wp2_with fail
   refine (HC.out _).mono ?_
   rintro e w2 ⟨rfl, hb⟩
   have HB2 := qb (qa3 HBb.out hb)
   have H02 := qb (qi H0b.out hb)
   have H12 := qb (qi H1b.out hb)
   have hz3 := hb.size
   clear hb y0 y1 y2 y3 p0 p1 p2 p3 f0 f1 f2 f3 f4
   obtain ⟨⟨y0, y1, y2, y3⟩, p0, p1, p2, p3⟩ := qh H02.out
   have HP0 := qb (put4 (v0 := .int .i64 sm) (v1 := sv st) (v2 := sv sa) (v3 := .bool sz) H02.out)
   have HP1 := qb (qQ (b := w.heap.size) (.int .i64 sm) (sv st) (sv sa) (.bool sz) H12.out (by omega))
   have HPB := qb (qq HB2.out (Nat.le_refl _) (.int .i64 sm) (sv st) (sv sa) (.bool sz))
   go_wp2
   go_roundw
   case rel => exact ⟨j + 1, ⟨sm, st, sa, sz⟩, by omega, by go_num, HP0.out, HP1.out, HFN.out, HD2.out, HPB.out⟩
   case measure => simp [intOf]; omega
  rw [if_neg e2] at hok
  by_cases e34 : kd = 3 \/ kd = 4
  case neg => rw [if_neg e34] at hok; cases hok
  rw [if_pos e34] at hok
  simp only [Bool.and_eq_true] at hok
  obtain ⟨-, -, hv4, hd0, hou, hov⟩ := hok
  obtain ⟨d', rfl⟩ : ∃ d', d = d' + 1 := ⟨d - 1, by have := of_decide_eq_true hd0; omega⟩
  clear hd0
  rw [Nat.add_sub_cancel] at hou hov
  have HS := qb HSZ.out
  have hsu : us.length + Pt.sizes us <= 1048576 := by have := HSZ.out; omega
  have hsv : vs.length + Pt.sizes vs <= 1048576 := by have := HSZ.out; omega
  have HCU := qb (fun w3 (hb : Below wb.heap.size wb w3) => IH.out d' rfl us false cm ct ca cz Ap cp w3 hou (HU.out.now hb) hsu HF.out)
  have HCV := qb (fun w3 (hb : Below wb.heap.size wb w3) => IH.out d' rfl vs false cm ct ca cz Ao co w3 hov (HV.out.now hb) hsv HF.out)
  have HFU := qb (Pt.fit_ft us _ HF.out)
  have HY4 := qb f4
  have hz4 : w.heap.size < wb.heap.size := by omega
  have H34 := qb e34
  have HV4 := qb hv4
  clear hou hov hsu hsv HU HV f1 f2 f4 hv4
  obtain ⟨n1, s1, hs1⟩ : ∃ n1 s1, Pt.ft us ⟨cm, ct, ca, cz⟩ = (n1, s1) := ⟨_, _, rfl⟩
  obtain ⟨n2, s2, hs2⟩ : ∃ n2 s2, Pt.ft vs ⟨cm, ct, ca, cz⟩ = (n2, s2) := ⟨_, _, rfl⟩
  rw [hs1] at HCU HFU
  rw [hs2] at HCV
  dsimp only at HCU HFU HCV
  have HS1 := qb hs1
  have HS2 := qb hs2
  clear hs1 hs2
  rcases e34 with rfl | rfl
  ·go_wp2_with fail
   refine (HCU.out wb (Below.refl _ _)).mono ?_
   rintro e w3 ⟨⟨⟨m8, t8, a8, z8⟩, rfl, hst⟩, hb⟩
   have hbx := hb.alloc hb.size (.cells (ql m8 t8 a8 z8) 90)
   have HST := qb hst
   have HBX3 := qb hbx
   have H03 := qb (qi H0b.out hbx)
   have H13 := qb (qi H1b.out hbx)
   have HQ8 := qb (heap_alloc_new w3 (.cells (ql m8 t8 a8 z8) 90))
   have HPB3 := qb (qa3 HBb.out hbx)
   have hz5 := hb.size
   have hz6 : w3.heap.size < (w3.alloc (.cells (ql m8 t8 a8 z8) 90)).heap.size := by simp
   clear hb hbx hst y0 y1 y2 y3 p0 p1 p2 p3 f0 f3
   unfold gI
   go_upto_region 15 with fail
   generalize w3.alloc (.cells (ql m8 t8 a8 z8) 90) = wc at *
   have HCV2 := qb (HCV.out wc HBX3.out)
   have f4 := (HBX3.out.cell (p := ⟨wr.heap.size, 4, none⟩) hzb).trans HY4.out
   have hz7 : w.heap.size + 1 < wc.heap.size := by have := HBX3.out.size; omega
   have hz8 : wr.heap.size < wc.heap.size := by have := HBX3.out.size; omega
   obtain ⟨⟨y0, y1, y2, y3⟩, p0, p1, p2, p3⟩ := qh H03.out
   obtain ⟨⟨z0, z1, z2, z3⟩, x0, x1, x2, x3⟩ := qh H13.out
   by_cases hn1 : n1 = 0
   case neg =>
    have nm : (n1 == 0) = false := by simpa using hn1
    have HEE : Hid (r.1 = n1) := HNO.out _ _ (Pt.ft1_in (Or.inl rfl) HS1.out hn1) hn1
    have HN1 := qb hn1
    clear hn1
    go_wp2
    exact bodyPost_ret (js (u := .int .i64 n1) results93 rfl rfl (put4 H13.out)) rfl ⟨⟨⟨_, _, _, _⟩, by rw [HEE.out]; rfl, fun h => absurd (HEE.out.symm.trans h) HN1.out⟩, qq HPB3.out (by omega) _ _ _ _⟩
   subst hn1
   have HE8 := qb (HST.out rfl)
   clear HST
   obtain rfl : s1 = ⟨m8, t8, a8, z8⟩ := HE8.out.symm
   go_wp2_with fail
   refine HCV2.out.mono ?_
   rintro e w5 ⟨⟨⟨m9, t9, a9, z9⟩, rfl, hst⟩, hb⟩
   have hbx := hb.alloc hb.size (.cells (ql m9 t9 a9 z9) 90)
   have HST := qb hst
   have H05 := qb (qi H03.out hbx)
   have H15 := qb (qi H13.out hbx)
   have HQ85 := qb (qi HQ8.out hbx)
   have HQ95 := qb (heap_alloc_new w5 (.cells (ql m9 t9 a9 z9) 90))
   have HPB5 := qb (qa3 HPB3.out hbx)
   have hz9 := hb.size
   clear hb hbx hst y0 y1 y2 y3 p0 p1 p2 p3 z0 z1 z2 z3 x0 x1 x2 x3 f4
   unfold gI
   go_upto_region 18 with fail
   generalize w5.alloc (.cells (ql m9 t9 a9 z9) 90) = wd at *
   obtain ⟨⟨y0, y1, y2, y3⟩, p0, p1, p2, p3⟩ := qh H05.out
   obtain ⟨⟨z0, z1, z2, z3⟩, x0, x1, x2, x3⟩ := qh H15.out
   by_cases hn2 : n2 = 0
   case neg =>
    have nm : (n2 == 0) = false := by simpa using hn2
    have HEE : Hid (r.1 = n2) := HNO.out _ _ (Pt.ft1_in2 (Or.inl rfl) HS1.out HS2.out hn2) hn2
    have HN1 := qb hn2
    clear hn2
    go_wp2
    exact bodyPost_ret (js (u := .int .i64 n2) results93 rfl rfl (put4 H15.out)) rfl ⟨⟨⟨_, _, _, _⟩, by rw [HEE.out]; rfl, fun h => absurd (HEE.out.symm.trans h) HN1.out⟩, qq HPB5.out (by omega) _ _ _ _⟩
   subst hn2
   have HE9 := qb (HST.out rfl)
   clear HST
   obtain rfl : s2 = ⟨m9, t9, a9, z9⟩ := HE9.out.symm
   obtain ⟨⟨a80, a81, a82, a83⟩, -⟩ := qh HQ85.out
   obtain ⟨⟨a90, a91, a92, a93⟩, -⟩ := qh HQ95.out
   by_cases hss : (⟨m8, t8, a8, z8⟩ : St) = ⟨m9, t9, a9, z9⟩
   ·have HD2 := qb (HYES.out _ (Pt.ft1_if HS1.out HS2.out hss))
    have hdd := zV hss
    clear hss
    have HFN := qb HFU.out
    have HP0 := qb (put4 (v0 := .int .i64 m8) (v1 := sv t8) (v2 := sv a8) (v3 := .bool z8) H05.out)
    have HP1 := qb (qQ (b := w.heap.size) (.int .i64 m8) (sv t8) (sv a8) (.bool z8) H15.out (by omega))
    have HPB := qb (qq HPB5.out (Nat.le_refl _) (.int .i64 m8) (sv t8) (sv a8) (.bool z8))
    go_wp2
    go_roundw
    case rel => exact ⟨j + 1, ⟨m8, t8, a8, z8⟩, by omega, by go_num, HP0.out, HP1.out, HFN.out, HD2.out, HPB.out⟩
    case measure => simp [intOf]; omega
   have HEE : Hid (r.1 = 3) := HNO.out _ _ (Pt.ft1_branch HS1.out HS2.out hss) (by decide)
   have hdd := zW hss
   clear hss
   go_wp2
   exact bodyPost_ret (js (u := .int .i64 3) results93 rfl rfl (put4 H15.out)) rfl ⟨⟨⟨_, _, _, _⟩, by rw [HEE.out]; rfl, fun h => absurd (HEE.out.symm.trans h) (by decide)⟩, qq HPB5.out (by omega) _ _ _ _⟩
  have hv0 : vs = [] := by
   have := HV4.out
   cases vs with
   | nil => rfl
   | cons => simp at this
  go_wp2_with fail
  refine (HCU.out wb (Below.refl _ _)).mono ?_
  rintro e w3 ⟨⟨⟨m8, t8, a8, z8⟩, rfl, hst⟩, hb⟩
  have hbx := hb.alloc hb.size (.cells (ql m8 t8 a8 z8) 90)
  have HST := qb hst
  have HBX3 := qb hbx
  have H03 := qb (qi H0b.out hbx)
  have H13 := qb (qi H1b.out hbx)
  have HQ8 := qb (heap_alloc_new w3 (.cells (ql m8 t8 a8 z8) 90))
  have HPB3 := qb (qa3 HBb.out hbx)
  have hz5 := hb.size
  have hz6 : w3.heap.size < (w3.alloc (.cells (ql m8 t8 a8 z8) 90)).heap.size := by simp
  clear hb hbx hst y0 y1 y2 y3 p0 p1 p2 p3 f0 f3
  unfold gI
  go_upto_region 25 with fail
  generalize w3.alloc (.cells (ql m8 t8 a8 z8) 90) = wc at *
  have hz7 : w.heap.size + 1 < wc.heap.size := by have := HBX3.out.size; omega
  obtain ⟨⟨y0, y1, y2, y3⟩, p0, p1, p2, p3⟩ := qh H03.out
  obtain ⟨⟨z0, z1, z2, z3⟩, x0, x1, x2, x3⟩ := qh H13.out
  by_cases hn1 : n1 = 0
  case neg =>
   have nm : (n1 == 0) = false := by simpa using hn1
   have HEE : Hid (r.1 = n1) := HNO.out _ _ (Pt.ft1_in (Or.inr rfl) HS1.out hn1) hn1
   have HN1 := qb hn1
   clear hn1
   go_wp2
   exact bodyPost_ret (js (u := .int .i64 n1) results93 rfl rfl (put4 H13.out)) rfl ⟨⟨⟨_, _, _, _⟩, by rw [HEE.out]; rfl, fun h => absurd (HEE.out.symm.trans h) HN1.out⟩, qq HPB3.out (by omega) _ _ _ _⟩
  subst hn1
  have HE8 := qb (HST.out rfl)
  clear HST
  obtain rfl : s1 = ⟨m8, t8, a8, z8⟩ := HE8.out.symm
  obtain ⟨⟨a80, a81, a82, a83⟩, -⟩ := qh HQ8.out
  by_cases hss : (⟨m8, t8, a8, z8⟩ : St) = ⟨cm, ct, ca, cz⟩
  ·have hnx := HYES.out ⟨m8, t8, a8, z8⟩ (by rw [hv0]; exact Pt.ft1_each HS1.out hss)
   rw [hss] at hnx
   have HD2 := qb hnx
   have hdd := zV hss
   clear hss hnx
   have HFN := qb HF.out
   go_wp2
   go_roundw
   case rel => exact ⟨j + 1, ⟨cm, ct, ca, cz⟩, by omega, by go_num, H03.out, H13.out, HFN.out, HD2.out, HPB3.out⟩
   case measure => simp [intOf]; omega
  have HEE : Hid (r.1 = 4) := HNO.out _ _ (by rw [hv0]; exact Pt.ft1_loop HS1.out hss) (by decide)
  have hdd := zW hss
  clear hss
  go_wp2
  exact bodyPost_ret (js (u := .int .i64 4) results93 rfl rfl (put4 H13.out)) rfl ⟨⟨⟨_, _, _, _⟩, by rw [HEE.out]; rfl, fun h => absurd (HEE.out.symm.trans h) (by decide)⟩, qq HPB3.out (by omega) _ _ _ _⟩
 have HEE := qb (Pt.ft_end HD.out hlt)
 obtain ⟨⟨y0, y1, y2, y3⟩, -⟩ := qh H0.out
 obtain ⟨⟨z0, z1, z2, z3⟩, x0, x1, x2, x3⟩ := qh H1.out
 go_wp2
 exact bodyPost_ret (js (u := .int .i64 0) results93 rfl rfl (put4 H1.out)) rfl ⟨⟨⟨_, _, _, _⟩, by rw [HEE.out]; rfl, fun h => by rw [HEE.out]⟩, qq HB.out (by omega) _ _ _ _⟩
theorem Jr (d : Nat) : FtC gI 93 d := by
 induction d with
 | zero => exact yl 0 fun d' h => by omega
 | succ d ih => exact yl (d + 1) fun d' h => by obtain rfl : d = d' := (by omega); exact ih
end Go.Proofs.YtmboieajfdkllaaGreat
