import Derived.Test.YtmboieajfdkllaaGreatU23
import Derived.Test.YtmboieajfdkllaaGreatU24
import Derived.Test.YtmboieajfdkllaaGreatU03
import Derived.Test.YtmboieajfdkllaaGreatU18
set_option maxHeartbeats 4000000
set_option maxRecDepth 100000
open Go.Proofs.Tryz
namespace Go.Proofs.YtmboieajfdkllaaGreat
open Go.RowKit
theorem km {xs : List Pt} (hs : xs.length + Pt.sizes xs <= 1048576) : Pt.manys xs <= 2000000 := by
 have := Pt.manys_size (xs := xs) (fun x _ => Pt.many_size x)
 omega
theorem xv (xs : List Pt) (A : Option Addr) (c : Nat) (w : World) (hx : RdP w (All w) A xs) (hs : xs.length + Pt.sizes xs <= 1048576) (hm : Hm w) :
  Calls Tryz.prog 77 #[.slice A xs.length c] w fun e w' => e = .returned (.bool (Pt.valid xs)) /\ Below w.heap.size w w' := by
 have HV : Hid (Pt.valid xs = (decide (Pt.manys xs <= 30) && Pt.oks xs 3 false)) := rfl
 have HX := qb hx
 have HC := qb (Xd (Pt.deeps xs) xs A c w (Nat.le_refl _) hx (km hs))
 have hmm := km hs
 clear hx
 by_cases h30 : Pt.manys xs <= 30
 case neg =>
  have h30' : decide ((Pt.manys xs : Int) <= 30) = false := by simp; omega
  have HE : Hid (Pt.valid xs = false) := by show _ = _; rw [HV.out, show decide (Pt.manys xs <= 30) = false by simp; omega]; rfl
  clear h30
  go_enter func77, ntmps77
  go_wp2_with fail
  refine HC.out.mono ?_
  rintro e w1 ⟨rfl, hb⟩
  have HB1 := qb hb
  clear hb
  go_wp2
  go_ret
  exact ⟨qw HE.out.symm, HB1.out⟩
 have h30' : decide ((Pt.manys xs : Int) <= 30) = true := by simp; omega
 have HE : Hid (Pt.valid xs = Pt.oks xs 3 false) := by show _ = _; rw [HV.out, show decide (Pt.manys xs <= 30) = true by simp; omega]; rfl
 clear h30
 go_enter func77, ntmps77
 go_wp2_with fail
 refine HC.out.mono ?_
 rintro e w1 ⟨rfl, hb⟩
 have HB1 := qb hb
 have HO := qb (Vb 3 0 (by decide) (by omega) xs A c w1 (HX.out.now HB1.out) hs (hm.below HB1.out))
 clear hb
 go_wp2_with fail
 refine HO.out.mono ?_
 rintro e w2 ⟨rfl, hb⟩
 have HB2 := qb (qa3 HB1.out hb)
 clear hb
 go_wp2
 go_ret
 exact ⟨qw HE.out.symm, HB2.out⟩
theorem jZ (xs : List Pt) (A : Option Addr) (c : Nat) (w : World) (hx : RdP w (All w) A xs) (hs : xs.length + Pt.sizes xs <= 1048576) :
  Calls Tryz.prog 65 #[.slice A xs.length c] w fun e w' => e = .returned (.bool (Pt.valid xs)) /\ Below w.heap.size w w' := by
 have HV : Hid (Pt.valid xs = (decide (Pt.manys xs <= 30) && Pt.oks xs 3 false)) := rfl
 have HX := qb hx
 have HC := qb (Xe (Pt.deeps xs) xs A c w (Nat.le_refl _) hx (km hs))
 have hmm := km hs
 clear hx
 by_cases h30 : Pt.manys xs <= 30
 case neg =>
  have h30' : decide ((Pt.manys xs : Int) <= 30) = false := by simp; omega
  have HE : Hid (Pt.valid xs = false) := by show _ = _; rw [HV.out, show decide (Pt.manys xs <= 30) = false by simp; omega]; rfl
  clear h30
  go_enter func65, ntmps65
  go_wp2_with fail
  refine HC.out.mono ?_
  rintro e w1 ⟨rfl, hb⟩
  have HB1 := qb hb
  clear hb
  go_wp2
  go_ret
  exact ⟨qw HE.out.symm, HB1.out⟩
 have h30' : decide ((Pt.manys xs : Int) <= 30) = true := by simp; omega
 have HE : Hid (Pt.valid xs = Pt.oks xs 3 false) := by show _ = _; rw [HV.out, show decide (Pt.manys xs <= 30) = true by simp; omega]; rfl
 clear h30
 go_enter func65, ntmps65
 go_wp2_with fail
 refine HC.out.mono ?_
 rintro e w1 ⟨rfl, hb⟩
 have HB1 := qb hb
 have HO := qb (Kd 3 (by omega) xs A c w1 (HX.out.now HB1.out) hs)
 clear hb
 go_wp2_with fail
 refine HO.out.mono ?_
 rintro e w2 ⟨rfl, hb⟩
 have HB2 := qb (qa3 HB1.out hb)
 clear hb
 go_wp2
 go_ret
 exact ⟨qw HE.out.symm, HB2.out⟩
theorem xw (d : Dk) (u : Value) (w : World) (hu : InD w (All w) d u) (hs : d.parts.length + Pt.sizes d.parts <= 1048576) (hs2 : d.data.length + Fd.sizes d.data <= 4194304) (hm : Hm w) :
  Calls Tryz.prog 29 #[u] w fun e w' => e = .returned (.bool (Dk.valid d)) /\ Below w.heap.size w w' := by
 obtain ⟨ps, fs⟩ := d
 obtain ⟨Ap, cp, Ad, cd, rfl, h1, h2, h3, h4⟩ := hu
 dsimp only at h1 h2 h3 h4 hs hs2 ⊢
 have hB0 := (Below.refl w.heap.size w).alloc (Nat.le_refl _) (.cells (qx Ap ps.length cp Ad fs.length cd) 30)
 have HB0 := qb hB0
 have HX0 := qb (heap_alloc_new w (.cells (qx Ap ps.length cp Ad fs.length cd) 30))
 have HP := qb (xv ps Ap cp _ (h1.now hB0) (by omega) (hm.below hB0))
 have HF := qb (fun w2 (hb : Below _ _ w2) => vW fs Ad cd w2 ((h3.now hB0).now hb) h4 hs2)
 have HV : Hid (Dk.valid ⟨ps, fs⟩ = (Pt.valid ps && Fd.valid fs)) := rfl
 have hzz : w.heap.size < (w.alloc (.cells (qx Ap ps.length cp Ad fs.length cd) 30)).heap.size := by simp
 clear h1 h2 h3 h4 hB0
 generalize Pt.valid ps = q0 at *
 generalize Fd.valid fs = q1 at *
 go_enter func29, ntmps29
 go_wp2_with fail
 refine HP.out.mono ?_
 rintro e w1 ⟨rfl, hb⟩
 have HB1 := qb (qa3 HB0.out hb)
 have HF1 := qb (HF.out w1 hb)
 obtain ⟨⟨y0, y1⟩, -⟩ := zX (qi HX0.out hb)
 clear hb
 cases q0
 ·go_wp2
  go_ret
  exact ⟨qw HV.out.symm, HB1.out⟩
 go_wp2_with fail
 refine HF1.out.mono ?_
 rintro e w2 ⟨rfl, hb⟩
 have HB2 := qb (qa3 HB1.out hb)
 clear hb
 rw [Bool.true_and] at HV
 go_wp2
 go_ret
 exact ⟨qw HV.out.symm, HB2.out⟩
theorem VD (d : Dk) (u : Value) (w : World) (hu : InD w (All w) d u) (hs : Dk.size d <= 1048576) (hm : Hm w) :
  Calls Tryz.prog 29 #[u] w fun e w' => e = .returned (.bool (Dk.valid d)) /\ Below w.heap.size w w' := xw d u w hu (by unfold Dk.size at hs; omega) (by unfold Dk.size at hs; omega) hm
theorem kn (d : Dk) (u : Value) (w : World) (hu : InD w (All w) d u) (hs : d.parts.length + Pt.sizes d.parts <= 1048576) (hs2 : d.data.length + Fd.sizes d.data <= 4194304) :
  Calls Tryz.prog 25 #[u] w fun e w' => e = .returned (.bool (Dk.valid d)) /\ Below w.heap.size w w' := by
 obtain ⟨ps, fs⟩ := d
 obtain ⟨Ap, cp, Ad, cd, rfl, h1, h2, h3, h4⟩ := hu
 dsimp only at h1 h2 h3 h4 hs hs2 ⊢
 have hB0 := (Below.refl w.heap.size w).alloc (Nat.le_refl _) (.cells (qx Ap ps.length cp Ad fs.length cd) 30)
 have HB0 := qb hB0
 have HX0 := qb (heap_alloc_new w (.cells (qx Ap ps.length cp Ad fs.length cd) 30))
 have HP := qb (jZ ps Ap cp _ (h1.now hB0) (by omega))
 have HF := qb (fun w2 (hb : Below _ _ w2) => vY fs Ad cd w2 ((h3.now hB0).now hb) hs2)
 have HV : Hid (Dk.valid ⟨ps, fs⟩ = (Pt.valid ps && Fd.valid fs)) := rfl
 have hzz : w.heap.size < (w.alloc (.cells (qx Ap ps.length cp Ad fs.length cd) 30)).heap.size := by simp
 clear h1 h2 h3 h4 hB0
 generalize Pt.valid ps = q0 at *
 generalize Fd.valid fs = q1 at *
 go_enter func25, ntmps25
 go_wp2_with fail
 refine HP.out.mono ?_
 rintro e w1 ⟨rfl, hb⟩
 have HB1 := qb (qa3 HB0.out hb)
 have HF1 := qb (HF.out w1 hb)
 obtain ⟨⟨y0, y1⟩, -⟩ := zX (qi HX0.out hb)
 clear hb
 cases q0
 ·go_wp2
  go_ret
  exact ⟨qw HV.out.symm, HB1.out⟩
 go_wp2_with fail
 refine HF1.out.mono ?_
 rintro e w2 ⟨rfl, hb⟩
 have HB2 := qb (qa3 HB1.out hb)
 clear hb
 rw [Bool.true_and] at HV
 go_wp2
 go_ret
 exact ⟨qw HV.out.symm, HB2.out⟩
theorem VE (d : Dk) (u : Value) (w : World) (hu : InD w (All w) d u) (hs : Dk.size d <= 1048576) :
  Calls Tryz.prog 25 #[u] w fun e w' => e = .returned (.bool (Dk.valid d)) /\ Below w.heap.size w w' := kn d u w hu (by unfold Dk.size at hs; omega) (by unfold Dk.size at hs; omega)
open Go.Deep
theorem safe_of {xs : List Pt} (h : Pt.valid xs = true) : Pt.safe xs = decide (Pt.ck xs St.zero = St.zero) := by unfold Pt.safe; rw [h, Bool.true_and]
theorem zK {xs : List Pt} (h : Pt.valid xs = true) : Pt.oks xs 3 false = true := by unfold Pt.valid at h; rw [Bool.and_eq_true] at h; exact h.2
theorem QJ (xs : List Pt) (A : Option Addr) (c : Nat) (w : World) (hx : RdP w (All w) A xs) (hs : xs.length + Pt.sizes xs <= 1048576) (hm : Hm w) :
  Calls Tryz.prog 68 #[.slice A xs.length c] w fun e w' => e = .returned (.bool (Pt.safe xs)) /\ Below w.heap.size w w' := by
 have HP := qb (xv xs A c w hx hs hm)
 have HX := qb hx
 clear hx
 cases hv : Pt.valid xs
 ·have HE : Hid (Pt.safe xs = false) := by show _ = _; unfold Pt.safe; rw [hv]; rfl
  rw [hv] at HP
  clear hv
  go_enter func68, ntmps68
  go_wp2_with fail
  refine HP.out.mono ?_
  rintro e w1 ⟨rfl, hb⟩
  have HB1 := qb hb
  clear hb
  go_wp2
  go_ret
  exact ⟨qw HE.out.symm, HB1.out⟩
 have HE := qb (safe_of hv)
 have HC := qb (fun w2 (hb : Below w.heap.size w w2) => XI 3 xs false 0 [] [] false A c w2 (zK hv) (HX.out.now hb) hs St.fit_lit)
 rw [hv] at HP
 clear hv
 have HZ : Hid (Pt.ck xs St.zero = Pt.ck xs ⟨0, [], [], false⟩) := rfl
 rw [HZ.out] at HE
 clear HZ
 generalize Pt.safe xs = r at *
 generalize Pt.ck xs ⟨0, [], [], false⟩ = s at *
 obtain ⟨sm, st, sa, sz⟩ := s
 go_enter func68, ntmps68
 go_wp2_with fail
 refine HP.out.mono ?_
 rintro e w1 ⟨rfl, hb⟩
 have HB1 := qb hb
 clear hb
 go_wp2_with fail
 refine (HC.out w1 HB1.out).mono ?_
 rintro e w2 ⟨rfl, hb⟩
 have HB2 := qb (qa3 HB1.out hb)
 clear hb
 have hq : jM sm st sa sz 0 [] [] false = r := HE.out.symm
 go_wp2
 go_ret
 exact ⟨qw (by first | exact hq | (rw [<- hq]; done)), HB2.out⟩
theorem QK (xs : List Pt) (A : Option Addr) (c : Nat) (w : World) (hx : RdP w (All w) A xs) (hs : xs.length + Pt.sizes xs <= 1048576) :
  Calls Tryz.prog 128 #[stV 0 [] [] false, .slice A xs.length c] w fun e w' => e = .returned (St.v (if Pt.valid xs = true then Pt.ck xs ⟨0, [], [], false⟩ else St.bad)) /\ Below w.heap.size w w' := by
 have hv0 : St.valid ⟨0, [], [], false⟩ = true := by decide
 obtain ⟨hB, g0, g1⟩ := qE w (ql 0 [] [] false) qH 90 90
 have HSV := qb (fun w => xP 0 [] [] false w (by simp) (by simp))
 rw [hv0] at HSV
 have HB0 := qb hB
 have HG0 := qb g0
 have HG1 := qb g1
 have HX := qb (hx.now hB)
 have hz0 : w.heap.size + 1 < ((w.alloc (.cells (ql 0 [] [] false) 90)).alloc (.cells qH 90)).heap.size := by simp
 have HPV := qb (fun w2 (hb : Below _ _ w2) => jZ xs A c w2 (HX.out.now hb) hs)
 have HVO := qb (zK (xs := xs))
 have HCK := qb (fun (hv : Pt.oks xs 3 false = true) w2 (hb : Below _ _ w2) => vP 3 xs false 0 [] [] false A c w2 hv (HX.out.now hb) hs St.fit_lit)
 clear hx hB g0 g1 hv0
 generalize Pt.ck xs ⟨0, [], [], false⟩ = s at *
 generalize Pt.valid xs = q at *
 obtain ⟨sm, st, sa, sz⟩ := s
 go_enter func128, ntmps128
 go_upto_region 1 with fail
 generalize (w.alloc (.cells (ql 0 [] [] false) 90)).alloc (.cells qH 90) = w0 at *
 obtain ⟨⟨y0, y1, y2, y3⟩, -⟩ := qh HG0.out
 go_wp2_with fail
 refine (HSV.out w0).mono ?_
 rintro e w1 ⟨rfl, hb⟩
 have HB1 := qb hb
 clear hb
 go_wp2_with fail
 refine (HPV.out w1 HB1.out).mono ?_
 rintro e w2 ⟨rfl, hb⟩
 have HB2 := qb (qa3 HB1.out hb)
 have HBB := qb (qa3 HB0.out HB2.out)
 have HQ0 := qb (qi HG0.out HB2.out)
 have HQ1 := qb (qi HG1.out HB2.out)
 clear hb y0 y1 y2 y3
 obtain ⟨⟨y0, y1, y2, y3⟩, -⟩ := qh HQ0.out
 obtain ⟨⟨z0, z1, z2, z3⟩, x0, x1, x2, x3⟩ := qh HQ1.out
 cases q
 ·go_wp2
  exact bodyPost_ret (qp (m := 15) (t := []) (a := []) (z := false) results128 rfl (put4 HQ1.out)) rfl ⟨rfl, qq HBB.out (by omega) _ _ _ _⟩
 go_wp2_with fail
 refine (HCK.out (by first | exact HVO.out rfl | exact HVO.out trivial) w2 HB2.out).mono ?_
 rintro e w3 ⟨rfl, hb⟩
 have HB3 := qb (qa3 HBB.out hb)
 have HQ2 := qb (qi HQ1.out hb)
 clear hb y0 y1 y2 y3 z0 z1 z2 z3 x0 x1 x2 x3
 obtain ⟨⟨z0, z1, z2, z3⟩, x0, x1, x2, x3⟩ := qh HQ2.out
 go_wp2
 exact bodyPost_ret (qp (m := sm) (t := st) (a := sa) (z := sz) results128 rfl (put4 HQ2.out)) rfl ⟨rfl, qq HB3.out (by omega) _ _ _ _⟩
theorem QL (xs : List Pt) (A : Option Addr) (c : Nat) (w : World) (hx : RdP w (All w) A xs) (hs : xs.length + Pt.sizes xs <= 1048576) :
  Calls Tryz.prog 83 #[.slice A xs.length c] w fun e w' => e = .returned (.bool (Pt.safe xs)) /\ Below w.heap.size w w' := by
 have HC := qb (QK xs A c w hx hs)
 have HE : Hid (Pt.safe xs = decide ((if Pt.valid xs = true then Pt.ck xs ⟨0, [], [], false⟩ else St.bad) = ⟨0, [], [], false⟩)) := by
  show _ = _
  unfold Pt.safe
  cases Pt.valid xs
  ·rfl
  rfl
 clear hx
 generalize Pt.safe xs = r at *
 generalize (if Pt.valid xs = true then Pt.ck xs ⟨0, [], [], false⟩ else St.bad) = s at *
 obtain ⟨sm, st, sa, sz⟩ := s
 go_enter func83, ntmps83
 go_wp2_with fail
 refine HC.out.mono ?_
 rintro e w1 ⟨rfl, hb⟩
 have HB1 := qb hb
 clear hb
 have hq : jM sm st sa sz 0 [] [] false = r := HE.out.symm
 go_wp2
 go_ret
 exact ⟨qw (by first | exact hq | (rw [<- hq]; done)), HB1.out⟩
end Go.Proofs.YtmboieajfdkllaaGreat
