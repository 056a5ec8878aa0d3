import Derived.Test.YtmboieajfdkllaaGreatQ11
namespace Go.Proofs.YtmboieajfdkllaaGreat
open Go.RowKit Go.Deep
theorem xk (m : Int) (t a : Tx) {b : UInt8} (h : a.length <= 10) : St.more m (t ++ [lowB b]) a = zB m t a false b := by
 unfold St.more zB
 by_cases h1 : (t ++ [lowB b]).length <= 10
 ·rw [if_pos h1, if_pos ⟨h1, h⟩]
 ·rw [if_neg h1, if_neg fun h2 => h1 h2.1]
theorem yS (m : Int) (t a : Tx) {b : UInt8} (h : t.length <= 10) : St.more m t (a ++ [lowB b]) = jl m t a false b := by
 unfold St.more jl
 by_cases h1 : (a ++ [lowB b]).length <= 10
 ·rw [if_pos h1, if_pos ⟨h, h1⟩]
 ·rw [if_neg h1, if_neg fun h2 => h1 h2.2]
set_option maxRecDepth 100000 in
set_option maxHeartbeats 4000000 in
theorem Xk (t : Tx) (b : UInt8) (w : World) (ht : t.length <= 10) :
  Calls Tryz.prog 170 #[stV 2 t [] false, .int .u8 (b.toNat : Int)] w fun e w' => e = .returned (St.v (St.stepTag 2 t [] false b)) /\ Below w.heap.size w w' := by
 have HLB := qb (fun w => zg b w)
 have HDB := qb (fun w => zf b w)
 have HBB := qb (fun w => zn b w)
 by_cases h62 : b = 62
 ·have n62 : ((b.toNat : Int) == 62) = true := by rw [h62]; rfl
  have HE0 : Hid (St.stepTag 2 t [] false b = if t == [115, 99, 114, 105, 112, 116] then ⟨11, [], [], false⟩ else St.zero) := by show _ = _; rw [St.stepTag, if_pos h62]; rfl
  clear h62
  generalize St.stepTag 2 t [] false b = s0 at *
  cases hs : (t == [115, 99, 114, 105, 112, 116])
  ·have HE : Hid (s0 = St.zero) := by show _ = _; rw [HE0.out, hs]; rfl
   go_enter Tryz.func170, Tryz.ntmps170
   go_wp2
   obtain ⟨g1, g2, g3⟩ := qE w (ql 2 t [] false) (ql 0 [] [] false) 90 90
   exact bodyPost_ret (qp (m := 0) (t := []) (a := []) (z := false) Tryz.results170 rfl g3) rfl ⟨by rw [HE.out]; first | done | rfl, g1⟩
  ·have HE : Hid (s0 = ⟨11, [], [], false⟩) := by show _ = _; rw [HE0.out, hs]; rfl
   go_enter Tryz.func170, Tryz.ntmps170
   go_wp2
   obtain ⟨g1, g2, g3⟩ := qE w (ql 2 t [] false) (ql 11 [] [] false) 90 90
   exact bodyPost_ret (qp (m := 11) (t := []) (a := []) (z := false) Tryz.results170 rfl g3) rfl ⟨by rw [HE.out]; first | done | rfl, g1⟩
 have n62 := qy h62 62 rfl
 by_cases h32 : b = 32
 ·have n32 : ((b.toNat : Int) == 32) = true := by rw [h32]; rfl
  have HE : Hid (St.stepTag 2 t [] false b = ⟨3, t, [], false⟩) := by show _ = _; rw [St.stepTag, if_neg h62, if_pos h32]
  clear h62 h32
  generalize St.stepTag 2 t [] false b = s0 at *
  go_enter Tryz.func170, Tryz.ntmps170
  go_wp2
  obtain ⟨g1, g2, g3⟩ := qE w (ql 2 t [] false) (ql 3 t [] false) 90 90
  exact bodyPost_ret (qp (m := 3) (t := t) (a := []) (z := false) Tryz.results170 rfl g3) rfl ⟨by rw [HE.out]; first | done | rfl, g1⟩
 have n32 := qy h32 32 rfl
 have HE0 : Hid (St.stepTag 2 t [] false b = if St.nameB b then St.more 2 (t ++ [lowB b]) [] else St.bad) := by show _ = _; rw [St.stepTag, if_neg h62, if_neg h32, if_pos rfl]
 clear h62 h32
 generalize St.stepTag 2 t [] false b = s0 at *
 obtain ⟨g1, g2, g3⟩ := qE w (ql 2 t [] false) qH 90 90
 have HG1 := qb g1
 have HG2 := qb g2
 have HG3 := qb g3
 have hz : w.heap.size + 1 < ((w.alloc (.cells (ql 2 t [] false) 90)).alloc (.cells qH 90)).heap.size := by simp
 obtain ⟨⟨y0, y1, y2, y3⟩, p0, p1, p2, p3⟩ := qh g2
 obtain ⟨⟨z0, z1, z2, z3⟩, x0, x1, x2, x3⟩ := qh g3
 clear g1 g2 g3
 go_enter Tryz.func170, Tryz.ntmps170
 go_upto_region 7 with fail
 generalize (w.alloc (.cells (ql 2 t [] false) 90)).alloc (.cells qH 90) = wb at *
 go_cut [5] (fun v wx => v = .bool (St.nameB b) /\ wb = wx)
 case first =>
  have HNN : Hid (St.nameB b = (qu b || (qK b || decide ((b.toNat : Int) = 45)))) := by show _ = _; unfold St.nameB; rw [Bool.or_assoc]
  cases hl : qu b
  case true =>
   have HR : Hid (St.nameB b = true) := by show _ = _; rw [HNN.out, hl]; rfl
   have HT := qb hl
   clear hl
   go_wp2_with (first | (go_at_call 169; refine qf (HLB.out _) ?_; rw [HT.out]) | (go_at_call 144; refine qf (HDB.out _) ?_; rw [HD.out]) | (go_at_call 171; refine qf (HBB.out _) ?_; rw [HBR.out]))
   go_meet
   case rel => exact ⟨by rw [HR.out], rfl⟩
  rw [hl] at HNN
  have HT := qb hl
  clear hl
  cases hd : qK b
  case true =>
   have HR : Hid (St.nameB b = true) := by show _ = _; rw [HNN.out, hd]; rfl
   have HD := qb hd
   clear hd
   go_wp2_with (first | (go_at_call 169; refine qf (HLB.out _) ?_; rw [HT.out]) | (go_at_call 144; refine qf (HDB.out _) ?_; rw [HD.out]) | (go_at_call 171; refine qf (HBB.out _) ?_; rw [HBR.out]))
   go_meet
   case rel => exact ⟨by rw [HR.out], rfl⟩
  rw [hd, Bool.false_or, Bool.false_or] at HNN
  have HD := qb hd
  clear hd
  have HR : Hid (St.nameB b = ((b.toNat : Int) == 45)) := by show _ = _; rw [HNN.out]; rfl
  go_wp2_with (first | (go_at_call 169; refine qf (HLB.out _) ?_; rw [HT.out]) | (go_at_call 144; refine qf (HDB.out _) ?_; rw [HD.out]) | (go_at_call 171; refine qf (HBB.out _) ?_; rw [HBR.out]))
  go_meet
  case rel => exact ⟨by rw [HR.out], rfl⟩
 case rest =>
 obtain ⟨rfl, rfl⟩ := hcut
 cases hq : St.nameB b
 case true =>
  have HE : Hid (s0 = zB 2 t [] false b) := by show _ = _; rw [HE0.out, if_pos hq, xk _ _ _ (by simp)]
  have HC0 := qb (fun w => xr 2 t [] false b w (by omega))
  generalize zB 2 t [] false b = s1 at *
  clear hq HE0
  go_wp2_with fail
  refine (HC0.out _).mono ?_
  rintro e w2 ⟨rfl, hb⟩
  have HB2 := qb (HG1.out.trans (hb.mono HG1.out.size))
  have H2 := qb (qi HG3.out hb)
  have hz2 := hb.size
  clear hb
  obtain ⟨⟨r0, r1, r2, r3⟩, k0, k1, k2, k3⟩ := qh H2.out
  obtain ⟨sm, st, sa, sz⟩ := s1
  go_wp2
  exact bodyPost_ret (qp (m := sm) (t := st) (a := sa) (z := sz) Tryz.results170 rfl (put4 H2.out)) rfl ⟨by rw [HE.out], qq HB2.out (by omega) _ _ _ _⟩
 have HE : Hid (s0 = St.bad) := by show _ = _; rw [HE0.out, if_neg (by rw [hq]; decide)]
 clear hq HE0
 go_wp2_with (first | (go_at_call 169; refine qf (HLB.out _) ?_; rw [HT.out]) | (go_at_call 144; refine qf (HDB.out _) ?_; rw [HD.out]) | (go_at_call 171; refine qf (HBB.out _) ?_; rw [HBR.out]))
 exact bodyPost_ret (qp (m := 15) (t := []) (a := []) (z := false) Tryz.results170 rfl (put4 HG3.out)) rfl ⟨by rw [HE.out]; first | done | rfl, qq HG1.out (by omega) _ _ _ _⟩
set_option maxRecDepth 100000 in
set_option maxHeartbeats 4000000 in
theorem Xl (t : Tx) (b : UInt8) (w : World) (ht : t.length <= 10) :
  Calls Tryz.prog 170 #[stV 3 t [] false, .int .u8 (b.toNat : Int)] w fun e w' => e = .returned (St.v (St.stepTag 3 t [] false b)) /\ Below w.heap.size w w' := by
 have HLB := qb (fun w => zg b w)
 have HDB := qb (fun w => zf b w)
 have HBB := qb (fun w => zn b w)
 by_cases h62 : b = 62
 ·have n62 : ((b.toNat : Int) == 62) = true := by rw [h62]; rfl
  have HE0 : Hid (St.stepTag 3 t [] false b = if t == [115, 99, 114, 105, 112, 116] then ⟨11, [], [], false⟩ else St.zero) := by show _ = _; rw [St.stepTag, if_pos h62]; rfl
  clear h62
  generalize St.stepTag 3 t [] false b = s0 at *
  cases hs : (t == [115, 99, 114, 105, 112, 116])
  ·have HE : Hid (s0 = St.zero) := by show _ = _; rw [HE0.out, hs]; rfl
   go_enter Tryz.func170, Tryz.ntmps170
   go_wp2
   obtain ⟨g1, g2, g3⟩ := qE w (ql 3 t [] false) (ql 0 [] [] false) 90 90
   exact bodyPost_ret (qp (m := 0) (t := []) (a := []) (z := false) Tryz.results170 rfl g3) rfl ⟨by rw [HE.out]; first | done | rfl, g1⟩
  ·have HE : Hid (s0 = ⟨11, [], [], false⟩) := by show _ = _; rw [HE0.out, hs]; rfl
   go_enter Tryz.func170, Tryz.ntmps170
   go_wp2
   obtain ⟨g1, g2, g3⟩ := qE w (ql 3 t [] false) (ql 11 [] [] false) 90 90
   exact bodyPost_ret (qp (m := 11) (t := []) (a := []) (z := false) Tryz.results170 rfl g3) rfl ⟨by rw [HE.out]; first | done | rfl, g1⟩
 have n62 := qy h62 62 rfl
 by_cases h32 : b = 32
 ·have n32 : ((b.toNat : Int) == 32) = true := by rw [h32]; rfl
  have HE : Hid (St.stepTag 3 t [] false b = ⟨3, t, [], false⟩) := by show _ = _; rw [St.stepTag, if_neg h62, if_pos h32]
  clear h62 h32
  generalize St.stepTag 3 t [] false b = s0 at *
  go_enter Tryz.func170, Tryz.ntmps170
  go_wp2
  obtain ⟨g1, g2, g3⟩ := qE w (ql 3 t [] false) (ql 3 t [] false) 90 90
  exact bodyPost_ret (qp (m := 3) (t := t) (a := []) (z := false) Tryz.results170 rfl g3) rfl ⟨by rw [HE.out]; first | done | rfl, g1⟩
 have n32 := qy h32 32 rfl
 have HE0 : Hid (St.stepTag 3 t [] false b = if qu b then St.more 4 t ([] ++ [lowB b]) else St.bad) := by show _ = _; rw [St.stepTag, if_neg h62, if_neg h32, if_neg (by decide), if_pos rfl]
 clear h62 h32
 generalize St.stepTag 3 t [] false b = s0 at *
 obtain ⟨g1, g2, g3⟩ := qE w (ql 3 t [] false) qH 90 90
 have HG1 := qb g1
 have HG2 := qb g2
 have HG3 := qb g3
 have hz : w.heap.size + 1 < ((w.alloc (.cells (ql 3 t [] false) 90)).alloc (.cells qH 90)).heap.size := by simp
 obtain ⟨⟨y0, y1, y2, y3⟩, p0, p1, p2, p3⟩ := qh g2
 obtain ⟨⟨z0, z1, z2, z3⟩, x0, x1, x2, x3⟩ := qh g3
 clear g1 g2 g3
 go_enter Tryz.func170, Tryz.ntmps170
 go_upto_region 7 with fail
 generalize (w.alloc (.cells (ql 3 t [] false) 90)).alloc (.cells qH 90) = wb at *
 go_cut [5] (fun v wx => v = .bool (St.nameB b) /\ wb = wx)
 case first =>
  have HNN : Hid (St.nameB b = (qu b || (qK b || decide ((b.toNat : Int) = 45)))) := by show _ = _; unfold St.nameB; rw [Bool.or_assoc]
  cases hl : qu b
  case true =>
   have HR : Hid (St.nameB b = true) := by show _ = _; rw [HNN.out, hl]; rfl
   have HT := qb hl
   clear hl
   go_wp2_with (first | (go_at_call 169; refine qf (HLB.out _) ?_; rw [HT.out]) | (go_at_call 144; refine qf (HDB.out _) ?_; rw [HD.out]) | (go_at_call 171; refine qf (HBB.out _) ?_; rw [HBR.out]))
   go_meet
   case rel => exact ⟨by rw [HR.out], rfl⟩
  rw [hl] at HNN
  have HT := qb hl
  clear hl
  cases hd : qK b
  case true =>
   have HR : Hid (St.nameB b = true) := by show _ = _; rw [HNN.out, hd]; rfl
   have HD := qb hd
   clear hd
   go_wp2_with (first | (go_at_call 169; refine qf (HLB.out _) ?_; rw [HT.out]) | (go_at_call 144; refine qf (HDB.out _) ?_; rw [HD.out]) | (go_at_call 171; refine qf (HBB.out _) ?_; rw [HBR.out]))
   go_meet
   case rel => exact ⟨by rw [HR.out], rfl⟩
  rw [hd, Bool.false_or, Bool.false_or] at HNN
  have HD := qb hd
  clear hd
  have HR : Hid (St.nameB b = ((b.toNat : Int) == 45)) := by show _ = _; rw [HNN.out]; rfl
  go_wp2_with (first | (go_at_call 169; refine qf (HLB.out _) ?_; rw [HT.out]) | (go_at_call 144; refine qf (HDB.out _) ?_; rw [HD.out]) | (go_at_call 171; refine qf (HBB.out _) ?_; rw [HBR.out]))
  go_meet
  case rel => exact ⟨by rw [HR.out], rfl⟩
 case rest =>
 obtain ⟨rfl, rfl⟩ := hcut
 generalize St.nameB b = q9 at *
 cases hl : qu b
 case true =>
  have HE : Hid (s0 = jl 4 t [] false b) := by show _ = _; rw [HE0.out, if_pos hl, yS _ _ _ ht]
  have HC0 := qb (fun w => ZY 4 t [] false b w (by simp))
  generalize jl 4 t [] false b = s1 at *
  have HT := qb hl
  have HG4 := qb ((Below.heap_setCell wb ⟨w.heap.size, 0, none⟩ (.int .i64 4) (w.heap.size + 1) (show w.heap.size + 1 ≠ w.heap.size by omega)).trans HG3.out)
  have HB4 := qb (HG1.out.setCell (p := ⟨w.heap.size, 0, none⟩) (Nat.le_refl _) (.int .i64 4))
  have hz9 : w.heap.size + 1 < (wb.setCell ⟨w.heap.size, 0, none⟩ (.int .i64 4)).heap.size := by simpa using hz
  clear hl HE0
  go_wp2_with (first | (go_at_call 169; refine qf (HLB.out _) ?_; rw [HT.out]) | (go_at_call 144; refine qf (HDB.out _) ?_; rw [HD.out]) | (go_at_call 171; refine qf (HBB.out _) ?_; rw [HBR.out]))
  go_wp2_with fail
  refine (HC0.out _).mono ?_
  rintro e w2 ⟨rfl, hb⟩
  have HB2 := qb (HB4.out.trans (hb.mono HB4.out.size))
  have H2 := qb (qi HG4.out hb)
  have hz2 := hb.size
  clear hb
  obtain ⟨⟨r0, r1, r2, r3⟩, k0, k1, k2, k3⟩ := qh H2.out
  obtain ⟨sm, st, sa, sz⟩ := s1
  go_wp2
  exact bodyPost_ret (qp (m := sm) (t := st) (a := sa) (z := sz) Tryz.results170 rfl (put4 H2.out)) rfl ⟨by rw [HE.out], qq HB2.out (by omega) _ _ _ _⟩
 have HE : Hid (s0 = St.bad) := by show _ = _; rw [HE0.out, if_neg (by rw [hl]; decide)]
 have HT := qb hl
 clear hl HE0
 go_wp2_with (first | (go_at_call 169; refine qf (HLB.out _) ?_; rw [HT.out]) | (go_at_call 144; refine qf (HDB.out _) ?_; rw [HD.out]) | (go_at_call 171; refine qf (HBB.out _) ?_; rw [HBR.out]))
 exact bodyPost_ret (qp (m := 15) (t := []) (a := []) (z := false) Tryz.results170 rfl (put4 HG3.out)) rfl ⟨by rw [HE.out]; first | done | rfl, qq HG1.out (by omega) _ _ _ _⟩
set_option maxRecDepth 100000 in
set_option maxHeartbeats 4000000 in
theorem Xm (t : Tx) (a : Tx) (b : UInt8) (w : World) (ht : t.length <= 10) (ha : a.length <= 10) :
  Calls Tryz.prog 170 #[stV 4 t a false, .int .u8 (b.toNat : Int)] w fun e w' => e = .returned (St.v (St.stepTag 4 t a false b)) /\ Below w.heap.size w w' := by
 have HLB := qb (fun w => zg b w)
 have HDB := qb (fun w => zf b w)
 have HBB := qb (fun w => zn b w)
 by_cases h62 : b = 62
 ·have n62 : ((b.toNat : Int) == 62) = true := by rw [h62]; rfl
  have HE0 : Hid (St.stepTag 4 t a false b = if t == [115, 99, 114, 105, 112, 116] then ⟨11, [], [], false⟩ else St.zero) := by show _ = _; rw [St.stepTag, if_pos h62]; rfl
  clear h62
  generalize St.stepTag 4 t a false b = s0 at *
  cases hs : (t == [115, 99, 114, 105, 112, 116])
  ·have HE : Hid (s0 = St.zero) := by show _ = _; rw [HE0.out, hs]; rfl
   go_enter Tryz.func170, Tryz.ntmps170
   go_wp2
   obtain ⟨g1, g2, g3⟩ := qE w (ql 4 t a false) (ql 0 [] [] false) 90 90
   exact bodyPost_ret (qp (m := 0) (t := []) (a := []) (z := false) Tryz.results170 rfl g3) rfl ⟨by rw [HE.out]; first | done | rfl, g1⟩
  ·have HE : Hid (s0 = ⟨11, [], [], false⟩) := by show _ = _; rw [HE0.out, hs]; rfl
   go_enter Tryz.func170, Tryz.ntmps170
   go_wp2
   obtain ⟨g1, g2, g3⟩ := qE w (ql 4 t a false) (ql 11 [] [] false) 90 90
   exact bodyPost_ret (qp (m := 11) (t := []) (a := []) (z := false) Tryz.results170 rfl g3) rfl ⟨by rw [HE.out]; first | done | rfl, g1⟩
 have n62 := qy h62 62 rfl
 by_cases h32 : b = 32
 ·have n32 : ((b.toNat : Int) == 32) = true := by rw [h32]; rfl
  have HE : Hid (St.stepTag 4 t a false b = ⟨3, t, [], false⟩) := by show _ = _; rw [St.stepTag, if_neg h62, if_pos h32]
  clear h62 h32
  generalize St.stepTag 4 t a false b = s0 at *
  go_enter Tryz.func170, Tryz.ntmps170
  go_wp2
  obtain ⟨g1, g2, g3⟩ := qE w (ql 4 t a false) (ql 3 t [] false) 90 90
  exact bodyPost_ret (qp (m := 3) (t := t) (a := []) (z := false) Tryz.results170 rfl g3) rfl ⟨by rw [HE.out]; first | done | rfl, g1⟩
 have n32 := qy h32 32 rfl
 have HE0 : Hid (St.stepTag 4 t a false b = if St.nameB b then St.more 4 t (a ++ [lowB b]) else if b = 61 then ⟨5, t, a, false⟩ else St.bad) := by show _ = _; rw [St.stepTag, if_neg h62, if_neg h32, if_neg (by decide), if_neg (by decide), if_pos rfl]
 clear h62 h32
 generalize St.stepTag 4 t a false b = s0 at *
 obtain ⟨g1, g2, g3⟩ := qE w (ql 4 t a false) qH 90 90
 have HG1 := qb g1
 have HG2 := qb g2
 have HG3 := qb g3
 have hz : w.heap.size + 1 < ((w.alloc (.cells (ql 4 t a false) 90)).alloc (.cells qH 90)).heap.size := by simp
 obtain ⟨⟨y0, y1, y2, y3⟩, p0, p1, p2, p3⟩ := qh g2
 obtain ⟨⟨z0, z1, z2, z3⟩, x0, x1, x2, x3⟩ := qh g3
 clear g1 g2 g3
 go_enter Tryz.func170, Tryz.ntmps170
 go_upto_region 7 with fail
 generalize (w.alloc (.cells (ql 4 t a false) 90)).alloc (.cells qH 90) = wb at *
 go_cut [5] (fun v wx => v = .bool (St.nameB b) /\ wb = wx)
 case first =>
  have HNN : Hid (St.nameB b = (qu b || (qK b || decide ((b.toNat : Int) = 45)))) := by show _ = _; unfold St.nameB; rw [Bool.or_assoc]
  cases hl : qu b
  case true =>
   have HR : Hid (St.nameB b = true) := by show _ = _; rw [HNN.out, hl]; rfl
   have HT := qb hl
   clear hl
   go_wp2_with (first | (go_at_call 169; refine qf (HLB.out _) ?_; rw [HT.out]) | (go_at_call 144; refine qf (HDB.out _) ?_; rw [HD.out]) | (go_at_call 171; refine qf (HBB.out _) ?_; rw [HBR.out]))
   go_meet
   case rel => exact ⟨by rw [HR.out], rfl⟩
  rw [hl] at HNN
  have HT := qb hl
  clear hl
  cases hd : qK b
  case true =>
   have HR : Hid (St.nameB b = true) := by show _ = _; rw [HNN.out, hd]; rfl
   have HD := qb hd
   clear hd
   go_wp2_with (first | (go_at_call 169; refine qf (HLB.out _) ?_; rw [HT.out]) | (go_at_call 144; refine qf (HDB.out _) ?_; rw [HD.out]) | (go_at_call 171; refine qf (HBB.out _) ?_; rw [HBR.out]))
   go_meet
   case rel => exact ⟨by rw [HR.out], rfl⟩
  rw [hd, Bool.false_or, Bool.false_or] at HNN
  have HD := qb hd
  clear hd
  have HR : Hid (St.nameB b = ((b.toNat : Int) == 45)) := by show _ = _; rw [HNN.out]; rfl
  go_wp2_with (first | (go_at_call 169; refine qf (HLB.out _) ?_; rw [HT.out]) | (go_at_call 144; refine qf (HDB.out _) ?_; rw [HD.out]) | (go_at_call 171; refine qf (HBB.out _) ?_; rw [HBR.out]))
  go_meet
  case rel => exact ⟨by rw [HR.out], rfl⟩
 case rest =>
 obtain ⟨rfl, rfl⟩ := hcut
 cases hq : St.nameB b
 case true =>
  have HE : Hid (s0 = jl 4 t a false b) := by show _ = _; rw [HE0.out, if_pos hq, yS _ _ _ ht]
  have HC0 := qb (fun w => ZY 4 t a false b w (by omega))
  generalize jl 4 t a false b = s1 at *
  clear hq HE0
  go_wp2_with fail
  refine (HC0.out _).mono ?_
  rintro e w2 ⟨rfl, hb⟩
  have HB2 := qb (HG1.out.trans (hb.mono HG1.out.size))
  have H2 := qb (qi HG3.out hb)
  have hz2 := hb.size
  clear hb
  obtain ⟨⟨r0, r1, r2, r3⟩, k0, k1, k2, k3⟩ := qh H2.out
  obtain ⟨sm, st, sa, sz⟩ := s1
  go_wp2
  exact bodyPost_ret (qp (m := sm) (t := st) (a := sa) (z := sz) Tryz.results170 rfl (put4 H2.out)) rfl ⟨by rw [HE.out], qq HB2.out (by omega) _ _ _ _⟩
 by_cases h61 : b = 61
 ·have HE : Hid (s0 = ⟨5, t, a, false⟩) := by show _ = _; rw [HE0.out, if_neg (by rw [hq]; decide), if_pos h61]
  have n61 : ((b.toNat : Int) == 61) = true := by rw [h61]; rfl
  have HG4 := qb ((Below.heap_setCell wb ⟨w.heap.size, 0, none⟩ (.int .i64 5) (w.heap.size + 1) (show w.heap.size + 1 ≠ w.heap.size by omega)).trans HG3.out)
  have HB4 := qb (HG1.out.setCell (p := ⟨w.heap.size, 0, none⟩) (Nat.le_refl _) (.int .i64 5))
  clear h61 hq HE0
  go_wp2_with (first | (go_at_call 169; refine qf (HLB.out _) ?_; rw [HT.out]) | (go_at_call 144; refine qf (HDB.out _) ?_; rw [HD.out]) | (go_at_call 171; refine qf (HBB.out _) ?_; rw [HBR.out]))
  exact bodyPost_ret (qp (m := 5) (t := t) (a := a) (z := false) Tryz.results170 rfl (put4 HG4.out)) rfl ⟨by rw [HE.out]; first | done | rfl, qq HB4.out (by omega) _ _ _ _⟩
 have n61 := qy h61 61 rfl
 have HE : Hid (s0 = St.bad) := by show _ = _; rw [HE0.out, if_neg (by rw [hq]; decide), if_neg h61]
 clear h61
 clear hq HE0
 go_wp2_with (first | (go_at_call 169; refine qf (HLB.out _) ?_; rw [HT.out]) | (go_at_call 144; refine qf (HDB.out _) ?_; rw [HD.out]) | (go_at_call 171; refine qf (HBB.out _) ?_; rw [HBR.out]))
 exact bodyPost_ret (qp (m := 15) (t := []) (a := []) (z := false) Tryz.results170 rfl (put4 HG3.out)) rfl ⟨by rw [HE.out]; first | done | rfl, qq HG1.out (by omega) _ _ _ _⟩
set_option maxRecDepth 100000 in
set_option maxHeartbeats 4000000 in
theorem Xn (t : Tx) (a : Tx) (z : Bool) (b : UInt8) (w : World)  :
  Calls Tryz.prog 170 #[stV 8 t a z, .int .u8 (b.toNat : Int)] w fun e w' => e = .returned (St.v (St.stepTag 8 t a z b)) /\ Below w.heap.size w w' := by
 have HLB := qb (fun w => zg b w)
 have HDB := qb (fun w => zf b w)
 have HBB := qb (fun w => zn b w)
 by_cases h62 : b = 62
 ·have n62 : ((b.toNat : Int) == 62) = true := by rw [h62]; rfl
  have HE0 : Hid (St.stepTag 8 t a z b = if t == [115, 99, 114, 105, 112, 116] then ⟨11, [], [], false⟩ else St.zero) := by show _ = _; rw [St.stepTag, if_pos h62]; rfl
  clear h62
  generalize St.stepTag 8 t a z b = s0 at *
  cases hs : (t == [115, 99, 114, 105, 112, 116])
  ·have HE : Hid (s0 = St.zero) := by show _ = _; rw [HE0.out, hs]; rfl
   go_enter Tryz.func170, Tryz.ntmps170
   go_wp2
   obtain ⟨g1, g2, g3⟩ := qE w (ql 8 t a z) (ql 0 [] [] false) 90 90
   exact bodyPost_ret (qp (m := 0) (t := []) (a := []) (z := false) Tryz.results170 rfl g3) rfl ⟨by rw [HE.out]; first | done | rfl, g1⟩
  ·have HE : Hid (s0 = ⟨11, [], [], false⟩) := by show _ = _; rw [HE0.out, hs]; rfl
   go_enter Tryz.func170, Tryz.ntmps170
   go_wp2
   obtain ⟨g1, g2, g3⟩ := qE w (ql 8 t a z) (ql 11 [] [] false) 90 90
   exact bodyPost_ret (qp (m := 11) (t := []) (a := []) (z := false) Tryz.results170 rfl g3) rfl ⟨by rw [HE.out]; first | done | rfl, g1⟩
 have n62 := qy h62 62 rfl
 by_cases h32 : b = 32
 ·have n32 : ((b.toNat : Int) == 32) = true := by rw [h32]; rfl
  have HE : Hid (St.stepTag 8 t a z b = ⟨3, t, [], false⟩) := by show _ = _; rw [St.stepTag, if_neg h62, if_pos h32]
  clear h62 h32
  generalize St.stepTag 8 t a z b = s0 at *
  go_enter Tryz.func170, Tryz.ntmps170
  go_wp2
  obtain ⟨g1, g2, g3⟩ := qE w (ql 8 t a z) (ql 3 t [] false) 90 90
  exact bodyPost_ret (qp (m := 3) (t := t) (a := []) (z := false) Tryz.results170 rfl g3) rfl ⟨by rw [HE.out]; first | done | rfl, g1⟩
 have n32 := qy h32 32 rfl
 have HE0 : Hid (St.stepTag 8 t a z b = if St.bareB b then ⟨8, t, a, z⟩ else St.bad) := by show _ = _; rw [St.stepTag, if_neg h62, if_neg h32, if_neg (by decide), if_neg (by decide), if_neg (by decide)]
 clear h62 h32
 generalize St.stepTag 8 t a z b = s0 at *
 obtain ⟨g1, g2, g3⟩ := qE w (ql 8 t a z) qH 90 90
 have HG1 := qb g1
 have HG2 := qb g2
 have HG3 := qb g3
 have hz : w.heap.size + 1 < ((w.alloc (.cells (ql 8 t a z) 90)).alloc (.cells qH 90)).heap.size := by simp
 obtain ⟨⟨y0, y1, y2, y3⟩, p0, p1, p2, p3⟩ := qh g2
 obtain ⟨⟨z0, z1, z2, z3⟩, x0, x1, x2, x3⟩ := qh g3
 clear g1 g2 g3
 go_enter Tryz.func170, Tryz.ntmps170
 go_upto_region 7 with fail
 generalize (w.alloc (.cells (ql 8 t a z) 90)).alloc (.cells qH 90) = wb at *
 go_cut [5] (fun v wx => v = .bool (St.nameB b) /\ wb = wx)
 case first =>
  have HNN : Hid (St.nameB b = (qu b || (qK b || decide ((b.toNat : Int) = 45)))) := by show _ = _; unfold St.nameB; rw [Bool.or_assoc]
  cases hl : qu b
  case true =>
   have HR : Hid (St.nameB b = true) := by show _ = _; rw [HNN.out, hl]; rfl
   have HT := qb hl
   clear hl
   go_wp2_with (first | (go_at_call 169; refine qf (HLB.out _) ?_; rw [HT.out]) | (go_at_call 144; refine qf (HDB.out _) ?_; rw [HD.out]) | (go_at_call 171; refine qf (HBB.out _) ?_; rw [HBR.out]))
   go_meet
   case rel => exact ⟨by rw [HR.out], rfl⟩
  rw [hl] at HNN
  have HT := qb hl
  clear hl
  cases hd : qK b
  case true =>
   have HR : Hid (St.nameB b = true) := by show _ = _; rw [HNN.out, hd]; rfl
   have HD := qb hd
   clear hd
   go_wp2_with (first | (go_at_call 169; refine qf (HLB.out _) ?_; rw [HT.out]) | (go_at_call 144; refine qf (HDB.out _) ?_; rw [HD.out]) | (go_at_call 171; refine qf (HBB.out _) ?_; rw [HBR.out]))
   go_meet
   case rel => exact ⟨by rw [HR.out], rfl⟩
  rw [hd, Bool.false_or, Bool.false_or] at HNN
  have HD := qb hd
  clear hd
  have HR : Hid (St.nameB b = ((b.toNat : Int) == 45)) := by show _ = _; rw [HNN.out]; rfl
  go_wp2_with (first | (go_at_call 169; refine qf (HLB.out _) ?_; rw [HT.out]) | (go_at_call 144; refine qf (HDB.out _) ?_; rw [HD.out]) | (go_at_call 171; refine qf (HBB.out _) ?_; rw [HBR.out]))
  go_meet
  case rel => exact ⟨by rw [HR.out], rfl⟩
 case rest =>
 obtain ⟨rfl, rfl⟩ := hcut
 generalize St.nameB b = q9 at *
 cases hq : St.bareB b
 case true =>
  have HE : Hid (s0 = ⟨8, t, a, z⟩) := by show _ = _; rw [HE0.out, if_pos hq]
  have HBR := qb hq
  clear hq HE0
  go_wp2_with (first | (go_at_call 169; refine qf (HLB.out _) ?_; rw [HT.out]) | (go_at_call 144; refine qf (HDB.out _) ?_; rw [HD.out]) | (go_at_call 171; refine qf (HBB.out _) ?_; rw [HBR.out]))
  exact bodyPost_ret (qp (m := 8) (t := t) (a := a) (z := z) Tryz.results170 rfl (put4 HG3.out)) rfl ⟨by rw [HE.out]; first | done | rfl, qq HG1.out (by omega) _ _ _ _⟩
 have HE : Hid (s0 = St.bad) := by show _ = _; rw [HE0.out, if_neg (by rw [hq]; decide)]
 have HBR := qb hq
 clear hq HE0
 go_wp2_with (first | (go_at_call 169; refine qf (HLB.out _) ?_; rw [HT.out]) | (go_at_call 144; refine qf (HDB.out _) ?_; rw [HD.out]) | (go_at_call 171; refine qf (HBB.out _) ?_; rw [HBR.out]))
 exact bodyPost_ret (qp (m := 15) (t := []) (a := []) (z := false) Tryz.results170 rfl (put4 HG3.out)) rfl ⟨by rw [HE.out]; first | done | rfl, qq HG1.out (by omega) _ _ _ _⟩
end Go.Proofs.YtmboieajfdkllaaGreat
