import Derived.Test.YtmboieajfdkllaaGreatQ12
import Derived.Test.YtmboieajfdkllaaGreatQ14
namespace Go.Proofs.YtmboieajfdkllaaGreat
open Go.RowKit Go.Deep
set_option maxRecDepth 100000 in
set_option maxHeartbeats 4000000 in
theorem Ve  (b : UInt8) (w : World)  (hv : ∀ w, Calls Tryz.prog 121 #[stV 0 [] [] false] w fun e w' => e = .returned (.bool true) /\ Below w.heap.size w w') :
  Calls Tryz.prog 146 #[stV 0 [] [] false, .int .u8 (b.toNat : Int)] w fun e w' => e = .returned (St.v (St.stepV ⟨0, [], [], false⟩ b)) /\ Below w.heap.size w w' := by
 have HV := qb hv
 clear hv
 have HLB := qb (fun w => zg b w)
 have HDB := qb (fun w => zf b w)
 have HBB := qb (fun w => zn b w)
 by_cases h60 : b = 60
 ·have HE : Hid (St.stepV ⟨0, [], [], false⟩ b = ⟨1, [], [], false⟩) := by show _ = _; rw [St.stepV, if_pos rfl, if_pos h60]
  have hb : (b.toNat : Int) = 60 := by rw [h60]; rfl
  obtain ⟨n60, n62, n47, n33, n34, n39, n92, n45, d60, d62, d47, d33, d34, d39, d92, d45⟩ := VN hb true false false false false false false false false true true true true true true true (by decide)
  have HD : Hid (qK b = false) := by show _ = _; rw [h60]; decide
  have HT : Hid (qu b = false) := by show _ = _; rw [h60]; decide
  have HBR : Hid (St.bareB b = false) := by show _ = _; rw [h60]; decide
  clear hb
  clear h60
  generalize St.stepV ⟨0, [], [], false⟩ b = s0 at *
  go_enter Tryz.func146, Tryz.ntmps146
  go_wp2_with fail
  refine (HV.out _).mono ?_
  rintro e w1 ⟨rfl, hb⟩
  obtain ⟨hB, g0, g1, g2, hz⟩ := qB hb
  have HB := qb hB
  have H1 := qb g1
  obtain ⟨⟨y0, y1, y2, y3⟩, p0, p1, p2, p3⟩ := qh g0
  obtain ⟨⟨z0, z1, z2, z3⟩, x0, x1, x2, x3⟩ := qh g1
  obtain ⟨⟨u0, u1, u2, u3⟩, -⟩ := qh g2
  clear hb hB g0 g1 g2
  go_wp2_with (first | (go_at_call 169; refine qf (HLB.out _) ?_; rw [HT.out]) | (go_at_call 144; refine qf (HDB.out _) ?_; rw [HD.out]) | (go_at_call 171; refine qf (HBB.out _) ?_; rw [HBR.out]))
  exact bodyPost_ret (qp (m := 1) (t := []) (a := []) (z := false) Tryz.results146 rfl (put4 ((Below.heap_setCell _ ⟨w.heap.size, 0, none⟩ (.int .i64 1) (w.heap.size + 1) (show w.heap.size + 1 ≠ w.heap.size by omega)).trans (H1.out)))) rfl ⟨by rw [HE.out]; first | done | rfl, qq (Below.setCell (HB.out) (p := ⟨w.heap.size, 0, none⟩) (Nat.le_refl _) (.int .i64 1)) (by omega) _ _ _ _⟩
 have n60 := qy h60 60 rfl
 have d60 : ((b.toNat : Int) != 60) = true := by rw [bne, n60]; rfl
 have HE : Hid (St.stepV ⟨0, [], [], false⟩ b = St.zero) := by show _ = _; rw [St.stepV, if_pos rfl, if_neg h60]
 generalize St.stepV ⟨0, [], [], false⟩ b = s0 at *
 go_enter Tryz.func146, Tryz.ntmps146
 go_wp2_with fail
 refine (HV.out _).mono ?_
 rintro e w1 ⟨rfl, hb⟩
 obtain ⟨hB, g0, g1, g2, hz⟩ := qB hb
 have HB := qb hB
 have H1 := qb g1
 obtain ⟨⟨y0, y1, y2, y3⟩, p0, p1, p2, p3⟩ := qh g0
 obtain ⟨⟨z0, z1, z2, z3⟩, x0, x1, x2, x3⟩ := qh g1
 obtain ⟨⟨u0, u1, u2, u3⟩, -⟩ := qh g2
 clear hb hB g0 g1 g2
 go_wp2_with (first | (go_at_call 169; refine qf (HLB.out _) ?_; rw [HT.out]) | (go_at_call 144; refine qf (HDB.out _) ?_; rw [HD.out]) | (go_at_call 171; refine qf (HBB.out _) ?_; rw [HBR.out]))
 exact bodyPost_ret (qp (m := 0) (t := []) (a := []) (z := false) Tryz.results146 rfl (put4 H1.out)) rfl ⟨by rw [HE.out]; first | done | rfl, qq HB.out (by omega) _ _ _ _⟩
set_option maxRecDepth 100000 in
set_option maxHeartbeats 4000000 in
theorem Vf  (b : UInt8) (w : World)  (hv : ∀ w, Calls Tryz.prog 121 #[stV 10 [] [] false] w fun e w' => e = .returned (.bool true) /\ Below w.heap.size w w') :
  Calls Tryz.prog 146 #[stV 10 [] [] false, .int .u8 (b.toNat : Int)] w fun e w' => e = .returned (St.v (St.stepV ⟨10, [], [], false⟩ b)) /\ Below w.heap.size w w' := by
 have HV := qb hv
 clear hv
 have HLB := qb (fun w => zg b w)
 have HDB := qb (fun w => zf b w)
 have HBB := qb (fun w => zn b w)
 by_cases h62 : b = 62
 ·have HE : Hid (St.stepV ⟨10, [], [], false⟩ b = St.zero) := by show _ = _; rw [St.stepV]; (iterate 6 rw [if_neg (by simp)]); rw [if_pos rfl, if_pos h62]
  have hb : (b.toNat : Int) = 62 := by rw [h62]; rfl
  obtain ⟨n60, n62, n47, n33, n34, n39, n92, n45, d60, d62, d47, d33, d34, d39, d92, d45⟩ := VN hb false true false false false false false false true false true true true true true true (by decide)
  have HD : Hid (qK b = false) := by show _ = _; rw [h62]; decide
  have HT : Hid (qu b = false) := by show _ = _; rw [h62]; decide
  have HBR : Hid (St.bareB b = false) := by show _ = _; rw [h62]; decide
  clear hb
  clear h62
  generalize St.stepV ⟨10, [], [], false⟩ b = s0 at *
  go_enter Tryz.func146, Tryz.ntmps146
  go_wp2_with fail
  refine (HV.out _).mono ?_
  rintro e w1 ⟨rfl, hb⟩
  obtain ⟨hB, g0, g1, g2, hz⟩ := qB hb
  have HB := qb hB
  have H1 := qb g1
  obtain ⟨⟨y0, y1, y2, y3⟩, p0, p1, p2, p3⟩ := qh g0
  obtain ⟨⟨z0, z1, z2, z3⟩, x0, x1, x2, x3⟩ := qh g1
  obtain ⟨⟨u0, u1, u2, u3⟩, -⟩ := qh g2
  clear hb hB g0 g1 g2
  go_wp2_with (first | (go_at_call 169; refine qf (HLB.out _) ?_; rw [HT.out]) | (go_at_call 144; refine qf (HDB.out _) ?_; rw [HD.out]) | (go_at_call 171; refine qf (HBB.out _) ?_; rw [HBR.out]))
  exact bodyPost_ret (qp (m := 0) (t := []) (a := []) (z := false) Tryz.results146 rfl (put4 H1.out)) rfl ⟨by rw [HE.out]; first | done | rfl, qq HB.out (by omega) _ _ _ _⟩
 have n62 := qy h62 62 rfl
 have d62 : ((b.toNat : Int) != 62) = true := by rw [bne, n62]; rfl
 have HE : Hid (St.stepV ⟨10, [], [], false⟩ b = ⟨10, [], [], false⟩) := by show _ = _; rw [St.stepV]; (iterate 6 rw [if_neg (by simp)]); rw [if_pos rfl, if_neg h62]
 generalize St.stepV ⟨10, [], [], false⟩ b = s0 at *
 go_enter Tryz.func146, Tryz.ntmps146
 go_wp2_with fail
 refine (HV.out _).mono ?_
 rintro e w1 ⟨rfl, hb⟩
 obtain ⟨hB, g0, g1, g2, hz⟩ := qB hb
 have HB := qb hB
 have H1 := qb g1
 obtain ⟨⟨y0, y1, y2, y3⟩, p0, p1, p2, p3⟩ := qh g0
 obtain ⟨⟨z0, z1, z2, z3⟩, x0, x1, x2, x3⟩ := qh g1
 obtain ⟨⟨u0, u1, u2, u3⟩, -⟩ := qh g2
 clear hb hB g0 g1 g2
 go_wp2_with (first | (go_at_call 169; refine qf (HLB.out _) ?_; rw [HT.out]) | (go_at_call 144; refine qf (HDB.out _) ?_; rw [HD.out]) | (go_at_call 171; refine qf (HBB.out _) ?_; rw [HBR.out]))
 exact bodyPost_ret (qp (m := 10) (t := []) (a := []) (z := false) Tryz.results146 rfl (put4 H1.out)) rfl ⟨by rw [HE.out]; first | done | rfl, qq HB.out (by omega) _ _ _ _⟩
set_option maxRecDepth 100000 in
set_option maxHeartbeats 4000000 in
theorem Vg  (b : UInt8) (w : World)  (hv : ∀ w, Calls Tryz.prog 121 #[stV 15 [] [] false] w fun e w' => e = .returned (.bool true) /\ Below w.heap.size w w') :
  Calls Tryz.prog 146 #[stV 15 [] [] false, .int .u8 (b.toNat : Int)] w fun e w' => e = .returned (St.v (St.stepV ⟨15, [], [], false⟩ b)) /\ Below w.heap.size w w' := by
 have HV := qb hv
 clear hv
 have HLB := qb (fun w => zg b w)
 have HDB := qb (fun w => zf b w)
 have HBB := qb (fun w => zn b w)
 have HE : Hid (St.stepV ⟨15, [], [], false⟩ b = St.bad) := by show _ = _; rw [St.stepV]; (iterate 11 rw [if_neg (by simp)]); rw [if_pos rfl]
 generalize St.stepV ⟨15, [], [], false⟩ b = s0 at *
 go_enter Tryz.func146, Tryz.ntmps146
 go_wp2_with fail
 refine (HV.out _).mono ?_
 rintro e w1 ⟨rfl, hb⟩
 obtain ⟨hB, g0, g1, g2, hz⟩ := qB hb
 have HB := qb hB
 have H1 := qb g1
 obtain ⟨⟨y0, y1, y2, y3⟩, p0, p1, p2, p3⟩ := qh g0
 obtain ⟨⟨z0, z1, z2, z3⟩, x0, x1, x2, x3⟩ := qh g1
 obtain ⟨⟨u0, u1, u2, u3⟩, -⟩ := qh g2
 clear hb hB g0 g1 g2
 go_wp2_with (first | (go_at_call 169; refine qf (HLB.out _) ?_; rw [HT.out]) | (go_at_call 144; refine qf (HDB.out _) ?_; rw [HD.out]) | (go_at_call 171; refine qf (HBB.out _) ?_; rw [HBR.out]))
 exact bodyPost_ret (qp (m := 15) (t := []) (a := []) (z := false) Tryz.results146 rfl (put4 H1.out)) rfl ⟨by rw [HE.out]; first | done | rfl, qq HB.out (by omega) _ _ _ _⟩
set_option maxRecDepth 100000 in
set_option maxHeartbeats 4000000 in
theorem Vh  (b : UInt8) (w : World)  (hv : ∀ w, Calls Tryz.prog 121 #[stV 1 [] [] false] w fun e w' => e = .returned (.bool true) /\ Below w.heap.size w w') :
  Calls Tryz.prog 146 #[stV 1 [] [] false, .int .u8 (b.toNat : Int)] w fun e w' => e = .returned (St.v (St.stepV ⟨1, [], [], false⟩ b)) /\ Below w.heap.size w w' := by
 have HV := qb hv
 clear hv
 have HLB := qb (fun w => zg b w)
 have HDB := qb (fun w => zf b w)
 have HBB := qb (fun w => zn b w)
 cases hq : qu b
 case true =>
  have HE : Hid (St.stepV ⟨1, [], [], false⟩ b = ⟨2, [lowB b], [], false⟩) := by show _ = _; rw [St.stepV, if_neg (by simp), if_pos rfl, if_pos hq]
  have HT := qb hq
  clear hq
  have HC0 := qb (fun w => xA [b] (by simp) w)
  rw [show qW [b] = [lowB b] from rfl] at HC0
  generalize lowB b = c at *
  generalize St.stepV ⟨1, [], [], false⟩ b = s0 at *
  go_enter Tryz.func146, Tryz.ntmps146
  go_wp2_with fail
  refine (HV.out _).mono ?_
  rintro e w1 ⟨rfl, hb⟩
  obtain ⟨hB, g0, g1, g2, hz⟩ := qB hb
  have HB := qb hB
  have H1 := qb g1
  obtain ⟨⟨y0, y1, y2, y3⟩, p0, p1, p2, p3⟩ := qh g0
  obtain ⟨⟨z0, z1, z2, z3⟩, x0, x1, x2, x3⟩ := qh g1
  obtain ⟨⟨u0, u1, u2, u3⟩, -⟩ := qh g2
  clear hb hB g0 g1 g2
  have hcv := zN (P := Tryz.prog) Tryz.underlying44 Tryz.underlying5 Tryz.underlying9 b (b.toNat : Int) rfl w1
  go_wp2_with (first | (go_at_call 169; refine qf (HLB.out _) ?_; rw [HT.out]) | (go_at_call 144; refine qf (HDB.out _) ?_; rw [HD.out]) | (go_at_call 171; refine qf (HBB.out _) ?_; rw [HBR.out]))
  refine (HC0.out _).mono ?_
  rintro e w2 ⟨rfl, hb⟩
  have hb2 : Below w1.heap.size w1 w2 := ((Below.refl _ _).alloc (Nat.le_refl _) _).trans (hb.mono (by simp))
  have HB2 := qb (HB.out.trans (hb2.mono HB.out.size))
  have H2 := qb (qi H1.out hb2)
  have hz2 := hb2.size
  clear hb hb2 z0 z1 z2 z3 x0 x1 x2 x3
  obtain ⟨⟨z0, z1, z2, z3⟩, x0, x1, x2, x3⟩ := qh H2.out
  go_wp2
  exact bodyPost_ret (qp (m := 2) (t := [c]) (a := []) (z := false) Tryz.results146 rfl (put4 H2.out)) rfl ⟨by rw [HE.out], qq HB2.out (by omega) _ _ _ _⟩
 have HF : Hid (qu b = false) := hq
 by_cases h47 : b = 47
 ·have HE : Hid (St.stepV ⟨1, [], [], false⟩ b = ⟨9, [], [], false⟩) := by show _ = _; rw [St.stepV, if_neg (by simp), if_pos rfl, if_neg (by rw [hq]; decide), if_pos h47]
  clear HF hq
  have hb : (b.toNat : Int) = 47 := by rw [h47]; rfl
  obtain ⟨n60, n62, n47, n33, n34, n39, n92, n45, d60, d62, d47, d33, d34, d39, d92, d45⟩ := VN hb false false true false false false false false true true false true true true true true (by decide)
  have HD : Hid (qK b = false) := by show _ = _; rw [h47]; decide
  have HT : Hid (qu b = false) := by show _ = _; rw [h47]; decide
  have HBR : Hid (St.bareB b = true) := by show _ = _; rw [h47]; decide
  clear hb
  clear h47
  generalize St.stepV ⟨1, [], [], false⟩ b = s0 at *
  go_enter Tryz.func146, Tryz.ntmps146
  go_wp2_with fail
  refine (HV.out _).mono ?_
  rintro e w1 ⟨rfl, hb⟩
  obtain ⟨hB, g0, g1, g2, hz⟩ := qB hb
  have HB := qb hB
  have H1 := qb g1
  obtain ⟨⟨y0, y1, y2, y3⟩, p0, p1, p2, p3⟩ := qh g0
  obtain ⟨⟨z0, z1, z2, z3⟩, x0, x1, x2, x3⟩ := qh g1
  obtain ⟨⟨u0, u1, u2, u3⟩, -⟩ := qh g2
  clear hb hB g0 g1 g2
  go_wp2_with (first | (go_at_call 169; refine qf (HLB.out _) ?_; rw [HT.out]) | (go_at_call 144; refine qf (HDB.out _) ?_; rw [HD.out]) | (go_at_call 171; refine qf (HBB.out _) ?_; rw [HBR.out]))
  exact bodyPost_ret (qp (m := 9) (t := []) (a := []) (z := false) Tryz.results146 rfl (put4 H1.out)) rfl ⟨by rw [HE.out]; first | done | rfl, qq HB.out (by omega) _ _ _ _⟩
 have n47 := qy h47 47 rfl
 have d47 : ((b.toNat : Int) != 47) = true := by rw [bne, n47]; rfl
 by_cases h33 : b = 33
 ·have HE : Hid (St.stepV ⟨1, [], [], false⟩ b = ⟨10, [], [], false⟩) := by show _ = _; rw [St.stepV, if_neg (by simp), if_pos rfl, if_neg (by rw [hq]; decide), if_neg h47, if_pos h33]
  clear HF hq n47 d47
  have hb : (b.toNat : Int) = 33 := by rw [h33]; rfl
  obtain ⟨n60, n62, n47, n33, n34, n39, n92, n45, d60, d62, d47, d33, d34, d39, d92, d45⟩ := VN hb false false false true false false false false true true true false true true true true (by decide)
  have HD : Hid (qK b = false) := by show _ = _; rw [h33]; decide
  have HT : Hid (qu b = false) := by show _ = _; rw [h33]; decide
  have HBR : Hid (St.bareB b = false) := by show _ = _; rw [h33]; decide
  clear hb
  clear h33
  generalize St.stepV ⟨1, [], [], false⟩ b = s0 at *
  go_enter Tryz.func146, Tryz.ntmps146
  go_wp2_with fail
  refine (HV.out _).mono ?_
  rintro e w1 ⟨rfl, hb⟩
  obtain ⟨hB, g0, g1, g2, hz⟩ := qB hb
  have HB := qb hB
  have H1 := qb g1
  obtain ⟨⟨y0, y1, y2, y3⟩, p0, p1, p2, p3⟩ := qh g0
  obtain ⟨⟨z0, z1, z2, z3⟩, x0, x1, x2, x3⟩ := qh g1
  obtain ⟨⟨u0, u1, u2, u3⟩, -⟩ := qh g2
  clear hb hB g0 g1 g2
  go_wp2_with (first | (go_at_call 169; refine qf (HLB.out _) ?_; rw [HT.out]) | (go_at_call 144; refine qf (HDB.out _) ?_; rw [HD.out]) | (go_at_call 171; refine qf (HBB.out _) ?_; rw [HBR.out]))
  exact bodyPost_ret (qp (m := 10) (t := []) (a := []) (z := false) Tryz.results146 rfl (put4 H1.out)) rfl ⟨by rw [HE.out]; first | done | rfl, qq HB.out (by omega) _ _ _ _⟩
 have n33 := qy h33 33 rfl
 have d33 : ((b.toNat : Int) != 33) = true := by rw [bne, n33]; rfl
 clear HF
 have HT : Hid (qu b = false) := hq
 have HE : Hid (St.stepV ⟨1, [], [], false⟩ b = St.bad) := by show _ = _; rw [St.stepV, if_neg (by simp), if_pos rfl, if_neg (by rw [hq]; decide), if_neg h47, if_neg h33]
 generalize St.stepV ⟨1, [], [], false⟩ b = s0 at *
 go_enter Tryz.func146, Tryz.ntmps146
 go_wp2_with fail
 refine (HV.out _).mono ?_
 rintro e w1 ⟨rfl, hb⟩
 obtain ⟨hB, g0, g1, g2, hz⟩ := qB hb
 have HB := qb hB
 have H1 := qb g1
 obtain ⟨⟨y0, y1, y2, y3⟩, p0, p1, p2, p3⟩ := qh g0
 obtain ⟨⟨z0, z1, z2, z3⟩, x0, x1, x2, x3⟩ := qh g1
 obtain ⟨⟨u0, u1, u2, u3⟩, -⟩ := qh g2
 clear hb hB g0 g1 g2
 go_wp2_with (first | (go_at_call 169; refine qf (HLB.out _) ?_; rw [HT.out]) | (go_at_call 144; refine qf (HDB.out _) ?_; rw [HD.out]) | (go_at_call 171; refine qf (HBB.out _) ?_; rw [HBR.out]))
 exact bodyPost_ret (qp (m := 15) (t := []) (a := []) (z := false) Tryz.results146 rfl (put4 H1.out)) rfl ⟨by rw [HE.out]; first | done | rfl, qq HB.out (by omega) _ _ _ _⟩
set_option maxRecDepth 100000 in
set_option maxHeartbeats 4000000 in
theorem Vi (t : Tx) (a : Tx) (b : UInt8) (w : World)  (hv : ∀ w, Calls Tryz.prog 121 #[stV 5 t a false] w fun e w' => e = .returned (.bool true) /\ Below w.heap.size w w') :
  Calls Tryz.prog 146 #[stV 5 t a false, .int .u8 (b.toNat : Int)] w fun e w' => e = .returned (St.v (St.stepV ⟨5, t, a, false⟩ b)) /\ Below w.heap.size w w' := by
 have HV := qb hv
 clear hv
 have HLB := qb (fun w => zg b w)
 have HDB := qb (fun w => zf b w)
 have HBB := qb (fun w => zn b w)
 by_cases h34 : b = 34
 ·have HE : Hid (St.stepV ⟨5, t, a, false⟩ b = ⟨6, t, a, false⟩) := by show _ = _; rw [St.stepV, if_neg (by simp), if_neg (by simp), if_pos rfl, if_pos h34]
  have hb : (b.toNat : Int) = 34 := by rw [h34]; rfl
  obtain ⟨n60, n62, n47, n33, n34, n39, n92, n45, d60, d62, d47, d33, d34, d39, d92, d45⟩ := VN hb false false false false true false false false true true true true false true true true (by decide)
  have HD : Hid (qK b = false) := by show _ = _; rw [h34]; decide
  have HT : Hid (qu b = false) := by show _ = _; rw [h34]; decide
  have HBR : Hid (St.bareB b = false) := by show _ = _; rw [h34]; decide
  clear hb
  clear h34
  generalize St.stepV ⟨5, t, a, false⟩ b = s0 at *
  go_enter Tryz.func146, Tryz.ntmps146
  go_wp2_with fail
  refine (HV.out _).mono ?_
  rintro e w1 ⟨rfl, hb⟩
  obtain ⟨hB, g0, g1, g2, hz⟩ := qB hb
  have HB := qb hB
  have H1 := qb g1
  obtain ⟨⟨y0, y1, y2, y3⟩, p0, p1, p2, p3⟩ := qh g0
  obtain ⟨⟨z0, z1, z2, z3⟩, x0, x1, x2, x3⟩ := qh g1
  obtain ⟨⟨u0, u1, u2, u3⟩, -⟩ := qh g2
  clear hb hB g0 g1 g2
  go_wp2_with (first | (go_at_call 169; refine qf (HLB.out _) ?_; rw [HT.out]) | (go_at_call 144; refine qf (HDB.out _) ?_; rw [HD.out]) | (go_at_call 171; refine qf (HBB.out _) ?_; rw [HBR.out]))
  exact bodyPost_ret (qp (m := 6) (t := t) (a := a) (z := false) Tryz.results146 rfl (put4 ((Below.heap_setCell _ ⟨w.heap.size, 0, none⟩ (.int .i64 6) (w.heap.size + 1) (show w.heap.size + 1 ≠ w.heap.size by omega)).trans (H1.out)))) rfl ⟨by rw [HE.out]; first | done | rfl, qq (Below.setCell (HB.out) (p := ⟨w.heap.size, 0, none⟩) (Nat.le_refl _) (.int .i64 6)) (by omega) _ _ _ _⟩
 have n34 := qy h34 34 rfl
 have d34 : ((b.toNat : Int) != 34) = true := by rw [bne, n34]; rfl
 by_cases h39 : b = 39
 ·have HE : Hid (St.stepV ⟨5, t, a, false⟩ b = ⟨7, t, a, false⟩) := by show _ = _; rw [St.stepV, if_neg (by simp), if_neg (by simp), if_pos rfl, if_neg h34, if_pos h39]
  clear n34 d34
  have hb : (b.toNat : Int) = 39 := by rw [h39]; rfl
  obtain ⟨n60, n62, n47, n33, n34, n39, n92, n45, d60, d62, d47, d33, d34, d39, d92, d45⟩ := VN hb false false false false false true false false true true true true true false true true (by decide)
  have HD : Hid (qK b = false) := by show _ = _; rw [h39]; decide
  have HT : Hid (qu b = false) := by show _ = _; rw [h39]; decide
  have HBR : Hid (St.bareB b = false) := by show _ = _; rw [h39]; decide
  clear hb
  clear h39
  generalize St.stepV ⟨5, t, a, false⟩ b = s0 at *
  go_enter Tryz.func146, Tryz.ntmps146
  go_wp2_with fail
  refine (HV.out _).mono ?_
  rintro e w1 ⟨rfl, hb⟩
  obtain ⟨hB, g0, g1, g2, hz⟩ := qB hb
  have HB := qb hB
  have H1 := qb g1
  obtain ⟨⟨y0, y1, y2, y3⟩, p0, p1, p2, p3⟩ := qh g0
  obtain ⟨⟨z0, z1, z2, z3⟩, x0, x1, x2, x3⟩ := qh g1
  obtain ⟨⟨u0, u1, u2, u3⟩, -⟩ := qh g2
  clear hb hB g0 g1 g2
  go_wp2_with (first | (go_at_call 169; refine qf (HLB.out _) ?_; rw [HT.out]) | (go_at_call 144; refine qf (HDB.out _) ?_; rw [HD.out]) | (go_at_call 171; refine qf (HBB.out _) ?_; rw [HBR.out]))
  exact bodyPost_ret (qp (m := 7) (t := t) (a := a) (z := false) Tryz.results146 rfl (put4 ((Below.heap_setCell _ ⟨w.heap.size, 0, none⟩ (.int .i64 7) (w.heap.size + 1) (show w.heap.size + 1 ≠ w.heap.size by omega)).trans (H1.out)))) rfl ⟨by rw [HE.out]; first | done | rfl, qq (Below.setCell (HB.out) (p := ⟨w.heap.size, 0, none⟩) (Nat.le_refl _) (.int .i64 7)) (by omega) _ _ _ _⟩
 have n39 := qy h39 39 rfl
 have d39 : ((b.toNat : Int) != 39) = true := by rw [bne, n39]; rfl
 cases hq : St.bareB b
 case true =>
  have HBR := qb hq
  have HE : Hid (St.stepV ⟨5, t, a, false⟩ b = ⟨8, t, a, true⟩) := by show _ = _; rw [St.stepV, if_neg (by simp), if_neg (by simp), if_pos rfl, if_neg h34, if_neg h39, if_pos hq]
  generalize St.stepV ⟨5, t, a, false⟩ b = s0 at *
  go_enter Tryz.func146, Tryz.ntmps146
  go_wp2_with fail
  refine (HV.out _).mono ?_
  rintro e w1 ⟨rfl, hb⟩
  obtain ⟨hB, g0, g1, g2, hz⟩ := qB hb
  have HB := qb hB
  have H1 := qb g1
  obtain ⟨⟨y0, y1, y2, y3⟩, p0, p1, p2, p3⟩ := qh g0
  obtain ⟨⟨z0, z1, z2, z3⟩, x0, x1, x2, x3⟩ := qh g1
  obtain ⟨⟨u0, u1, u2, u3⟩, -⟩ := qh g2
  clear hb hB g0 g1 g2
  go_wp2_with (first | (go_at_call 169; refine qf (HLB.out _) ?_; rw [HT.out]) | (go_at_call 144; refine qf (HDB.out _) ?_; rw [HD.out]) | (go_at_call 171; refine qf (HBB.out _) ?_; rw [HBR.out]))
  exact bodyPost_ret (qp (m := 8) (t := t) (a := a) (z := true) Tryz.results146 rfl (put4 ((Below.heap_setCell _ ⟨w.heap.size, 3, none⟩ (.bool true) (w.heap.size + 1) (show w.heap.size + 1 ≠ w.heap.size by omega)).trans (((Below.heap_setCell _ ⟨w.heap.size, 0, none⟩ (.int .i64 8) (w.heap.size + 1) (show w.heap.size + 1 ≠ w.heap.size by omega)).trans (H1.out)))))) rfl ⟨by rw [HE.out]; first | done | rfl, qq (Below.setCell ((Below.setCell (HB.out) (p := ⟨w.heap.size, 0, none⟩) (Nat.le_refl _) (.int .i64 8))) (p := ⟨w.heap.size, 3, none⟩) (Nat.le_refl _) (.bool true)) (by omega) _ _ _ _⟩
 have HBR := qb hq
 have HE : Hid (St.stepV ⟨5, t, a, false⟩ b = St.bad) := by show _ = _; rw [St.stepV, if_neg (by simp), if_neg (by simp), if_pos rfl, if_neg h34, if_neg h39, if_neg (by rw [hq]; decide)]
 generalize St.stepV ⟨5, t, a, false⟩ b = s0 at *
 go_enter Tryz.func146, Tryz.ntmps146
 go_wp2_with fail
 refine (HV.out _).mono ?_
 rintro e w1 ⟨rfl, hb⟩
 obtain ⟨hB, g0, g1, g2, hz⟩ := qB hb
 have HB := qb hB
 have H1 := qb g1
 obtain ⟨⟨y0, y1, y2, y3⟩, p0, p1, p2, p3⟩ := qh g0
 obtain ⟨⟨z0, z1, z2, z3⟩, x0, x1, x2, x3⟩ := qh g1
 obtain ⟨⟨u0, u1, u2, u3⟩, -⟩ := qh g2
 clear hb hB g0 g1 g2
 go_wp2_with (first | (go_at_call 169; refine qf (HLB.out _) ?_; rw [HT.out]) | (go_at_call 144; refine qf (HDB.out _) ?_; rw [HD.out]) | (go_at_call 171; refine qf (HBB.out _) ?_; rw [HBR.out]))
 exact bodyPost_ret (qp (m := 15) (t := []) (a := []) (z := false) Tryz.results146 rfl (put4 H1.out)) rfl ⟨by rw [HE.out]; first | done | rfl, qq HB.out (by omega) _ _ _ _⟩
set_option maxRecDepth 100000 in
set_option maxHeartbeats 4000000 in
theorem Vj (t : Tx) (a : Tx) (z : Bool) (b : UInt8) (w : World)  (hv : ∀ w, Calls Tryz.prog 121 #[stV 6 t a z] w fun e w' => e = .returned (.bool true) /\ Below w.heap.size w w') :
  Calls Tryz.prog 146 #[stV 6 t a z, .int .u8 (b.toNat : Int)] w fun e w' => e = .returned (St.v (St.stepV ⟨6, t, a, z⟩ b)) /\ Below w.heap.size w w' := by
 have HV := qb hv
 clear hv
 have HLB := qb (fun w => zg b w)
 have HDB := qb (fun w => zf b w)
 have HBB := qb (fun w => zn b w)
 by_cases h34 : b = 34
 ·have HE : Hid (St.stepV ⟨6, t, a, z⟩ b = ⟨3, t, [], false⟩) := by show _ = _; rw [St.stepV, if_neg (by simp), if_neg (by simp), if_neg (by simp), if_pos rfl, if_pos h34]
  have hb : (b.toNat : Int) = 34 := by rw [h34]; rfl
  obtain ⟨n60, n62, n47, n33, n34, n39, n92, n45, d60, d62, d47, d33, d34, d39, d92, d45⟩ := VN hb false false false false true false false false true true true true false true true true (by decide)
  have HD : Hid (qK b = false) := by show _ = _; rw [h34]; decide
  have HT : Hid (qu b = false) := by show _ = _; rw [h34]; decide
  have HBR : Hid (St.bareB b = false) := by show _ = _; rw [h34]; decide
  clear hb
  clear h34
  generalize St.stepV ⟨6, t, a, z⟩ b = s0 at *
  go_enter Tryz.func146, Tryz.ntmps146
  go_wp2_with fail
  refine (HV.out _).mono ?_
  rintro e w1 ⟨rfl, hb⟩
  obtain ⟨hB, g0, g1, g2, hz⟩ := qB hb
  have HB := qb hB
  have H1 := qb g1
  obtain ⟨⟨y0, y1, y2, y3⟩, p0, p1, p2, p3⟩ := qh g0
  obtain ⟨⟨z0, z1, z2, z3⟩, x0, x1, x2, x3⟩ := qh g1
  obtain ⟨⟨u0, u1, u2, u3⟩, -⟩ := qh g2
  clear hb hB g0 g1 g2
  go_wp2_with (first | (go_at_call 169; refine qf (HLB.out _) ?_; rw [HT.out]) | (go_at_call 144; refine qf (HDB.out _) ?_; rw [HD.out]) | (go_at_call 171; refine qf (HBB.out _) ?_; rw [HBR.out]))
  exact bodyPost_ret (qp (m := 3) (t := t) (a := []) (z := false) Tryz.results146 rfl (put4 H1.out)) rfl ⟨by rw [HE.out]; first | done | rfl, qq HB.out (by omega) _ _ _ _⟩
 have n34 := qy h34 34 rfl
 have d34 : ((b.toNat : Int) != 34) = true := by rw [bne, n34]; rfl
 have HE : Hid (St.stepV ⟨6, t, a, z⟩ b = ⟨6, t, a, true⟩) := by show _ = _; rw [St.stepV, if_neg (by simp), if_neg (by simp), if_neg (by simp), if_pos rfl, if_neg h34]
 generalize St.stepV ⟨6, t, a, z⟩ b = s0 at *
 go_enter Tryz.func146, Tryz.ntmps146
 go_wp2_with fail
 refine (HV.out _).mono ?_
 rintro e w1 ⟨rfl, hb⟩
 obtain ⟨hB, g0, g1, g2, hz⟩ := qB hb
 have HB := qb hB
 have H1 := qb g1
 obtain ⟨⟨y0, y1, y2, y3⟩, p0, p1, p2, p3⟩ := qh g0
 obtain ⟨⟨z0, z1, z2, z3⟩, x0, x1, x2, x3⟩ := qh g1
 obtain ⟨⟨u0, u1, u2, u3⟩, -⟩ := qh g2
 clear hb hB g0 g1 g2
 go_wp2_with (first | (go_at_call 169; refine qf (HLB.out _) ?_; rw [HT.out]) | (go_at_call 144; refine qf (HDB.out _) ?_; rw [HD.out]) | (go_at_call 171; refine qf (HBB.out _) ?_; rw [HBR.out]))
 exact bodyPost_ret (qp (m := 6) (t := t) (a := a) (z := true) Tryz.results146 rfl (put4 ((Below.heap_setCell _ ⟨w.heap.size, 3, none⟩ (.bool true) (w.heap.size + 1) (show w.heap.size + 1 ≠ w.heap.size by omega)).trans (H1.out)))) rfl ⟨by rw [HE.out]; first | done | rfl, qq (Below.setCell (HB.out) (p := ⟨w.heap.size, 3, none⟩) (Nat.le_refl _) (.bool true)) (by omega) _ _ _ _⟩
set_option maxRecDepth 100000 in
set_option maxHeartbeats 4000000 in
theorem Vk (t : Tx) (a : Tx) (z : Bool) (b : UInt8) (w : World)  (hv : ∀ w, Calls Tryz.prog 121 #[stV 7 t a z] w fun e w' => e = .returned (.bool true) /\ Below w.heap.size w w') :
  Calls Tryz.prog 146 #[stV 7 t a z, .int .u8 (b.toNat : Int)] w fun e w' => e = .returned (St.v (St.stepV ⟨7, t, a, z⟩ b)) /\ Below w.heap.size w w' := by
 have HV := qb hv
 clear hv
 have HLB := qb (fun w => zg b w)
 have HDB := qb (fun w => zf b w)
 have HBB := qb (fun w => zn b w)
 by_cases h39 : b = 39
 ·have HE : Hid (St.stepV ⟨7, t, a, z⟩ b = ⟨3, t, [], false⟩) := by show _ = _; rw [St.stepV]; (iterate 4 rw [if_neg (by simp)]); rw [if_pos rfl, if_pos h39]
  have hb : (b.toNat : Int) = 39 := by rw [h39]; rfl
  obtain ⟨n60, n62, n47, n33, n34, n39, n92, n45, d60, d62, d47, d33, d34, d39, d92, d45⟩ := VN hb false false false false false true false false true true true true true false true true (by decide)
  have HD : Hid (qK b = false) := by show _ = _; rw [h39]; decide
  have HT : Hid (qu b = false) := by show _ = _; rw [h39]; decide
  have HBR : Hid (St.bareB b = false) := by show _ = _; rw [h39]; decide
  clear hb
  clear h39
  generalize St.stepV ⟨7, t, a, z⟩ b = s0 at *
  go_enter Tryz.func146, Tryz.ntmps146
  go_wp2_with fail
  refine (HV.out _).mono ?_
  rintro e w1 ⟨rfl, hb⟩
  obtain ⟨hB, g0, g1, g2, hz⟩ := qB hb
  have HB := qb hB
  have H1 := qb g1
  obtain ⟨⟨y0, y1, y2, y3⟩, p0, p1, p2, p3⟩ := qh g0
  obtain ⟨⟨z0, z1, z2, z3⟩, x0, x1, x2, x3⟩ := qh g1
  obtain ⟨⟨u0, u1, u2, u3⟩, -⟩ := qh g2
  clear hb hB g0 g1 g2
  go_wp2_with (first | (go_at_call 169; refine qf (HLB.out _) ?_; rw [HT.out]) | (go_at_call 144; refine qf (HDB.out _) ?_; rw [HD.out]) | (go_at_call 171; refine qf (HBB.out _) ?_; rw [HBR.out]))
  exact bodyPost_ret (qp (m := 3) (t := t) (a := []) (z := false) Tryz.results146 rfl (put4 H1.out)) rfl ⟨by rw [HE.out]; first | done | rfl, qq HB.out (by omega) _ _ _ _⟩
 have n39 := qy h39 39 rfl
 have d39 : ((b.toNat : Int) != 39) = true := by rw [bne, n39]; rfl
 have HE : Hid (St.stepV ⟨7, t, a, z⟩ b = ⟨7, t, a, true⟩) := by show _ = _; rw [St.stepV]; (iterate 4 rw [if_neg (by simp)]); rw [if_pos rfl, if_neg h39]
 generalize St.stepV ⟨7, t, a, z⟩ b = s0 at *
 go_enter Tryz.func146, Tryz.ntmps146
 go_wp2_with fail
 refine (HV.out _).mono ?_
 rintro e w1 ⟨rfl, hb⟩
 obtain ⟨hB, g0, g1, g2, hz⟩ := qB hb
 have HB := qb hB
 have H1 := qb g1
 obtain ⟨⟨y0, y1, y2, y3⟩, p0, p1, p2, p3⟩ := qh g0
 obtain ⟨⟨z0, z1, z2, z3⟩, x0, x1, x2, x3⟩ := qh g1
 obtain ⟨⟨u0, u1, u2, u3⟩, -⟩ := qh g2
 clear hb hB g0 g1 g2
 go_wp2_with (first | (go_at_call 169; refine qf (HLB.out _) ?_; rw [HT.out]) | (go_at_call 144; refine qf (HDB.out _) ?_; rw [HD.out]) | (go_at_call 171; refine qf (HBB.out _) ?_; rw [HBR.out]))
 exact bodyPost_ret (qp (m := 7) (t := t) (a := a) (z := true) Tryz.results146 rfl (put4 ((Below.heap_setCell _ ⟨w.heap.size, 3, none⟩ (.bool true) (w.heap.size + 1) (show w.heap.size + 1 ≠ w.heap.size by omega)).trans (H1.out)))) rfl ⟨by rw [HE.out]; first | done | rfl, qq (Below.setCell (HB.out) (p := ⟨w.heap.size, 3, none⟩) (Nat.le_refl _) (.bool true)) (by omega) _ _ _ _⟩
set_option maxRecDepth 100000 in
set_option maxHeartbeats 4000000 in
theorem Vl (t : Tx) (b : UInt8) (w : World) (ht : t.length <= 10) (hv : ∀ w, Calls Tryz.prog 121 #[stV 2 t [] false] w fun e w' => e = .returned (.bool true) /\ Below w.heap.size w w') :
  Calls Tryz.prog 146 #[stV 2 t [] false, .int .u8 (b.toNat : Int)] w fun e w' => e = .returned (St.v (St.stepV ⟨2, t, [], false⟩ b)) /\ Below w.heap.size w w' := by
 have HV := qb hv
 clear hv
 have HLB := qb (fun w => zg b w)
 have HDB := qb (fun w => zf b w)
 have HBB := qb (fun w => zn b w)
 have HE : Hid (St.stepV ⟨2, t, [], false⟩ b = St.stepTag 2 t [] false b) := by show _ = _; rw [St.stepV]; (iterate 11 rw [if_neg (by simp)]); rw [if_neg (by simp)]
 have HC0 := qb (fun w => Xk t b w ht)
 generalize St.stepTag 2 t [] false b = s1 at *
 generalize St.stepV ⟨2, t, [], false⟩ b = s0 at *
 go_enter Tryz.func146, Tryz.ntmps146
 go_wp2_with fail
 refine (HV.out _).mono ?_
 rintro e w1 ⟨rfl, hb⟩
 obtain ⟨hB, g0, g1, g2, hz⟩ := qB hb
 have HB := qb hB
 have H1 := qb g1
 obtain ⟨⟨y0, y1, y2, y3⟩, p0, p1, p2, p3⟩ := qh g0
 obtain ⟨⟨z0, z1, z2, z3⟩, x0, x1, x2, x3⟩ := qh g1
 obtain ⟨⟨u0, u1, u2, u3⟩, -⟩ := qh g2
 clear hb hB g0 g1 g2
 go_wp2_with (first | (go_at_call 169; refine qf (HLB.out _) ?_; rw [HT.out]) | (go_at_call 144; refine qf (HDB.out _) ?_; rw [HD.out]) | (go_at_call 171; refine qf (HBB.out _) ?_; rw [HBR.out]))
 refine (HC0.out _).mono ?_
 rintro e w2 ⟨rfl, hb⟩
 have hb2 : Below w1.heap.size w1 w2 := hb
 have HB2 := qb (HB.out.trans (hb2.mono HB.out.size))
 have H2 := qb (qi H1.out hb2)
 have hz2 := hb2.size
 clear hb hb2 z0 z1 z2 z3 x0 x1 x2 x3
 obtain ⟨⟨z0, z1, z2, z3⟩, x0, x1, x2, x3⟩ := qh H2.out
 obtain ⟨sm, st, sa, sz⟩ := s1
 go_wp2
 exact bodyPost_ret (qp (m := sm) (t := st) (a := sa) (z := sz) Tryz.results146 rfl (put4 H2.out)) rfl ⟨by rw [HE.out], qq HB2.out (by omega) _ _ _ _⟩
set_option maxRecDepth 100000 in
set_option maxHeartbeats 4000000 in
theorem Vm (t : Tx) (b : UInt8) (w : World) (ht : t.length <= 10) (hv : ∀ w, Calls Tryz.prog 121 #[stV 3 t [] false] w fun e w' => e = .returned (.bool true) /\ Below w.heap.size w w') :
  Calls Tryz.prog 146 #[stV 3 t [] false, .int .u8 (b.toNat : Int)] w fun e w' => e = .returned (St.v (St.stepV ⟨3, t, [], false⟩ b)) /\ Below w.heap.size w w' := by
 have HV := qb hv
 clear hv
 have HLB := qb (fun w => zg b w)
 have HDB := qb (fun w => zf b w)
 have HBB := qb (fun w => zn b w)
 have HE : Hid (St.stepV ⟨3, t, [], false⟩ b = St.stepTag 3 t [] false b) := by show _ = _; rw [St.stepV]; (iterate 11 rw [if_neg (by simp)]); rw [if_neg (by simp)]
 have HC0 := qb (fun w => Xl t b w ht)
 generalize St.stepTag 3 t [] false b = s1 at *
 generalize St.stepV ⟨3, t, [], false⟩ b = s0 at *
 go_enter Tryz.func146, Tryz.ntmps146
 go_wp2_with fail
 refine (HV.out _).mono ?_
 rintro e w1 ⟨rfl, hb⟩
 obtain ⟨hB, g0, g1, g2, hz⟩ := qB hb
 have HB := qb hB
 have H1 := qb g1
 obtain ⟨⟨y0, y1, y2, y3⟩, p0, p1, p2, p3⟩ := qh g0
 obtain ⟨⟨z0, z1, z2, z3⟩, x0, x1, x2, x3⟩ := qh g1
 obtain ⟨⟨u0, u1, u2, u3⟩, -⟩ := qh g2
 clear hb hB g0 g1 g2
 go_wp2_with (first | (go_at_call 169; refine qf (HLB.out _) ?_; rw [HT.out]) | (go_at_call 144; refine qf (HDB.out _) ?_; rw [HD.out]) | (go_at_call 171; refine qf (HBB.out _) ?_; rw [HBR.out]))
 refine (HC0.out _).mono ?_
 rintro e w2 ⟨rfl, hb⟩
 have hb2 : Below w1.heap.size w1 w2 := hb
 have HB2 := qb (HB.out.trans (hb2.mono HB.out.size))
 have H2 := qb (qi H1.out hb2)
 have hz2 := hb2.size
 clear hb hb2 z0 z1 z2 z3 x0 x1 x2 x3
 obtain ⟨⟨z0, z1, z2, z3⟩, x0, x1, x2, x3⟩ := qh H2.out
 obtain ⟨sm, st, sa, sz⟩ := s1
 go_wp2
 exact bodyPost_ret (qp (m := sm) (t := st) (a := sa) (z := sz) Tryz.results146 rfl (put4 H2.out)) rfl ⟨by rw [HE.out], qq HB2.out (by omega) _ _ _ _⟩
set_option maxRecDepth 100000 in
set_option maxHeartbeats 4000000 in
theorem Vn (t : Tx) (a : Tx) (b : UInt8) (w : World) (ht : t.length <= 10) (ha : a.length <= 10) (hv : ∀ w, Calls Tryz.prog 121 #[stV 4 t a false] w fun e w' => e = .returned (.bool true) /\ Below w.heap.size w w') :
  Calls Tryz.prog 146 #[stV 4 t a false, .int .u8 (b.toNat : Int)] w fun e w' => e = .returned (St.v (St.stepV ⟨4, t, a, false⟩ b)) /\ Below w.heap.size w w' := by
 have HV := qb hv
 clear hv
 have HLB := qb (fun w => zg b w)
 have HDB := qb (fun w => zf b w)
 have HBB := qb (fun w => zn b w)
 have HE : Hid (St.stepV ⟨4, t, a, false⟩ b = St.stepTag 4 t a false b) := by show _ = _; rw [St.stepV]; (iterate 11 rw [if_neg (by simp)]); rw [if_neg (by simp)]
 have HC0 := qb (fun w => Xm t a b w ht ha)
 generalize St.stepTag 4 t a false b = s1 at *
 generalize St.stepV ⟨4, t, a, false⟩ b = s0 at *
 go_enter Tryz.func146, Tryz.ntmps146
 go_wp2_with fail
 refine (HV.out _).mono ?_
 rintro e w1 ⟨rfl, hb⟩
 obtain ⟨hB, g0, g1, g2, hz⟩ := qB hb
 have HB := qb hB
 have H1 := qb g1
 obtain ⟨⟨y0, y1, y2, y3⟩, p0, p1, p2, p3⟩ := qh g0
 obtain ⟨⟨z0, z1, z2, z3⟩, x0, x1, x2, x3⟩ := qh g1
 obtain ⟨⟨u0, u1, u2, u3⟩, -⟩ := qh g2
 clear hb hB g0 g1 g2
 go_wp2_with (first | (go_at_call 169; refine qf (HLB.out _) ?_; rw [HT.out]) | (go_at_call 144; refine qf (HDB.out _) ?_; rw [HD.out]) | (go_at_call 171; refine qf (HBB.out _) ?_; rw [HBR.out]))
 refine (HC0.out _).mono ?_
 rintro e w2 ⟨rfl, hb⟩
 have hb2 : Below w1.heap.size w1 w2 := hb
 have HB2 := qb (HB.out.trans (hb2.mono HB.out.size))
 have H2 := qb (qi H1.out hb2)
 have hz2 := hb2.size
 clear hb hb2 z0 z1 z2 z3 x0 x1 x2 x3
 obtain ⟨⟨z0, z1, z2, z3⟩, x0, x1, x2, x3⟩ := qh H2.out
 obtain ⟨sm, st, sa, sz⟩ := s1
 go_wp2
 exact bodyPost_ret (qp (m := sm) (t := st) (a := sa) (z := sz) Tryz.results146 rfl (put4 H2.out)) rfl ⟨by rw [HE.out], qq HB2.out (by omega) _ _ _ _⟩
set_option maxRecDepth 100000 in
set_option maxHeartbeats 4000000 in
theorem Vo (t : Tx) (a : Tx) (b : UInt8) (w : World)  (hv : ∀ w, Calls Tryz.prog 121 #[stV 8 t a true] w fun e w' => e = .returned (.bool true) /\ Below w.heap.size w w') :
  Calls Tryz.prog 146 #[stV 8 t a true, .int .u8 (b.toNat : Int)] w fun e w' => e = .returned (St.v (St.stepV ⟨8, t, a, true⟩ b)) /\ Below w.heap.size w w' := by
 have HV := qb hv
 clear hv
 have HLB := qb (fun w => zg b w)
 have HDB := qb (fun w => zf b w)
 have HBB := qb (fun w => zn b w)
 have HE : Hid (St.stepV ⟨8, t, a, true⟩ b = St.stepTag 8 t a true b) := by show _ = _; rw [St.stepV]; (iterate 11 rw [if_neg (by simp)]); rw [if_neg (by simp)]
 have HC0 := qb (fun w => Xn t a true b w)
 generalize St.stepTag 8 t a true b = s1 at *
 generalize St.stepV ⟨8, t, a, true⟩ b = s0 at *
 go_enter Tryz.func146, Tryz.ntmps146
 go_wp2_with fail
 refine (HV.out _).mono ?_
 rintro e w1 ⟨rfl, hb⟩
 obtain ⟨hB, g0, g1, g2, hz⟩ := qB hb
 have HB := qb hB
 have H1 := qb g1
 obtain ⟨⟨y0, y1, y2, y3⟩, p0, p1, p2, p3⟩ := qh g0
 obtain ⟨⟨z0, z1, z2, z3⟩, x0, x1, x2, x3⟩ := qh g1
 obtain ⟨⟨u0, u1, u2, u3⟩, -⟩ := qh g2
 clear hb hB g0 g1 g2
 go_wp2_with (first | (go_at_call 169; refine qf (HLB.out _) ?_; rw [HT.out]) | (go_at_call 144; refine qf (HDB.out _) ?_; rw [HD.out]) | (go_at_call 171; refine qf (HBB.out _) ?_; rw [HBR.out]))
 refine (HC0.out _).mono ?_
 rintro e w2 ⟨rfl, hb⟩
 have hb2 : Below w1.heap.size w1 w2 := hb
 have HB2 := qb (HB.out.trans (hb2.mono HB.out.size))
 have H2 := qb (qi H1.out hb2)
 have hz2 := hb2.size
 clear hb hb2 z0 z1 z2 z3 x0 x1 x2 x3
 obtain ⟨⟨z0, z1, z2, z3⟩, x0, x1, x2, x3⟩ := qh H2.out
 obtain ⟨sm, st, sa, sz⟩ := s1
 go_wp2
 exact bodyPost_ret (qp (m := sm) (t := st) (a := sa) (z := sz) Tryz.results146 rfl (put4 H2.out)) rfl ⟨by rw [HE.out], qq HB2.out (by omega) _ _ _ _⟩
set_option maxRecDepth 100000 in
set_option maxHeartbeats 4000000 in
theorem Vp (t : Tx) (b : UInt8) (w : World) (ht : t.length <= 10) (hv : ∀ w, Calls Tryz.prog 121 #[stV 9 t [] false] w fun e w' => e = .returned (.bool true) /\ Below w.heap.size w w') :
  Calls Tryz.prog 146 #[stV 9 t [] false, .int .u8 (b.toNat : Int)] w fun e w' => e = .returned (St.v (St.stepV ⟨9, t, [], false⟩ b)) /\ Below w.heap.size w w' := by
 have HV := qb hv
 clear hv
 have HLB := qb (fun w => zg b w)
 have HDB := qb (fun w => zf b w)
 have HBB := qb (fun w => zn b w)
 by_cases hT : t = []
 case pos =>
  subst hT
  clear ht
  by_cases h62 : b = 62
  ·have HE : Hid (St.stepV ⟨9, [], [], false⟩ b = St.bad) := by show _ = _; rw [St.stepV]; (iterate 5 rw [if_neg (by simp)]); rw [if_pos rfl, if_pos h62, if_pos rfl]
   have hb : (b.toNat : Int) = 62 := by rw [h62]; rfl
   obtain ⟨n60, n62, n47, n33, n34, n39, n92, n45, d60, d62, d47, d33, d34, d39, d92, d45⟩ := VN hb false true false false false false false false true false true true true true true true (by decide)
   have HD : Hid (qK b = false) := by show _ = _; rw [h62]; decide
   have HT : Hid (qu b = false) := by show _ = _; rw [h62]; decide
   have HBR : Hid (St.bareB b = false) := by show _ = _; rw [h62]; decide
   clear hb
   clear h62
   generalize St.stepV ⟨9, [], [], false⟩ b = s0 at *
   go_enter Tryz.func146, Tryz.ntmps146
   go_wp2_with fail
   refine (HV.out _).mono ?_
   rintro e w1 ⟨rfl, hb⟩
   obtain ⟨hB, g0, g1, g2, hz⟩ := qB hb
   have HB := qb hB
   have H1 := qb g1
   obtain ⟨⟨y0, y1, y2, y3⟩, p0, p1, p2, p3⟩ := qh g0
   obtain ⟨⟨z0, z1, z2, z3⟩, x0, x1, x2, x3⟩ := qh g1
   obtain ⟨⟨u0, u1, u2, u3⟩, -⟩ := qh g2
   clear hb hB g0 g1 g2
   go_wp2_with (first | (go_at_call 169; refine qf (HLB.out _) ?_; rw [HT.out]) | (go_at_call 144; refine qf (HDB.out _) ?_; rw [HD.out]) | (go_at_call 171; refine qf (HBB.out _) ?_; rw [HBR.out]))
   exact bodyPost_ret (qp (m := 15) (t := []) (a := []) (z := false) Tryz.results146 rfl (put4 H1.out)) rfl ⟨by rw [HE.out]; first | done | rfl, qq HB.out (by omega) _ _ _ _⟩
  have n62 := qy h62 62 rfl
  have d62 : ((b.toNat : Int) != 62) = true := by rw [bne, n62]; rfl
  cases hq : qu b
  case true =>
   have HE : Hid (St.stepV ⟨9, [], [], false⟩ b = zB 9 [] [] false b) := by show _ = _; rw [St.stepV]; (iterate 5 rw [if_neg (by simp)]); rw [if_pos rfl, if_neg h62, if_pos (by rw [hq]; rfl)]; exact xk _ _ _ (by simp)
   have HT := qb hq
   clear hq
   have HC0 := qb (fun w => xr 9 [] [] false b w (by simp))
   generalize zB 9 [] [] false b = s1 at *
   generalize St.stepV ⟨9, [], [], false⟩ b = s0 at *
   go_enter Tryz.func146, Tryz.ntmps146
   go_wp2_with fail
   refine (HV.out _).mono ?_
   rintro e w1 ⟨rfl, hb⟩
   obtain ⟨hB, g0, g1, g2, hz⟩ := qB hb
   have HB := qb hB
   have H1 := qb g1
   obtain ⟨⟨y0, y1, y2, y3⟩, p0, p1, p2, p3⟩ := qh g0
   obtain ⟨⟨z0, z1, z2, z3⟩, x0, x1, x2, x3⟩ := qh g1
   obtain ⟨⟨u0, u1, u2, u3⟩, -⟩ := qh g2
   clear hb hB g0 g1 g2
   go_wp2_with (first | (go_at_call 169; refine qf (HLB.out _) ?_; rw [HT.out]) | (go_at_call 144; refine qf (HDB.out _) ?_; rw [HD.out]) | (go_at_call 171; refine qf (HBB.out _) ?_; rw [HBR.out]))
   refine (HC0.out _).mono ?_
   rintro e w2 ⟨rfl, hb⟩
   have hb2 : Below w1.heap.size w1 w2 := hb
   have HB2 := qb (HB.out.trans (hb2.mono HB.out.size))
   have H2 := qb (qi H1.out hb2)
   have hz2 := hb2.size
   clear hb hb2 z0 z1 z2 z3 x0 x1 x2 x3
   obtain ⟨⟨z0, z1, z2, z3⟩, x0, x1, x2, x3⟩ := qh H2.out
   obtain ⟨sm, st, sa, sz⟩ := s1
   go_wp2
   exact bodyPost_ret (qp (m := sm) (t := st) (a := sa) (z := sz) Tryz.results146 rfl (put4 H2.out)) rfl ⟨by rw [HE.out], qq HB2.out (by omega) _ _ _ _⟩
  have HT : Hid (qu b = false) := hq
  have HE : Hid (St.stepV ⟨9, [], [], false⟩ b = St.bad) := by show _ = _; rw [St.stepV]; (iterate 5 rw [if_neg (by simp)]); rw [if_pos rfl, if_neg h62, if_neg (by rw [hq]; simp)]
  generalize St.stepV ⟨9, [], [], false⟩ b = s0 at *
  go_enter Tryz.func146, Tryz.ntmps146
  go_wp2_with fail
  refine (HV.out _).mono ?_
  rintro e w1 ⟨rfl, hb⟩
  obtain ⟨hB, g0, g1, g2, hz⟩ := qB hb
  have HB := qb hB
  have H1 := qb g1
  obtain ⟨⟨y0, y1, y2, y3⟩, p0, p1, p2, p3⟩ := qh g0
  obtain ⟨⟨z0, z1, z2, z3⟩, x0, x1, x2, x3⟩ := qh g1
  obtain ⟨⟨u0, u1, u2, u3⟩, -⟩ := qh g2
  clear hb hB g0 g1 g2
  go_wp2_with (first | (go_at_call 169; refine qf (HLB.out _) ?_; rw [HT.out]) | (go_at_call 144; refine qf (HDB.out _) ?_; rw [HD.out]) | (go_at_call 171; refine qf (HBB.out _) ?_; rw [HBR.out]))
  exact bodyPost_ret (qp (m := 15) (t := []) (a := []) (z := false) Tryz.results146 rfl (put4 H1.out)) rfl ⟨by rw [HE.out]; first | done | rfl, qq HB.out (by omega) _ _ _ _⟩
 have hT1 : (t == []) = false := by simpa using hT
 have hT2 : List.isEmpty t = false := by simpa using hT
 have hT3 : (t != []) = true := by simpa using hT
 by_cases h62 : b = 62
 ·have HE : Hid (St.stepV ⟨9, t, [], false⟩ b = St.zero) := by show _ = _; rw [St.stepV]; (iterate 5 rw [if_neg (by simp)]); rw [if_pos rfl, if_pos h62, if_neg hT]
  have hb : (b.toNat : Int) = 62 := by rw [h62]; rfl
  obtain ⟨n60, n62, n47, n33, n34, n39, n92, n45, d60, d62, d47, d33, d34, d39, d92, d45⟩ := VN hb false true false false false false false false true false true true true true true true (by decide)
  have HD : Hid (qK b = false) := by show _ = _; rw [h62]; decide
  have HT : Hid (qu b = false) := by show _ = _; rw [h62]; decide
  have HBR : Hid (St.bareB b = false) := by show _ = _; rw [h62]; decide
  clear hb
  clear h62
  generalize St.stepV ⟨9, t, [], false⟩ b = s0 at *
  go_enter Tryz.func146, Tryz.ntmps146
  go_wp2_with fail
  refine (HV.out _).mono ?_
  rintro e w1 ⟨rfl, hb⟩
  obtain ⟨hB, g0, g1, g2, hz⟩ := qB hb
  have HB := qb hB
  have H1 := qb g1
  obtain ⟨⟨y0, y1, y2, y3⟩, p0, p1, p2, p3⟩ := qh g0
  obtain ⟨⟨z0, z1, z2, z3⟩, x0, x1, x2, x3⟩ := qh g1
  obtain ⟨⟨u0, u1, u2, u3⟩, -⟩ := qh g2
  clear hb hB g0 g1 g2
  go_wp2_with (first | (go_at_call 169; refine qf (HLB.out _) ?_; rw [HT.out]) | (go_at_call 144; refine qf (HDB.out _) ?_; rw [HD.out]) | (go_at_call 171; refine qf (HBB.out _) ?_; rw [HBR.out]))
  exact bodyPost_ret (qp (m := 0) (t := []) (a := []) (z := false) Tryz.results146 rfl (put4 H1.out)) rfl ⟨by rw [HE.out]; first | done | rfl, qq HB.out (by omega) _ _ _ _⟩
 have n62 := qy h62 62 rfl
 have d62 : ((b.toNat : Int) != 62) = true := by rw [bne, n62]; rfl
 cases hq : qu b
 case true =>
  have HE : Hid (St.stepV ⟨9, t, [], false⟩ b = zB 9 t [] false b) := by show _ = _; rw [St.stepV]; (iterate 5 rw [if_neg (by simp)]); rw [if_pos rfl, if_neg h62, if_pos (by rw [hq]; rfl)]; exact xk _ _ _ (by simp)
  have HT := qb hq
  clear hq
  have HC0 := qb (fun w => xr 9 t [] false b w (by omega))
  generalize zB 9 t [] false b = s1 at *
  generalize St.stepV ⟨9, t, [], false⟩ b = s0 at *
  go_enter Tryz.func146, Tryz.ntmps146
  go_wp2_with fail
  refine (HV.out _).mono ?_
  rintro e w1 ⟨rfl, hb⟩
  obtain ⟨hB, g0, g1, g2, hz⟩ := qB hb
  have HB := qb hB
  have H1 := qb g1
  obtain ⟨⟨y0, y1, y2, y3⟩, p0, p1, p2, p3⟩ := qh g0
  obtain ⟨⟨z0, z1, z2, z3⟩, x0, x1, x2, x3⟩ := qh g1
  obtain ⟨⟨u0, u1, u2, u3⟩, -⟩ := qh g2
  clear hb hB g0 g1 g2
  go_wp2_with (first | (go_at_call 169; refine qf (HLB.out _) ?_; rw [HT.out]) | (go_at_call 144; refine qf (HDB.out _) ?_; rw [HD.out]) | (go_at_call 171; refine qf (HBB.out _) ?_; rw [HBR.out]))
  refine (HC0.out _).mono ?_
  rintro e w2 ⟨rfl, hb⟩
  have hb2 : Below w1.heap.size w1 w2 := hb
  have HB2 := qb (HB.out.trans (hb2.mono HB.out.size))
  have H2 := qb (qi H1.out hb2)
  have hz2 := hb2.size
  clear hb hb2 z0 z1 z2 z3 x0 x1 x2 x3
  obtain ⟨⟨z0, z1, z2, z3⟩, x0, x1, x2, x3⟩ := qh H2.out
  obtain ⟨sm, st, sa, sz⟩ := s1
  go_wp2
  exact bodyPost_ret (qp (m := sm) (t := st) (a := sa) (z := sz) Tryz.results146 rfl (put4 H2.out)) rfl ⟨by rw [HE.out], qq HB2.out (by omega) _ _ _ _⟩
 have HT : Hid (qu b = false) := hq
 cases hd : qK b
 case true =>
  have HE : Hid (St.stepV ⟨9, t, [], false⟩ b = zB 9 t [] false b) := by show _ = _; rw [St.stepV]; (iterate 5 rw [if_neg (by simp)]); rw [if_pos rfl, if_neg h62, if_pos (by rw [hq, hd, hT1]; rfl)]; exact xk _ _ _ (by simp)
  have HD := qb hd
  clear hq hd
  have HC0 := qb (fun w => xr 9 t [] false b w (by omega))
  generalize zB 9 t [] false b = s1 at *
  generalize St.stepV ⟨9, t, [], false⟩ b = s0 at *
  go_enter Tryz.func146, Tryz.ntmps146
  go_wp2_with fail
  refine (HV.out _).mono ?_
  rintro e w1 ⟨rfl, hb⟩
  obtain ⟨hB, g0, g1, g2, hz⟩ := qB hb
  have HB := qb hB
  have H1 := qb g1
  obtain ⟨⟨y0, y1, y2, y3⟩, p0, p1, p2, p3⟩ := qh g0
  obtain ⟨⟨z0, z1, z2, z3⟩, x0, x1, x2, x3⟩ := qh g1
  obtain ⟨⟨u0, u1, u2, u3⟩, -⟩ := qh g2
  clear hb hB g0 g1 g2
  go_wp2_with (first | (go_at_call 169; refine qf (HLB.out _) ?_; rw [HT.out]) | (go_at_call 144; refine qf (HDB.out _) ?_; rw [HD.out]) | (go_at_call 171; refine qf (HBB.out _) ?_; rw [HBR.out]))
  refine (HC0.out _).mono ?_
  rintro e w2 ⟨rfl, hb⟩
  have hb2 : Below w1.heap.size w1 w2 := hb
  have HB2 := qb (HB.out.trans (hb2.mono HB.out.size))
  have H2 := qb (qi H1.out hb2)
  have hz2 := hb2.size
  clear hb hb2 z0 z1 z2 z3 x0 x1 x2 x3
  obtain ⟨⟨z0, z1, z2, z3⟩, x0, x1, x2, x3⟩ := qh H2.out
  obtain ⟨sm, st, sa, sz⟩ := s1
  go_wp2
  exact bodyPost_ret (qp (m := sm) (t := st) (a := sa) (z := sz) Tryz.results146 rfl (put4 H2.out)) rfl ⟨by rw [HE.out], qq HB2.out (by omega) _ _ _ _⟩
 have HD : Hid (qK b = false) := hd
 by_cases h45 : b = 45
 case pos =>
  have n45 : ((b.toNat : Int) == 45) = true := by rw [h45]; rfl
  have HE : Hid (St.stepV ⟨9, t, [], false⟩ b = zB 9 t [] false b) := by show _ = _; rw [St.stepV]; (iterate 5 rw [if_neg (by simp)]); rw [if_pos rfl, if_neg h62, if_pos (by rw [hT1, h45]; decide)]; exact xk _ _ _ (by simp)
  clear hq hd h45
  have HC0 := qb (fun w => xr 9 t [] false b w (by omega))
  generalize zB 9 t [] false b = s1 at *
  generalize St.stepV ⟨9, t, [], false⟩ b = s0 at *
  go_enter Tryz.func146, Tryz.ntmps146
  go_wp2_with fail
  refine (HV.out _).mono ?_
  rintro e w1 ⟨rfl, hb⟩
  obtain ⟨hB, g0, g1, g2, hz⟩ := qB hb
  have HB := qb hB
  have H1 := qb g1
  obtain ⟨⟨y0, y1, y2, y3⟩, p0, p1, p2, p3⟩ := qh g0
  obtain ⟨⟨z0, z1, z2, z3⟩, x0, x1, x2, x3⟩ := qh g1
  obtain ⟨⟨u0, u1, u2, u3⟩, -⟩ := qh g2
  clear hb hB g0 g1 g2
  go_wp2_with (first | (go_at_call 169; refine qf (HLB.out _) ?_; rw [HT.out]) | (go_at_call 144; refine qf (HDB.out _) ?_; rw [HD.out]) | (go_at_call 171; refine qf (HBB.out _) ?_; rw [HBR.out]))
  refine (HC0.out _).mono ?_
  rintro e w2 ⟨rfl, hb⟩
  have hb2 : Below w1.heap.size w1 w2 := hb
  have HB2 := qb (HB.out.trans (hb2.mono HB.out.size))
  have H2 := qb (qi H1.out hb2)
  have hz2 := hb2.size
  clear hb hb2 z0 z1 z2 z3 x0 x1 x2 x3
  obtain ⟨⟨z0, z1, z2, z3⟩, x0, x1, x2, x3⟩ := qh H2.out
  obtain ⟨sm, st, sa, sz⟩ := s1
  go_wp2
  exact bodyPost_ret (qp (m := sm) (t := st) (a := sa) (z := sz) Tryz.results146 rfl (put4 H2.out)) rfl ⟨by rw [HE.out], qq HB2.out (by omega) _ _ _ _⟩
 have n45 := qy h45 45 rfl
 have d45 : ((b.toNat : Int) != 45) = true := by rw [bne, n45]; rfl
 have e45 : decide ((b.toNat : Int) = 45) = false := n45
 have HE : Hid (St.stepV ⟨9, t, [], false⟩ b = St.bad) := by show _ = _; rw [St.stepV]; (iterate 5 rw [if_neg (by simp)]); rw [if_pos rfl, if_neg h62, if_neg (by rw [hq, hd, hT1, e45]; decide)]
 generalize St.stepV ⟨9, t, [], false⟩ b = s0 at *
 go_enter Tryz.func146, Tryz.ntmps146
 go_wp2_with fail
 refine (HV.out _).mono ?_
 rintro e w1 ⟨rfl, hb⟩
 obtain ⟨hB, g0, g1, g2, hz⟩ := qB hb
 have HB := qb hB
 have H1 := qb g1
 obtain ⟨⟨y0, y1, y2, y3⟩, p0, p1, p2, p3⟩ := qh g0
 obtain ⟨⟨z0, z1, z2, z3⟩, x0, x1, x2, x3⟩ := qh g1
 obtain ⟨⟨u0, u1, u2, u3⟩, -⟩ := qh g2
 clear hb hB g0 g1 g2
 go_wp2_with (first | (go_at_call 169; refine qf (HLB.out _) ?_; rw [HT.out]) | (go_at_call 144; refine qf (HDB.out _) ?_; rw [HD.out]) | (go_at_call 171; refine qf (HBB.out _) ?_; rw [HBR.out]))
 exact bodyPost_ret (qp (m := 15) (t := []) (a := []) (z := false) Tryz.results146 rfl (put4 H1.out)) rfl ⟨by rw [HE.out]; first | done | rfl, qq HB.out (by omega) _ _ _ _⟩
set_option maxRecDepth 100000 in
set_option maxHeartbeats 4000000 in
theorem Vq  (b : UInt8) (w : World)  (hv : ∀ w, Calls Tryz.prog 121 #[stV 11 [] [] false] w fun e w' => e = .returned (.bool true) /\ Below w.heap.size w w') :
  Calls Tryz.prog 146 #[stV 11 [] [] false, .int .u8 (b.toNat : Int)] w fun e w' => e = .returned (St.v (St.stepV ⟨11, [], [], false⟩ b)) /\ Below w.heap.size w w' := by
 have HV := qb hv
 clear hv
 have HLB := qb (fun w => zg b w)
 have HDB := qb (fun w => zf b w)
 have HBB := qb (fun w => zn b w)
 by_cases h60 : b = 60
 ·have HE : Hid (St.stepV ⟨11, [], [], false⟩ b = ⟨14, [], [], false⟩) := by show _ = _; rw [St.stepV]; (iterate 7 rw [if_neg (by simp)]); rw [if_pos rfl, if_pos h60]
  have hb : (b.toNat : Int) = 60 := by rw [h60]; rfl
  obtain ⟨n60, n62, n47, n33, n34, n39, n92, n45, d60, d62, d47, d33, d34, d39, d92, d45⟩ := VN hb true false false false false false false false false true true true true true true true (by decide)
  have HD : Hid (qK b = false) := by show _ = _; rw [h60]; decide
  have HT : Hid (qu b = false) := by show _ = _; rw [h60]; decide
  have HBR : Hid (St.bareB b = false) := by show _ = _; rw [h60]; decide
  clear hb
  clear h60
  generalize St.stepV ⟨11, [], [], false⟩ b = s0 at *
  go_enter Tryz.func146, Tryz.ntmps146
  go_wp2_with fail
  refine (HV.out _).mono ?_
  rintro e w1 ⟨rfl, hb⟩
  obtain ⟨hB, g0, g1, g2, hz⟩ := qB hb
  have HB := qb hB
  have H1 := qb g1
  obtain ⟨⟨y0, y1, y2, y3⟩, p0, p1, p2, p3⟩ := qh g0
  obtain ⟨⟨z0, z1, z2, z3⟩, x0, x1, x2, x3⟩ := qh g1
  obtain ⟨⟨u0, u1, u2, u3⟩, -⟩ := qh g2
  clear hb hB g0 g1 g2
  go_wp2_with (first | (go_at_call 169; refine qf (HLB.out _) ?_; rw [HT.out]) | (go_at_call 144; refine qf (HDB.out _) ?_; rw [HD.out]) | (go_at_call 171; refine qf (HBB.out _) ?_; rw [HBR.out]))
  exact bodyPost_ret (qp (m := 14) (t := []) (a := []) (z := false) Tryz.results146 rfl (put4 H1.out)) rfl ⟨by rw [HE.out]; first | done | rfl, qq HB.out (by omega) _ _ _ _⟩
 have n60 := qy h60 60 rfl
 have d60 : ((b.toNat : Int) != 60) = true := by rw [bne, n60]; rfl
 by_cases h34 : b = 34
 ·have HE : Hid (St.stepV ⟨11, [], [], false⟩ b = ⟨12, [], [], false⟩) := by show _ = _; rw [St.stepV]; (iterate 7 rw [if_neg (by simp)]); rw [if_pos rfl, if_neg h60, if_pos h34]
  clear n60 d60
  have hb : (b.toNat : Int) = 34 := by rw [h34]; rfl
  obtain ⟨n60, n62, n47, n33, n34, n39, n92, n45, d60, d62, d47, d33, d34, d39, d92, d45⟩ := VN hb false false false false true false false false true true true true false true true true (by decide)
  have HD : Hid (qK b = false) := by show _ = _; rw [h34]; decide
  have HT : Hid (qu b = false) := by show _ = _; rw [h34]; decide
  have HBR : Hid (St.bareB b = false) := by show _ = _; rw [h34]; decide
  clear hb
  clear h34
  generalize St.stepV ⟨11, [], [], false⟩ b = s0 at *
  go_enter Tryz.func146, Tryz.ntmps146
  go_wp2_with fail
  refine (HV.out _).mono ?_
  rintro e w1 ⟨rfl, hb⟩
  obtain ⟨hB, g0, g1, g2, hz⟩ := qB hb
  have HB := qb hB
  have H1 := qb g1
  obtain ⟨⟨y0, y1, y2, y3⟩, p0, p1, p2, p3⟩ := qh g0
  obtain ⟨⟨z0, z1, z2, z3⟩, x0, x1, x2, x3⟩ := qh g1
  obtain ⟨⟨u0, u1, u2, u3⟩, -⟩ := qh g2
  clear hb hB g0 g1 g2
  go_wp2_with (first | (go_at_call 169; refine qf (HLB.out _) ?_; rw [HT.out]) | (go_at_call 144; refine qf (HDB.out _) ?_; rw [HD.out]) | (go_at_call 171; refine qf (HBB.out _) ?_; rw [HBR.out]))
  exact bodyPost_ret (qp (m := 12) (t := []) (a := []) (z := false) Tryz.results146 rfl (put4 H1.out)) rfl ⟨by rw [HE.out]; first | done | rfl, qq HB.out (by omega) _ _ _ _⟩
 have n34 := qy h34 34 rfl
 have d34 : ((b.toNat : Int) != 34) = true := by rw [bne, n34]; rfl
 by_cases h47 : b = 47
 ·have HE : Hid (St.stepV ⟨11, [], [], false⟩ b = ⟨11, [], [], false⟩) := by show _ = _; rw [St.stepV]; (iterate 7 rw [if_neg (by simp)]); rw [if_pos rfl, if_neg h60, if_neg h34]
  clear n60 d60 n34 d34
  have hb : (b.toNat : Int) = 47 := by rw [h47]; rfl
  obtain ⟨n60, n62, n47, n33, n34, n39, n92, n45, d60, d62, d47, d33, d34, d39, d92, d45⟩ := VN hb false false true false false false false false true true false true true true true true (by decide)
  have HD : Hid (qK b = false) := by show _ = _; rw [h47]; decide
  have HT : Hid (qu b = false) := by show _ = _; rw [h47]; decide
  have HBR : Hid (St.bareB b = true) := by show _ = _; rw [h47]; decide
  clear hb
  clear h47
  generalize St.stepV ⟨11, [], [], false⟩ b = s0 at *
  go_enter Tryz.func146, Tryz.ntmps146
  go_wp2_with fail
  refine (HV.out _).mono ?_
  rintro e w1 ⟨rfl, hb⟩
  obtain ⟨hB, g0, g1, g2, hz⟩ := qB hb
  have HB := qb hB
  have H1 := qb g1
  obtain ⟨⟨y0, y1, y2, y3⟩, p0, p1, p2, p3⟩ := qh g0
  obtain ⟨⟨z0, z1, z2, z3⟩, x0, x1, x2, x3⟩ := qh g1
  obtain ⟨⟨u0, u1, u2, u3⟩, -⟩ := qh g2
  clear hb hB g0 g1 g2
  go_wp2_with (first | (go_at_call 169; refine qf (HLB.out _) ?_; rw [HT.out]) | (go_at_call 144; refine qf (HDB.out _) ?_; rw [HD.out]) | (go_at_call 171; refine qf (HBB.out _) ?_; rw [HBR.out]))
  exact bodyPost_ret (qp (m := 11) (t := []) (a := []) (z := false) Tryz.results146 rfl (put4 H1.out)) rfl ⟨by rw [HE.out]; first | done | rfl, qq HB.out (by omega) _ _ _ _⟩
 have n47 := qy h47 47 rfl
 have d47 : ((b.toNat : Int) != 47) = true := by rw [bne, n47]; rfl
 have HE : Hid (St.stepV ⟨11, [], [], false⟩ b = ⟨11, [], [], false⟩) := by show _ = _; rw [St.stepV]; (iterate 7 rw [if_neg (by simp)]); rw [if_pos rfl, if_neg h60, if_neg h34]
 generalize St.stepV ⟨11, [], [], false⟩ b = s0 at *
 go_enter Tryz.func146, Tryz.ntmps146
 go_wp2_with fail
 refine (HV.out _).mono ?_
 rintro e w1 ⟨rfl, hb⟩
 obtain ⟨hB, g0, g1, g2, hz⟩ := qB hb
 have HB := qb hB
 have H1 := qb g1
 obtain ⟨⟨y0, y1, y2, y3⟩, p0, p1, p2, p3⟩ := qh g0
 obtain ⟨⟨z0, z1, z2, z3⟩, x0, x1, x2, x3⟩ := qh g1
 obtain ⟨⟨u0, u1, u2, u3⟩, -⟩ := qh g2
 clear hb hB g0 g1 g2
 go_wp2_with (first | (go_at_call 169; refine qf (HLB.out _) ?_; rw [HT.out]) | (go_at_call 144; refine qf (HDB.out _) ?_; rw [HD.out]) | (go_at_call 171; refine qf (HBB.out _) ?_; rw [HBR.out]))
 exact bodyPost_ret (qp (m := 11) (t := []) (a := []) (z := false) Tryz.results146 rfl (put4 H1.out)) rfl ⟨by rw [HE.out]; first | done | rfl, qq HB.out (by omega) _ _ _ _⟩
set_option maxRecDepth 100000 in
set_option maxHeartbeats 4000000 in
theorem Vr  (b : UInt8) (w : World)  (hv : ∀ w, Calls Tryz.prog 121 #[stV 14 [] [] false] w fun e w' => e = .returned (.bool true) /\ Below w.heap.size w w') :
  Calls Tryz.prog 146 #[stV 14 [] [] false, .int .u8 (b.toNat : Int)] w fun e w' => e = .returned (St.v (St.stepV ⟨14, [], [], false⟩ b)) /\ Below w.heap.size w w' := by
 have HV := qb hv
 clear hv
 have HLB := qb (fun w => zg b w)
 have HDB := qb (fun w => zf b w)
 have HBB := qb (fun w => zn b w)
 by_cases h60 : b = 60
 ·have HE : Hid (St.stepV ⟨14, [], [], false⟩ b = ⟨14, [], [], false⟩) := by show _ = _; rw [St.stepV]; (iterate 8 rw [if_neg (by simp)]); rw [if_pos rfl, if_pos h60]
  have hb : (b.toNat : Int) = 60 := by rw [h60]; rfl
  obtain ⟨n60, n62, n47, n33, n34, n39, n92, n45, d60, d62, d47, d33, d34, d39, d92, d45⟩ := VN hb true false false false false false false false false true true true true true true true (by decide)
  have HD : Hid (qK b = false) := by show _ = _; rw [h60]; decide
  have HT : Hid (qu b = false) := by show _ = _; rw [h60]; decide
  have HBR : Hid (St.bareB b = false) := by show _ = _; rw [h60]; decide
  clear hb
  clear h60
  generalize St.stepV ⟨14, [], [], false⟩ b = s0 at *
  go_enter Tryz.func146, Tryz.ntmps146
  go_wp2_with fail
  refine (HV.out _).mono ?_
  rintro e w1 ⟨rfl, hb⟩
  obtain ⟨hB, g0, g1, g2, hz⟩ := qB hb
  have HB := qb hB
  have H1 := qb g1
  obtain ⟨⟨y0, y1, y2, y3⟩, p0, p1, p2, p3⟩ := qh g0
  obtain ⟨⟨z0, z1, z2, z3⟩, x0, x1, x2, x3⟩ := qh g1
  obtain ⟨⟨u0, u1, u2, u3⟩, -⟩ := qh g2
  clear hb hB g0 g1 g2
  go_wp2_with (first | (go_at_call 169; refine qf (HLB.out _) ?_; rw [HT.out]) | (go_at_call 144; refine qf (HDB.out _) ?_; rw [HD.out]) | (go_at_call 171; refine qf (HBB.out _) ?_; rw [HBR.out]))
  exact bodyPost_ret (qp (m := 14) (t := []) (a := []) (z := false) Tryz.results146 rfl (put4 H1.out)) rfl ⟨by rw [HE.out]; first | done | rfl, qq HB.out (by omega) _ _ _ _⟩
 have n60 := qy h60 60 rfl
 have d60 : ((b.toNat : Int) != 60) = true := by rw [bne, n60]; rfl
 by_cases h34 : b = 34
 ·have HE : Hid (St.stepV ⟨14, [], [], false⟩ b = ⟨12, [], [], false⟩) := by show _ = _; rw [St.stepV]; (iterate 8 rw [if_neg (by simp)]); rw [if_pos rfl, if_neg h60, if_pos h34]
  clear n60 d60
  have hb : (b.toNat : Int) = 34 := by rw [h34]; rfl
  obtain ⟨n60, n62, n47, n33, n34, n39, n92, n45, d60, d62, d47, d33, d34, d39, d92, d45⟩ := VN hb false false false false true false false false true true true true false true true true (by decide)
  have HD : Hid (qK b = false) := by show _ = _; rw [h34]; decide
  have HT : Hid (qu b = false) := by show _ = _; rw [h34]; decide
  have HBR : Hid (St.bareB b = false) := by show _ = _; rw [h34]; decide
  clear hb
  clear h34
  generalize St.stepV ⟨14, [], [], false⟩ b = s0 at *
  go_enter Tryz.func146, Tryz.ntmps146
  go_wp2_with fail
  refine (HV.out _).mono ?_
  rintro e w1 ⟨rfl, hb⟩
  obtain ⟨hB, g0, g1, g2, hz⟩ := qB hb
  have HB := qb hB
  have H1 := qb g1
  obtain ⟨⟨y0, y1, y2, y3⟩, p0, p1, p2, p3⟩ := qh g0
  obtain ⟨⟨z0, z1, z2, z3⟩, x0, x1, x2, x3⟩ := qh g1
  obtain ⟨⟨u0, u1, u2, u3⟩, -⟩ := qh g2
  clear hb hB g0 g1 g2
  go_wp2_with (first | (go_at_call 169; refine qf (HLB.out _) ?_; rw [HT.out]) | (go_at_call 144; refine qf (HDB.out _) ?_; rw [HD.out]) | (go_at_call 171; refine qf (HBB.out _) ?_; rw [HBR.out]))
  exact bodyPost_ret (qp (m := 12) (t := []) (a := []) (z := false) Tryz.results146 rfl (put4 H1.out)) rfl ⟨by rw [HE.out]; first | done | rfl, qq HB.out (by omega) _ _ _ _⟩
 have n34 := qy h34 34 rfl
 have d34 : ((b.toNat : Int) != 34) = true := by rw [bne, n34]; rfl
 by_cases h47 : b = 47
 ·have HE : Hid (St.stepV ⟨14, [], [], false⟩ b = ⟨9, [], [], false⟩) := by show _ = _; rw [St.stepV]; (iterate 8 rw [if_neg (by simp)]); rw [if_pos rfl, if_neg h60, if_neg h34, if_pos h47]
  clear n60 d60 n34 d34
  have hb : (b.toNat : Int) = 47 := by rw [h47]; rfl
  obtain ⟨n60, n62, n47, n33, n34, n39, n92, n45, d60, d62, d47, d33, d34, d39, d92, d45⟩ := VN hb false false true false false false false false true true false true true true true true (by decide)
  have HD : Hid (qK b = false) := by show _ = _; rw [h47]; decide
  have HT : Hid (qu b = false) := by show _ = _; rw [h47]; decide
  have HBR : Hid (St.bareB b = true) := by show _ = _; rw [h47]; decide
  clear hb
  clear h47
  generalize St.stepV ⟨14, [], [], false⟩ b = s0 at *
  go_enter Tryz.func146, Tryz.ntmps146
  go_wp2_with fail
  refine (HV.out _).mono ?_
  rintro e w1 ⟨rfl, hb⟩
  obtain ⟨hB, g0, g1, g2, hz⟩ := qB hb
  have HB := qb hB
  have H1 := qb g1
  obtain ⟨⟨y0, y1, y2, y3⟩, p0, p1, p2, p3⟩ := qh g0
  obtain ⟨⟨z0, z1, z2, z3⟩, x0, x1, x2, x3⟩ := qh g1
  obtain ⟨⟨u0, u1, u2, u3⟩, -⟩ := qh g2
  clear hb hB g0 g1 g2
  go_wp2_with (first | (go_at_call 169; refine qf (HLB.out _) ?_; rw [HT.out]) | (go_at_call 144; refine qf (HDB.out _) ?_; rw [HD.out]) | (go_at_call 171; refine qf (HBB.out _) ?_; rw [HBR.out]))
  exact bodyPost_ret (qp (m := 9) (t := []) (a := []) (z := false) Tryz.results146 rfl (put4 H1.out)) rfl ⟨by rw [HE.out]; first | done | rfl, qq HB.out (by omega) _ _ _ _⟩
 have n47 := qy h47 47 rfl
 have d47 : ((b.toNat : Int) != 47) = true := by rw [bne, n47]; rfl
 have HE : Hid (St.stepV ⟨14, [], [], false⟩ b = ⟨11, [], [], false⟩) := by show _ = _; rw [St.stepV]; (iterate 8 rw [if_neg (by simp)]); rw [if_pos rfl, if_neg h60, if_neg h34, if_neg h47]
 generalize St.stepV ⟨14, [], [], false⟩ b = s0 at *
 go_enter Tryz.func146, Tryz.ntmps146
 go_wp2_with fail
 refine (HV.out _).mono ?_
 rintro e w1 ⟨rfl, hb⟩
 obtain ⟨hB, g0, g1, g2, hz⟩ := qB hb
 have HB := qb hB
 have H1 := qb g1
 obtain ⟨⟨y0, y1, y2, y3⟩, p0, p1, p2, p3⟩ := qh g0
 obtain ⟨⟨z0, z1, z2, z3⟩, x0, x1, x2, x3⟩ := qh g1
 obtain ⟨⟨u0, u1, u2, u3⟩, -⟩ := qh g2
 clear hb hB g0 g1 g2
 go_wp2_with (first | (go_at_call 169; refine qf (HLB.out _) ?_; rw [HT.out]) | (go_at_call 144; refine qf (HDB.out _) ?_; rw [HD.out]) | (go_at_call 171; refine qf (HBB.out _) ?_; rw [HBR.out]))
 exact bodyPost_ret (qp (m := 11) (t := []) (a := []) (z := false) Tryz.results146 rfl (put4 H1.out)) rfl ⟨by rw [HE.out]; first | done | rfl, qq HB.out (by omega) _ _ _ _⟩
set_option maxRecDepth 100000 in
set_option maxHeartbeats 4000000 in
theorem Vs  (b : UInt8) (w : World)  (hv : ∀ w, Calls Tryz.prog 121 #[stV 12 [] [] false] w fun e w' => e = .returned (.bool true) /\ Below w.heap.size w w') :
  Calls Tryz.prog 146 #[stV 12 [] [] false, .int .u8 (b.toNat : Int)] w fun e w' => e = .returned (St.v (St.stepV ⟨12, [], [], false⟩ b)) /\ Below w.heap.size w w' := by
 have HV := qb hv
 clear hv
 have HLB := qb (fun w => zg b w)
 have HDB := qb (fun w => zf b w)
 have HBB := qb (fun w => zn b w)
 by_cases h34 : b = 34
 ·have HE : Hid (St.stepV ⟨12, [], [], false⟩ b = ⟨11, [], [], false⟩) := by show _ = _; rw [St.stepV]; (iterate 9 rw [if_neg (by simp)]); rw [if_pos rfl, if_pos h34]
  have hb : (b.toNat : Int) = 34 := by rw [h34]; rfl
  obtain ⟨n60, n62, n47, n33, n34, n39, n92, n45, d60, d62, d47, d33, d34, d39, d92, d45⟩ := VN hb false false false false true false false false true true true true false true true true (by decide)
  have HD : Hid (qK b = false) := by show _ = _; rw [h34]; decide
  have HT : Hid (qu b = false) := by show _ = _; rw [h34]; decide
  have HBR : Hid (St.bareB b = false) := by show _ = _; rw [h34]; decide
  clear hb
  clear h34
  generalize St.stepV ⟨12, [], [], false⟩ b = s0 at *
  go_enter Tryz.func146, Tryz.ntmps146
  go_wp2_with fail
  refine (HV.out _).mono ?_
  rintro e w1 ⟨rfl, hb⟩
  obtain ⟨hB, g0, g1, g2, hz⟩ := qB hb
  have HB := qb hB
  have H1 := qb g1
  obtain ⟨⟨y0, y1, y2, y3⟩, p0, p1, p2, p3⟩ := qh g0
  obtain ⟨⟨z0, z1, z2, z3⟩, x0, x1, x2, x3⟩ := qh g1
  obtain ⟨⟨u0, u1, u2, u3⟩, -⟩ := qh g2
  clear hb hB g0 g1 g2
  go_wp2_with (first | (go_at_call 169; refine qf (HLB.out _) ?_; rw [HT.out]) | (go_at_call 144; refine qf (HDB.out _) ?_; rw [HD.out]) | (go_at_call 171; refine qf (HBB.out _) ?_; rw [HBR.out]))
  exact bodyPost_ret (qp (m := 11) (t := []) (a := []) (z := false) Tryz.results146 rfl (put4 H1.out)) rfl ⟨by rw [HE.out]; first | done | rfl, qq HB.out (by omega) _ _ _ _⟩
 have n34 := qy h34 34 rfl
 have d34 : ((b.toNat : Int) != 34) = true := by rw [bne, n34]; rfl
 by_cases h92 : b = 92
 ·have HE : Hid (St.stepV ⟨12, [], [], false⟩ b = ⟨13, [], [], false⟩) := by show _ = _; rw [St.stepV]; (iterate 9 rw [if_neg (by simp)]); rw [if_pos rfl, if_neg h34, if_pos h92]
  clear n34 d34
  have hb : (b.toNat : Int) = 92 := by rw [h92]; rfl
  obtain ⟨n60, n62, n47, n33, n34, n39, n92, n45, d60, d62, d47, d33, d34, d39, d92, d45⟩ := VN hb false false false false false false true false true true true true true true false true (by decide)
  have HD : Hid (qK b = false) := by show _ = _; rw [h92]; decide
  have HT : Hid (qu b = false) := by show _ = _; rw [h92]; decide
  have HBR : Hid (St.bareB b = false) := by show _ = _; rw [h92]; decide
  clear hb
  clear h92
  generalize St.stepV ⟨12, [], [], false⟩ b = s0 at *
  go_enter Tryz.func146, Tryz.ntmps146
  go_wp2_with fail
  refine (HV.out _).mono ?_
  rintro e w1 ⟨rfl, hb⟩
  obtain ⟨hB, g0, g1, g2, hz⟩ := qB hb
  have HB := qb hB
  have H1 := qb g1
  obtain ⟨⟨y0, y1, y2, y3⟩, p0, p1, p2, p3⟩ := qh g0
  obtain ⟨⟨z0, z1, z2, z3⟩, x0, x1, x2, x3⟩ := qh g1
  obtain ⟨⟨u0, u1, u2, u3⟩, -⟩ := qh g2
  clear hb hB g0 g1 g2
  go_wp2_with (first | (go_at_call 169; refine qf (HLB.out _) ?_; rw [HT.out]) | (go_at_call 144; refine qf (HDB.out _) ?_; rw [HD.out]) | (go_at_call 171; refine qf (HBB.out _) ?_; rw [HBR.out]))
  exact bodyPost_ret (qp (m := 13) (t := []) (a := []) (z := false) Tryz.results146 rfl (put4 H1.out)) rfl ⟨by rw [HE.out]; first | done | rfl, qq HB.out (by omega) _ _ _ _⟩
 have n92 := qy h92 92 rfl
 have d92 : ((b.toNat : Int) != 92) = true := by rw [bne, n92]; rfl
 by_cases h60 : b = 60
 ·have HE : Hid (St.stepV ⟨12, [], [], false⟩ b = St.bad) := by show _ = _; rw [St.stepV]; (iterate 9 rw [if_neg (by simp)]); rw [if_pos rfl, if_neg h34, if_neg h92, if_pos h60]
  clear n34 d34 n92 d92
  have hb : (b.toNat : Int) = 60 := by rw [h60]; rfl
  obtain ⟨n60, n62, n47, n33, n34, n39, n92, n45, d60, d62, d47, d33, d34, d39, d92, d45⟩ := VN hb true false false false false false false false false true true true true true true true (by decide)
  have HD : Hid (qK b = false) := by show _ = _; rw [h60]; decide
  have HT : Hid (qu b = false) := by show _ = _; rw [h60]; decide
  have HBR : Hid (St.bareB b = false) := by show _ = _; rw [h60]; decide
  clear hb
  clear h60
  generalize St.stepV ⟨12, [], [], false⟩ b = s0 at *
  go_enter Tryz.func146, Tryz.ntmps146
  go_wp2_with fail
  refine (HV.out _).mono ?_
  rintro e w1 ⟨rfl, hb⟩
  obtain ⟨hB, g0, g1, g2, hz⟩ := qB hb
  have HB := qb hB
  have H1 := qb g1
  obtain ⟨⟨y0, y1, y2, y3⟩, p0, p1, p2, p3⟩ := qh g0
  obtain ⟨⟨z0, z1, z2, z3⟩, x0, x1, x2, x3⟩ := qh g1
  obtain ⟨⟨u0, u1, u2, u3⟩, -⟩ := qh g2
  clear hb hB g0 g1 g2
  go_wp2_with (first | (go_at_call 169; refine qf (HLB.out _) ?_; rw [HT.out]) | (go_at_call 144; refine qf (HDB.out _) ?_; rw [HD.out]) | (go_at_call 171; refine qf (HBB.out _) ?_; rw [HBR.out]))
  exact bodyPost_ret (qp (m := 15) (t := []) (a := []) (z := false) Tryz.results146 rfl (put4 H1.out)) rfl ⟨by rw [HE.out]; first | done | rfl, qq HB.out (by omega) _ _ _ _⟩
 have n60 := qy h60 60 rfl
 have d60 : ((b.toNat : Int) != 60) = true := by rw [bne, n60]; rfl
 have HE : Hid (St.stepV ⟨12, [], [], false⟩ b = ⟨12, [], [], false⟩) := by show _ = _; rw [St.stepV]; (iterate 9 rw [if_neg (by simp)]); rw [if_pos rfl, if_neg h34, if_neg h92, if_neg h60]
 generalize St.stepV ⟨12, [], [], false⟩ b = s0 at *
 go_enter Tryz.func146, Tryz.ntmps146
 go_wp2_with fail
 refine (HV.out _).mono ?_
 rintro e w1 ⟨rfl, hb⟩
 obtain ⟨hB, g0, g1, g2, hz⟩ := qB hb
 have HB := qb hB
 have H1 := qb g1
 obtain ⟨⟨y0, y1, y2, y3⟩, p0, p1, p2, p3⟩ := qh g0
 obtain ⟨⟨z0, z1, z2, z3⟩, x0, x1, x2, x3⟩ := qh g1
 obtain ⟨⟨u0, u1, u2, u3⟩, -⟩ := qh g2
 clear hb hB g0 g1 g2
 go_wp2_with (first | (go_at_call 169; refine qf (HLB.out _) ?_; rw [HT.out]) | (go_at_call 144; refine qf (HDB.out _) ?_; rw [HD.out]) | (go_at_call 171; refine qf (HBB.out _) ?_; rw [HBR.out]))
 exact bodyPost_ret (qp (m := 12) (t := []) (a := []) (z := false) Tryz.results146 rfl (put4 H1.out)) rfl ⟨by rw [HE.out]; first | done | rfl, qq HB.out (by omega) _ _ _ _⟩
set_option maxRecDepth 100000 in
set_option maxHeartbeats 4000000 in
theorem Vt  (b : UInt8) (w : World)  (hv : ∀ w, Calls Tryz.prog 121 #[stV 13 [] [] false] w fun e w' => e = .returned (.bool true) /\ Below w.heap.size w w') :
  Calls Tryz.prog 146 #[stV 13 [] [] false, .int .u8 (b.toNat : Int)] w fun e w' => e = .returned (St.v (St.stepV ⟨13, [], [], false⟩ b)) /\ Below w.heap.size w w' := by
 have HV := qb hv
 clear hv
 have HLB := qb (fun w => zg b w)
 have HDB := qb (fun w => zf b w)
 have HBB := qb (fun w => zn b w)
 by_cases h60 : b = 60
 ·have HE : Hid (St.stepV ⟨13, [], [], false⟩ b = St.bad) := by show _ = _; rw [St.stepV]; (iterate 10 rw [if_neg (by simp)]); rw [if_pos rfl, if_pos h60]
  have hb : (b.toNat : Int) = 60 := by rw [h60]; rfl
  obtain ⟨n60, n62, n47, n33, n34, n39, n92, n45, d60, d62, d47, d33, d34, d39, d92, d45⟩ := VN hb true false false false false false false false false true true true true true true true (by decide)
  have HD : Hid (qK b = false) := by show _ = _; rw [h60]; decide
  have HT : Hid (qu b = false) := by show _ = _; rw [h60]; decide
  have HBR : Hid (St.bareB b = false) := by show _ = _; rw [h60]; decide
  clear hb
  clear h60
  generalize St.stepV ⟨13, [], [], false⟩ b = s0 at *
  go_enter Tryz.func146, Tryz.ntmps146
  go_wp2_with fail
  refine (HV.out _).mono ?_
  rintro e w1 ⟨rfl, hb⟩
  obtain ⟨hB, g0, g1, g2, hz⟩ := qB hb
  have HB := qb hB
  have H1 := qb g1
  obtain ⟨⟨y0, y1, y2, y3⟩, p0, p1, p2, p3⟩ := qh g0
  obtain ⟨⟨z0, z1, z2, z3⟩, x0, x1, x2, x3⟩ := qh g1
  obtain ⟨⟨u0, u1, u2, u3⟩, -⟩ := qh g2
  clear hb hB g0 g1 g2
  go_wp2_with (first | (go_at_call 169; refine qf (HLB.out _) ?_; rw [HT.out]) | (go_at_call 144; refine qf (HDB.out _) ?_; rw [HD.out]) | (go_at_call 171; refine qf (HBB.out _) ?_; rw [HBR.out]))
  exact bodyPost_ret (qp (m := 15) (t := []) (a := []) (z := false) Tryz.results146 rfl (put4 H1.out)) rfl ⟨by rw [HE.out]; first | done | rfl, qq HB.out (by omega) _ _ _ _⟩
 have n60 := qy h60 60 rfl
 have d60 : ((b.toNat : Int) != 60) = true := by rw [bne, n60]; rfl
 have HE : Hid (St.stepV ⟨13, [], [], false⟩ b = ⟨12, [], [], false⟩) := by show _ = _; rw [St.stepV]; (iterate 10 rw [if_neg (by simp)]); rw [if_pos rfl, if_neg h60]
 generalize St.stepV ⟨13, [], [], false⟩ b = s0 at *
 go_enter Tryz.func146, Tryz.ntmps146
 go_wp2_with fail
 refine (HV.out _).mono ?_
 rintro e w1 ⟨rfl, hb⟩
 obtain ⟨hB, g0, g1, g2, hz⟩ := qB hb
 have HB := qb hB
 have H1 := qb g1
 obtain ⟨⟨y0, y1, y2, y3⟩, p0, p1, p2, p3⟩ := qh g0
 obtain ⟨⟨z0, z1, z2, z3⟩, x0, x1, x2, x3⟩ := qh g1
 obtain ⟨⟨u0, u1, u2, u3⟩, -⟩ := qh g2
 clear hb hB g0 g1 g2
 go_wp2_with (first | (go_at_call 169; refine qf (HLB.out _) ?_; rw [HT.out]) | (go_at_call 144; refine qf (HDB.out _) ?_; rw [HD.out]) | (go_at_call 171; refine qf (HBB.out _) ?_; rw [HBR.out]))
 exact bodyPost_ret (qp (m := 12) (t := []) (a := []) (z := false) Tryz.results146 rfl (put4 H1.out)) rfl ⟨by rw [HE.out]; first | done | rfl, qq HB.out (by omega) _ _ _ _⟩
theorem Vu {m : Int} {t a : Tx} {z : Bool} (h : St.valid ⟨m, t, a, z⟩ = true) : t.length <= 10 /\ a.length <= 10 := by
 have hn : ∀ x : Tx, qJ x = true -> x.length <= 10 := fun x hx => by
  unfold qJ at hx
  simp only [Bool.and_eq_true, decide_eq_true_eq] at hx
  exact hx.1.1.2
 rw [(xO t a z).out] at h
 simp only [Bool.and_eq_true] at h
 obtain ⟨-, h2, h3, -⟩ := h
 constructor
 ·unfold St.tagOk at h2
  split at h2
  ·exact hn t h2
  ·split at h2
   ·rw [Bool.or_eq_true] at h2
    rcases h2 with h2 | h2
    ·rw [eq_of_beq h2]; simp
    ·exact hn t h2
   ·rw [eq_of_beq h2]; simp
 ·unfold St.attrOk at h3
  split at h3
  ·exact hn a h3
  ·rw [eq_of_beq h3]; simp
set_option maxRecDepth 100000 in
set_option maxHeartbeats 4000000 in
theorem Vv (s : St) (b : UInt8) (w : World) (hf : St.Fit s) :
  Calls Tryz.prog 146 #[St.v s, .int .u8 (b.toNat : Int)] w fun e w' => e = .returned (St.v (St.step s b)) /\ Below w.heap.size w w' := by
 obtain ⟨m, t, a, z⟩ := s
 obtain ⟨ht, ha⟩ := hf
 dsimp only at ht ha
 have hv := fun w => kO m t a z w (by omega) (by omega)
 cases h : St.valid ⟨m, t, a, z⟩
 ·have HS : Hid (St.step ⟨m, t, a, z⟩ b = St.bad) := by show _ = _; rw [St.step, h]; rfl
  rw [h] at hv
  have HV := qb hv
  clear hv h
  generalize St.step ⟨m, t, a, z⟩ b = s0 at *
  go_enter Tryz.func146, Tryz.ntmps146
  go_wp2_with fail
  refine (HV.out _).mono ?_
  rintro e w1 ⟨rfl, hb⟩
  obtain ⟨hB, g0, g1, g2, hz⟩ := qB hb
  have HB := qb hB
  have H1 := qb g1
  obtain ⟨⟨z0, z1, z2, z3⟩, x0, x1, x2, x3⟩ := qh g1
  obtain ⟨⟨u0, u1, u2, u3⟩, -⟩ := qh g2
  clear hb hB g0 g1 g2
  go_wp2
  exact bodyPost_ret (qp (m := 15) (t := []) (a := []) (z := false) Tryz.results146 rfl (put4 H1.out)) rfl ⟨by rw [HS.out]; rfl, qq HB.out (by omega) _ _ _ _⟩
 rw [h] at hv
 have HS : St.step ⟨m, t, a, z⟩ b = St.stepV ⟨m, t, a, z⟩ b := by rw [St.step, h]; rfl
 rw [HS]
 obtain ⟨ht2, ha2⟩ := Vu h
 obtain ⟨hm, c⟩ := yf h
 rcases c with ⟨rfl | rfl | rfl | rfl | rfl | rfl | rfl | rfl, rfl, rfl, rfl⟩ | ⟨rfl | rfl, rfl, rfl⟩ | ⟨rfl | rfl, rfl⟩ | rfl | rfl | ⟨rfl, rfl⟩ | ⟨rfl, rfl, rfl⟩
 ·exact Ve b w hv
 ·exact Vh b w hv
 ·exact Vf b w hv
 ·exact Vq b w hv
 ·exact Vs b w hv
 ·exact Vt b w hv
 ·exact Vr b w hv
 ·exact Vg b w hv
 ·exact Vl t b w ht2 hv
 ·exact Vm t b w ht2 hv
 ·exact Vn t a b w ht2 ha2 hv
 ·exact Vi t a b w hv
 ·exact Vj t a z b w hv
 ·exact Vk t a z b w hv
 ·exact Vo t a b w hv
 ·exact Vp t b w ht2 hv
end Go.Proofs.YtmboieajfdkllaaGreat
