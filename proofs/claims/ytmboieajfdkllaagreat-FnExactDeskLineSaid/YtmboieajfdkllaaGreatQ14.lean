import Derived.Test.YtmboieajfdkllaaGreatQ13
namespace Go.Proofs.YtmboieajfdkllaaGreat
open Go.RowKit Go.Deep
theorem yf {m : Int} {t a : Tx} {z : Bool} (h : St.valid ⟨m, t, a, z⟩ = true) : (0 <= m /\ m <= 15) ∧
  (((m = 0 \/ m = 1 \/ m = 10 \/ m = 11 \/ m = 12 \/ m = 13 \/ m = 14 \/ m = 15) /\ t = [] /\ a = [] /\ z = false) \/ ((m = 2 \/ m = 3) /\ a = [] /\ z = false) \/ ((m = 4 \/ m = 5) /\ z = false) \/ m = 6 \/ m = 7 \/ (m = 8 /\ z = true) \/ (m = 9 /\ a = [] /\ z = false)) := by
 rw [xO t a z |>.out] at h
 simp only [Bool.and_eq_true] at h
 obtain ⟨h1, h2, h3, h4⟩ := h
 simp only [St.inM, Bool.and_eq_true, decide_eq_true_eq] at h1
 refine ⟨h1, ?_⟩
 have h5 : m = 0 \/ m = 1 \/ m = 2 \/ m = 3 \/ m = 4 \/ m = 5 \/ m = 6 \/ m = 7 \/ m = 8 \/ m = 9 \/ m = 10 \/ m = 11 \/ m = 12 \/ m = 13 \/ m = 14 \/ m = 15 := by omega
 rcases h5 with rfl | rfl | rfl | rfl | rfl | rfl | rfl | rfl | rfl | rfl | rfl | rfl | rfl | rfl | rfl | rfl <;>
  simp [St.tagOk, St.attrOk, St.seenOk, St.inM] at h2 h3 h4 <;> simp [h2, h3, h4]
set_option maxRecDepth 100000 in
set_option maxHeartbeats 4000000 in
theorem QS (b : UInt8) (w : World) :
  Calls Tryz.prog 186 #[stV 11 [] [] false, .int .u8 (b.toNat : Int)] w fun e w' => e = .returned (St.v (St.stepV ⟨11, [], [], false⟩ b)) /\ Below w.heap.size w w' := by
 by_cases h60 : b = 60
 ·have HE : Hid (St.stepV ⟨11, [], [], false⟩ b = ⟨14, [], [], false⟩) := by show _ = _; rw [St.stepV]; (iterate 7 rw [if_neg (by simp)]); rw [if_pos rfl, if_pos h60]
  have hb : (b.toNat : Int) = 60 := by rw [h60]; rfl
  obtain ⟨n60, n62, n47, n33, n34, n39, n92, d60, d62, d47, d33, d34, d39, d92⟩ := VM hb true false false false false false false false true true true true true true (by decide)
  have HN : Hid (St.nameB b = false) := by show _ = _; rw [h60]; decide
  have HT : Hid (qu b = false) := by show _ = _; rw [h60]; decide
  clear hb
  clear HN HT
  clear h60
  generalize St.stepV ⟨11, [], [], false⟩ b = s0 at *
  go_enter Tryz.func186, Tryz.ntmps186
  go_wp2
  obtain ⟨g1, g2, g3⟩ := qE w (ql 11 [] [] false) (ql 14 [] [] false) 90 90
  exact bodyPost_ret (qp (m := 14) (t := []) (a := []) (z := false) Tryz.results186 rfl g3) rfl ⟨by rw [HE.out]; first | done | rfl, g1⟩
 have n60 := qy h60 60 rfl
 have d60 : ((b.toNat : Int) != 60) = true := by rw [bne, n60]; rfl
 by_cases h34 : b = 34
 ·have HE : Hid (St.stepV ⟨11, [], [], false⟩ b = ⟨12, [], [], false⟩) := by show _ = _; rw [St.stepV]; (iterate 7 rw [if_neg (by simp)]); rw [if_pos rfl, if_neg h60, if_pos h34]
  clear n60 d60
  have hb : (b.toNat : Int) = 34 := by rw [h34]; rfl
  obtain ⟨n60, n62, n47, n33, n34, n39, n92, d60, d62, d47, d33, d34, d39, d92⟩ := VM hb false false false false true false false true true true true false true true (by decide)
  have HN : Hid (St.nameB b = false) := by show _ = _; rw [h34]; decide
  have HT : Hid (qu b = false) := by show _ = _; rw [h34]; decide
  clear hb
  clear HN HT
  clear h34
  generalize St.stepV ⟨11, [], [], false⟩ b = s0 at *
  go_enter Tryz.func186, Tryz.ntmps186
  go_wp2
  obtain ⟨g1, g2, g3⟩ := qE w (ql 11 [] [] false) (ql 12 [] [] false) 90 90
  exact bodyPost_ret (qp (m := 12) (t := []) (a := []) (z := false) Tryz.results186 rfl g3) rfl ⟨by rw [HE.out]; first | done | rfl, g1⟩
 have n34 := qy h34 34 rfl
 have d34 : ((b.toNat : Int) != 34) = true := by rw [bne, n34]; rfl
 have HE : Hid (St.stepV ⟨11, [], [], false⟩ b = ⟨11, [], [], false⟩) := by show _ = _; rw [St.stepV]; (iterate 7 rw [if_neg (by simp)]); rw [if_pos rfl, if_neg h60, if_neg h34]
 generalize St.stepV ⟨11, [], [], false⟩ b = s0 at *
 go_enter Tryz.func186, Tryz.ntmps186
 go_wp2
 obtain ⟨g1, g2, g3⟩ := qE w (ql 11 [] [] false) (ql 11 [] [] false) 90 90
 exact bodyPost_ret (qp (m := 11) (t := []) (a := []) (z := false) Tryz.results186 rfl g3) rfl ⟨by rw [HE.out]; first | done | rfl, g1⟩
set_option maxRecDepth 100000 in
set_option maxHeartbeats 4000000 in
theorem QT (b : UInt8) (w : World) :
  Calls Tryz.prog 186 #[stV 14 [] [] false, .int .u8 (b.toNat : Int)] w fun e w' => e = .returned (St.v (St.stepV ⟨14, [], [], false⟩ b)) /\ Below w.heap.size w w' := by
 by_cases h60 : b = 60
 ·have HE : Hid (St.stepV ⟨14, [], [], false⟩ b = ⟨14, [], [], false⟩) := by show _ = _; rw [St.stepV]; (iterate 8 rw [if_neg (by simp)]); rw [if_pos rfl, if_pos h60]
  have hb : (b.toNat : Int) = 60 := by rw [h60]; rfl
  obtain ⟨n60, n62, n47, n33, n34, n39, n92, d60, d62, d47, d33, d34, d39, d92⟩ := VM hb true false false false false false false false true true true true true true (by decide)
  have HN : Hid (St.nameB b = false) := by show _ = _; rw [h60]; decide
  have HT : Hid (qu b = false) := by show _ = _; rw [h60]; decide
  clear hb
  clear HN HT
  clear h60
  generalize St.stepV ⟨14, [], [], false⟩ b = s0 at *
  go_enter Tryz.func186, Tryz.ntmps186
  go_wp2
  obtain ⟨g1, g2, g3⟩ := qE w (ql 14 [] [] false) (ql 14 [] [] false) 90 90
  exact bodyPost_ret (qp (m := 14) (t := []) (a := []) (z := false) Tryz.results186 rfl g3) rfl ⟨by rw [HE.out]; first | done | rfl, g1⟩
 have n60 := qy h60 60 rfl
 have d60 : ((b.toNat : Int) != 60) = true := by rw [bne, n60]; rfl
 by_cases h34 : b = 34
 ·have HE : Hid (St.stepV ⟨14, [], [], false⟩ b = ⟨12, [], [], false⟩) := by show _ = _; rw [St.stepV]; (iterate 8 rw [if_neg (by simp)]); rw [if_pos rfl, if_neg h60, if_pos h34]
  clear n60 d60
  have hb : (b.toNat : Int) = 34 := by rw [h34]; rfl
  obtain ⟨n60, n62, n47, n33, n34, n39, n92, d60, d62, d47, d33, d34, d39, d92⟩ := VM hb false false false false true false false true true true true false true true (by decide)
  have HN : Hid (St.nameB b = false) := by show _ = _; rw [h34]; decide
  have HT : Hid (qu b = false) := by show _ = _; rw [h34]; decide
  clear hb
  clear HN HT
  clear h34
  generalize St.stepV ⟨14, [], [], false⟩ b = s0 at *
  go_enter Tryz.func186, Tryz.ntmps186
  go_wp2
  obtain ⟨g1, g2, g3⟩ := qE w (ql 14 [] [] false) (ql 12 [] [] false) 90 90
  exact bodyPost_ret (qp (m := 12) (t := []) (a := []) (z := false) Tryz.results186 rfl g3) rfl ⟨by rw [HE.out]; first | done | rfl, g1⟩
 have n34 := qy h34 34 rfl
 have d34 : ((b.toNat : Int) != 34) = true := by rw [bne, n34]; rfl
 by_cases h47 : b = 47
 ·have HE : Hid (St.stepV ⟨14, [], [], false⟩ b = ⟨9, [], [], false⟩) := by show _ = _; rw [St.stepV]; (iterate 8 rw [if_neg (by simp)]); rw [if_pos rfl, if_neg h60, if_neg h34, if_pos h47]
  clear n60 d60
  clear n34 d34
  have hb : (b.toNat : Int) = 47 := by rw [h47]; rfl
  obtain ⟨n60, n62, n47, n33, n34, n39, n92, d60, d62, d47, d33, d34, d39, d92⟩ := VM hb false false true false false false false true true false true true true true (by decide)
  have HN : Hid (St.nameB b = false) := by show _ = _; rw [h47]; decide
  have HT : Hid (qu b = false) := by show _ = _; rw [h47]; decide
  clear hb
  clear HN HT
  clear h47
  generalize St.stepV ⟨14, [], [], false⟩ b = s0 at *
  go_enter Tryz.func186, Tryz.ntmps186
  go_wp2
  obtain ⟨g1, g2, g3⟩ := qE w (ql 14 [] [] false) (ql 9 [] [] false) 90 90
  exact bodyPost_ret (qp (m := 9) (t := []) (a := []) (z := false) Tryz.results186 rfl g3) rfl ⟨by rw [HE.out]; first | done | rfl, g1⟩
 have n47 := qy h47 47 rfl
 have d47 : ((b.toNat : Int) != 47) = true := by rw [bne, n47]; rfl
 have HE : Hid (St.stepV ⟨14, [], [], false⟩ b = ⟨11, [], [], false⟩) := by show _ = _; rw [St.stepV]; (iterate 8 rw [if_neg (by simp)]); rw [if_pos rfl, if_neg h60, if_neg h34, if_neg h47]
 generalize St.stepV ⟨14, [], [], false⟩ b = s0 at *
 go_enter Tryz.func186, Tryz.ntmps186
 go_wp2
 obtain ⟨g1, g2, g3⟩ := qE w (ql 14 [] [] false) (ql 11 [] [] false) 90 90
 exact bodyPost_ret (qp (m := 11) (t := []) (a := []) (z := false) Tryz.results186 rfl g3) rfl ⟨by rw [HE.out]; first | done | rfl, g1⟩
set_option maxRecDepth 100000 in
set_option maxHeartbeats 4000000 in
theorem QU (b : UInt8) (w : World) :
  Calls Tryz.prog 186 #[stV 12 [] [] false, .int .u8 (b.toNat : Int)] w fun e w' => e = .returned (St.v (St.stepV ⟨12, [], [], false⟩ b)) /\ Below w.heap.size w w' := by
 by_cases h34 : b = 34
 ·have HE : Hid (St.stepV ⟨12, [], [], false⟩ b = ⟨11, [], [], false⟩) := by show _ = _; rw [St.stepV]; (iterate 9 rw [if_neg (by simp)]); rw [if_pos rfl, if_pos h34]
  have hb : (b.toNat : Int) = 34 := by rw [h34]; rfl
  obtain ⟨n60, n62, n47, n33, n34, n39, n92, d60, d62, d47, d33, d34, d39, d92⟩ := VM hb false false false false true false false true true true true false true true (by decide)
  have HN : Hid (St.nameB b = false) := by show _ = _; rw [h34]; decide
  have HT : Hid (qu b = false) := by show _ = _; rw [h34]; decide
  clear hb
  clear HN HT
  clear h34
  generalize St.stepV ⟨12, [], [], false⟩ b = s0 at *
  go_enter Tryz.func186, Tryz.ntmps186
  go_wp2
  obtain ⟨g1, g2, g3⟩ := qE w (ql 12 [] [] false) (ql 11 [] [] false) 90 90
  exact bodyPost_ret (qp (m := 11) (t := []) (a := []) (z := false) Tryz.results186 rfl g3) rfl ⟨by rw [HE.out]; first | done | rfl, g1⟩
 have n34 := qy h34 34 rfl
 have d34 : ((b.toNat : Int) != 34) = true := by rw [bne, n34]; rfl
 by_cases h92 : b = 92
 ·have HE : Hid (St.stepV ⟨12, [], [], false⟩ b = ⟨13, [], [], false⟩) := by show _ = _; rw [St.stepV]; (iterate 9 rw [if_neg (by simp)]); rw [if_pos rfl, if_neg h34, if_pos h92]
  clear n34 d34
  have hb : (b.toNat : Int) = 92 := by rw [h92]; rfl
  obtain ⟨n60, n62, n47, n33, n34, n39, n92, d60, d62, d47, d33, d34, d39, d92⟩ := VM hb false false false false false false true true true true true true true false (by decide)
  have HN : Hid (St.nameB b = false) := by show _ = _; rw [h92]; decide
  have HT : Hid (qu b = false) := by show _ = _; rw [h92]; decide
  clear hb
  clear HN HT
  clear h92
  generalize St.stepV ⟨12, [], [], false⟩ b = s0 at *
  go_enter Tryz.func186, Tryz.ntmps186
  go_wp2
  obtain ⟨g1, g2, g3⟩ := qE w (ql 12 [] [] false) (ql 13 [] [] false) 90 90
  exact bodyPost_ret (qp (m := 13) (t := []) (a := []) (z := false) Tryz.results186 rfl g3) rfl ⟨by rw [HE.out]; first | done | rfl, g1⟩
 have n92 := qy h92 92 rfl
 have d92 : ((b.toNat : Int) != 92) = true := by rw [bne, n92]; rfl
 by_cases h60 : b = 60
 ·have HE : Hid (St.stepV ⟨12, [], [], false⟩ b = St.bad) := by show _ = _; rw [St.stepV]; (iterate 9 rw [if_neg (by simp)]); rw [if_pos rfl, if_neg h34, if_neg h92, if_pos h60]
  clear n34 d34
  clear n92 d92
  have hb : (b.toNat : Int) = 60 := by rw [h60]; rfl
  obtain ⟨n60, n62, n47, n33, n34, n39, n92, d60, d62, d47, d33, d34, d39, d92⟩ := VM hb true false false false false false false false true true true true true true (by decide)
  have HN : Hid (St.nameB b = false) := by show _ = _; rw [h60]; decide
  have HT : Hid (qu b = false) := by show _ = _; rw [h60]; decide
  clear hb
  clear HN HT
  clear h60
  generalize St.stepV ⟨12, [], [], false⟩ b = s0 at *
  go_enter Tryz.func186, Tryz.ntmps186
  go_wp2
  obtain ⟨g1, g2, g3⟩ := qE w (ql 12 [] [] false) (ql 15 [] [] false) 90 90
  exact bodyPost_ret (qp (m := 15) (t := []) (a := []) (z := false) Tryz.results186 rfl g3) rfl ⟨by rw [HE.out]; first | done | rfl, g1⟩
 have n60 := qy h60 60 rfl
 have d60 : ((b.toNat : Int) != 60) = true := by rw [bne, n60]; rfl
 have HE : Hid (St.stepV ⟨12, [], [], false⟩ b = ⟨12, [], [], false⟩) := by show _ = _; rw [St.stepV]; (iterate 9 rw [if_neg (by simp)]); rw [if_pos rfl, if_neg h34, if_neg h92, if_neg h60]
 generalize St.stepV ⟨12, [], [], false⟩ b = s0 at *
 go_enter Tryz.func186, Tryz.ntmps186
 go_wp2
 obtain ⟨g1, g2, g3⟩ := qE w (ql 12 [] [] false) (ql 12 [] [] false) 90 90
 exact bodyPost_ret (qp (m := 12) (t := []) (a := []) (z := false) Tryz.results186 rfl g3) rfl ⟨by rw [HE.out]; first | done | rfl, g1⟩
set_option maxRecDepth 100000 in
set_option maxHeartbeats 4000000 in
theorem QV (b : UInt8) (w : World) :
  Calls Tryz.prog 186 #[stV 13 [] [] false, .int .u8 (b.toNat : Int)] w fun e w' => e = .returned (St.v (St.stepV ⟨13, [], [], false⟩ b)) /\ Below w.heap.size w w' := by
 by_cases h60 : b = 60
 ·have HE : Hid (St.stepV ⟨13, [], [], false⟩ b = St.bad) := by show _ = _; rw [St.stepV]; (iterate 10 rw [if_neg (by simp)]); rw [if_pos rfl, if_pos h60]
  have hb : (b.toNat : Int) = 60 := by rw [h60]; rfl
  obtain ⟨n60, n62, n47, n33, n34, n39, n92, d60, d62, d47, d33, d34, d39, d92⟩ := VM hb true false false false false false false false true true true true true true (by decide)
  have HN : Hid (St.nameB b = false) := by show _ = _; rw [h60]; decide
  have HT : Hid (qu b = false) := by show _ = _; rw [h60]; decide
  clear hb
  clear HN HT
  clear h60
  generalize St.stepV ⟨13, [], [], false⟩ b = s0 at *
  go_enter Tryz.func186, Tryz.ntmps186
  go_wp2
  obtain ⟨g1, g2, g3⟩ := qE w (ql 13 [] [] false) (ql 15 [] [] false) 90 90
  exact bodyPost_ret (qp (m := 15) (t := []) (a := []) (z := false) Tryz.results186 rfl g3) rfl ⟨by rw [HE.out]; first | done | rfl, g1⟩
 have n60 := qy h60 60 rfl
 have d60 : ((b.toNat : Int) != 60) = true := by rw [bne, n60]; rfl
 have HE : Hid (St.stepV ⟨13, [], [], false⟩ b = ⟨12, [], [], false⟩) := by show _ = _; rw [St.stepV]; (iterate 10 rw [if_neg (by simp)]); rw [if_pos rfl, if_neg h60]
 generalize St.stepV ⟨13, [], [], false⟩ b = s0 at *
 go_enter Tryz.func186, Tryz.ntmps186
 go_wp2
 obtain ⟨g1, g2, g3⟩ := qE w (ql 13 [] [] false) (ql 12 [] [] false) 90 90
 exact bodyPost_ret (qp (m := 12) (t := []) (a := []) (z := false) Tryz.results186 rfl g3) rfl ⟨by rw [HE.out]; first | done | rfl, g1⟩
set_option maxRecDepth 100000 in
set_option maxHeartbeats 4000000 in
theorem QW  (b : UInt8) (w : World)  (hv : ∀ w, Calls Tryz.prog 154 #[stV 11 [] [] false] w fun e w' => e = .returned (.bool true) /\ Below w.heap.size w w') :
  Calls Tryz.prog 161 #[stV 11 [] [] false, .int .u8 (b.toNat : Int)] w fun e w' => e = .returned (St.v (St.stepV ⟨11, [], [], false⟩ b)) /\ Below w.heap.size w w' := by
 have HV := qb hv
 clear hv
 have HNB := qb (fun w => zj b w)
 have HLB := qb (fun w => ze b w)
 have HC0 := qb (fun w => QS b w)
 generalize St.stepV ⟨11, [], [], false⟩ b = s1 at *
 go_enter Tryz.func161, Tryz.ntmps161
 go_wp2_with fail
 refine (HV.out _).mono ?_
 rintro e w1 ⟨rfl, hb⟩
 obtain ⟨hB, g0, g1, g2, hz⟩ := qB hb
 have HB := qb hB
 have H1 := qb g1
 obtain ⟨⟨y0, y1, y2, y3⟩, p0, p1, p2, p3⟩ := qh g0
 obtain ⟨⟨z0, z1, z2, z3⟩, x0, x1, x2, x3⟩ := qh g1
 obtain ⟨⟨u0, u1, u2, u3⟩, -⟩ := qh g2
 clear hb hB g0 g1 g2
 go_wp2_with (first | (go_at_call 184; refine qf (HNB.out _) ?_; rw [HN.out]) | (go_at_call 181; refine qf (HLB.out _) ?_; rw [HT.out]) | (go_at_call 86; refine (qN _ _ _ _).mono ?_; rintro e w' ⟨rfl, rfl⟩))
 refine (HC0.out _).mono ?_
 rintro e w2 ⟨rfl, hb⟩
 have hb2 : Below w1.heap.size w1 w2 := hb
 have HB2 := qb (HB.out.trans (hb2.mono HB.out.size))
 have H2 := qb (qi H1.out hb2)
 have hz2 := hb2.size
 clear hb hb2 z0 z1 z2 z3 x0 x1 x2 x3
 obtain ⟨⟨z0, z1, z2, z3⟩, x0, x1, x2, x3⟩ := qh H2.out
 obtain ⟨sm, st, sa, sz⟩ := s1
 go_wp2
 exact bodyPost_ret (qp (m := sm) (t := st) (a := sa) (z := sz) Tryz.results161 rfl (put4 H2.out)) rfl ⟨rfl, qq HB2.out (by omega) _ _ _ _⟩
set_option maxRecDepth 100000 in
set_option maxHeartbeats 4000000 in
theorem QX  (b : UInt8) (w : World)  (hv : ∀ w, Calls Tryz.prog 154 #[stV 12 [] [] false] w fun e w' => e = .returned (.bool true) /\ Below w.heap.size w w') :
  Calls Tryz.prog 161 #[stV 12 [] [] false, .int .u8 (b.toNat : Int)] w fun e w' => e = .returned (St.v (St.stepV ⟨12, [], [], false⟩ b)) /\ Below w.heap.size w w' := by
 have HV := qb hv
 clear hv
 have HNB := qb (fun w => zj b w)
 have HLB := qb (fun w => ze b w)
 have HC0 := qb (fun w => QU b w)
 generalize St.stepV ⟨12, [], [], false⟩ b = s1 at *
 go_enter Tryz.func161, Tryz.ntmps161
 go_wp2_with fail
 refine (HV.out _).mono ?_
 rintro e w1 ⟨rfl, hb⟩
 obtain ⟨hB, g0, g1, g2, hz⟩ := qB hb
 have HB := qb hB
 have H1 := qb g1
 obtain ⟨⟨y0, y1, y2, y3⟩, p0, p1, p2, p3⟩ := qh g0
 obtain ⟨⟨z0, z1, z2, z3⟩, x0, x1, x2, x3⟩ := qh g1
 obtain ⟨⟨u0, u1, u2, u3⟩, -⟩ := qh g2
 clear hb hB g0 g1 g2
 go_wp2_with (first | (go_at_call 184; refine qf (HNB.out _) ?_; rw [HN.out]) | (go_at_call 181; refine qf (HLB.out _) ?_; rw [HT.out]) | (go_at_call 86; refine (qN _ _ _ _).mono ?_; rintro e w' ⟨rfl, rfl⟩))
 refine (HC0.out _).mono ?_
 rintro e w2 ⟨rfl, hb⟩
 have hb2 : Below w1.heap.size w1 w2 := hb
 have HB2 := qb (HB.out.trans (hb2.mono HB.out.size))
 have H2 := qb (qi H1.out hb2)
 have hz2 := hb2.size
 clear hb hb2 z0 z1 z2 z3 x0 x1 x2 x3
 obtain ⟨⟨z0, z1, z2, z3⟩, x0, x1, x2, x3⟩ := qh H2.out
 obtain ⟨sm, st, sa, sz⟩ := s1
 go_wp2
 exact bodyPost_ret (qp (m := sm) (t := st) (a := sa) (z := sz) Tryz.results161 rfl (put4 H2.out)) rfl ⟨rfl, qq HB2.out (by omega) _ _ _ _⟩
set_option maxRecDepth 100000 in
set_option maxHeartbeats 4000000 in
theorem QY  (b : UInt8) (w : World)  (hv : ∀ w, Calls Tryz.prog 154 #[stV 13 [] [] false] w fun e w' => e = .returned (.bool true) /\ Below w.heap.size w w') :
  Calls Tryz.prog 161 #[stV 13 [] [] false, .int .u8 (b.toNat : Int)] w fun e w' => e = .returned (St.v (St.stepV ⟨13, [], [], false⟩ b)) /\ Below w.heap.size w w' := by
 have HV := qb hv
 clear hv
 have HNB := qb (fun w => zj b w)
 have HLB := qb (fun w => ze b w)
 have HC0 := qb (fun w => QV b w)
 generalize St.stepV ⟨13, [], [], false⟩ b = s1 at *
 go_enter Tryz.func161, Tryz.ntmps161
 go_wp2_with fail
 refine (HV.out _).mono ?_
 rintro e w1 ⟨rfl, hb⟩
 obtain ⟨hB, g0, g1, g2, hz⟩ := qB hb
 have HB := qb hB
 have H1 := qb g1
 obtain ⟨⟨y0, y1, y2, y3⟩, p0, p1, p2, p3⟩ := qh g0
 obtain ⟨⟨z0, z1, z2, z3⟩, x0, x1, x2, x3⟩ := qh g1
 obtain ⟨⟨u0, u1, u2, u3⟩, -⟩ := qh g2
 clear hb hB g0 g1 g2
 go_wp2_with (first | (go_at_call 184; refine qf (HNB.out _) ?_; rw [HN.out]) | (go_at_call 181; refine qf (HLB.out _) ?_; rw [HT.out]) | (go_at_call 86; refine (qN _ _ _ _).mono ?_; rintro e w' ⟨rfl, rfl⟩))
 refine (HC0.out _).mono ?_
 rintro e w2 ⟨rfl, hb⟩
 have hb2 : Below w1.heap.size w1 w2 := hb
 have HB2 := qb (HB.out.trans (hb2.mono HB.out.size))
 have H2 := qb (qi H1.out hb2)
 have hz2 := hb2.size
 clear hb hb2 z0 z1 z2 z3 x0 x1 x2 x3
 obtain ⟨⟨z0, z1, z2, z3⟩, x0, x1, x2, x3⟩ := qh H2.out
 obtain ⟨sm, st, sa, sz⟩ := s1
 go_wp2
 exact bodyPost_ret (qp (m := sm) (t := st) (a := sa) (z := sz) Tryz.results161 rfl (put4 H2.out)) rfl ⟨rfl, qq HB2.out (by omega) _ _ _ _⟩
set_option maxRecDepth 100000 in
set_option maxHeartbeats 4000000 in
theorem QZ  (b : UInt8) (w : World)  (hv : ∀ w, Calls Tryz.prog 154 #[stV 14 [] [] false] w fun e w' => e = .returned (.bool true) /\ Below w.heap.size w w') :
  Calls Tryz.prog 161 #[stV 14 [] [] false, .int .u8 (b.toNat : Int)] w fun e w' => e = .returned (St.v (St.stepV ⟨14, [], [], false⟩ b)) /\ Below w.heap.size w w' := by
 have HV := qb hv
 clear hv
 have HNB := qb (fun w => zj b w)
 have HLB := qb (fun w => ze b w)
 have HC0 := qb (fun w => QT b w)
 generalize St.stepV ⟨14, [], [], false⟩ b = s1 at *
 go_enter Tryz.func161, Tryz.ntmps161
 go_wp2_with fail
 refine (HV.out _).mono ?_
 rintro e w1 ⟨rfl, hb⟩
 obtain ⟨hB, g0, g1, g2, hz⟩ := qB hb
 have HB := qb hB
 have H1 := qb g1
 obtain ⟨⟨y0, y1, y2, y3⟩, p0, p1, p2, p3⟩ := qh g0
 obtain ⟨⟨z0, z1, z2, z3⟩, x0, x1, x2, x3⟩ := qh g1
 obtain ⟨⟨u0, u1, u2, u3⟩, -⟩ := qh g2
 clear hb hB g0 g1 g2
 go_wp2_with (first | (go_at_call 184; refine qf (HNB.out _) ?_; rw [HN.out]) | (go_at_call 181; refine qf (HLB.out _) ?_; rw [HT.out]) | (go_at_call 86; refine (qN _ _ _ _).mono ?_; rintro e w' ⟨rfl, rfl⟩))
 refine (HC0.out _).mono ?_
 rintro e w2 ⟨rfl, hb⟩
 have hb2 : Below w1.heap.size w1 w2 := hb
 have HB2 := qb (HB.out.trans (hb2.mono HB.out.size))
 have H2 := qb (qi H1.out hb2)
 have hz2 := hb2.size
 clear hb hb2 z0 z1 z2 z3 x0 x1 x2 x3
 obtain ⟨⟨z0, z1, z2, z3⟩, x0, x1, x2, x3⟩ := qh H2.out
 obtain ⟨sm, st, sa, sz⟩ := s1
 go_wp2
 exact bodyPost_ret (qp (m := sm) (t := st) (a := sa) (z := sz) Tryz.results161 rfl (put4 H2.out)) rfl ⟨rfl, qq HB2.out (by omega) _ _ _ _⟩
set_option maxRecDepth 100000 in
set_option maxHeartbeats 4000000 in
theorem Ja  (b : UInt8) (w : World)  (hv : ∀ w, Calls Tryz.prog 154 #[stV 0 [] [] false] w fun e w' => e = .returned (.bool true) /\ Below w.heap.size w w') :
  Calls Tryz.prog 161 #[stV 0 [] [] false, .int .u8 (b.toNat : Int)] w fun e w' => e = .returned (St.v (St.stepV ⟨0, [], [], false⟩ b)) /\ Below w.heap.size w w' := by
 have HV := qb hv
 clear hv
 have HNB := qb (fun w => zj b w)
 have HLB := qb (fun w => ze b w)
 by_cases h60 : b = 60
 ·have HE : Hid (St.stepV ⟨0, [], [], false⟩ b = ⟨1, [], [], false⟩) := by show _ = _; rw [St.stepV, if_pos rfl, if_pos h60]
  have hb : (b.toNat : Int) = 60 := by rw [h60]; rfl
  obtain ⟨n60, n62, n47, n33, n34, n39, n92, d60, d62, d47, d33, d34, d39, d92⟩ := VM hb true false false false false false false false true true true true true true (by decide)
  have HN : Hid (St.nameB b = false) := by show _ = _; rw [h60]; decide
  have HT : Hid (qu b = false) := by show _ = _; rw [h60]; decide
  clear hb
  clear h60
  generalize St.stepV ⟨0, [], [], false⟩ b = s0 at *
  go_enter Tryz.func161, Tryz.ntmps161
  go_wp2_with fail
  refine (HV.out _).mono ?_
  rintro e w1 ⟨rfl, hb⟩
  obtain ⟨hB, g0, g1, g2, hz⟩ := qB hb
  have HB := qb hB
  have H1 := qb g1
  obtain ⟨⟨y0, y1, y2, y3⟩, p0, p1, p2, p3⟩ := qh g0
  obtain ⟨⟨z0, z1, z2, z3⟩, x0, x1, x2, x3⟩ := qh g1
  obtain ⟨⟨u0, u1, u2, u3⟩, -⟩ := qh g2
  clear hb hB g0 g1 g2
  go_wp2_with (first | (go_at_call 184; refine qf (HNB.out _) ?_; rw [HN.out]) | (go_at_call 181; refine qf (HLB.out _) ?_; rw [HT.out]) | (go_at_call 86; refine (qN _ _ _ _).mono ?_; rintro e w' ⟨rfl, rfl⟩))
  exact bodyPost_ret (qp (m := 1) (t := []) (a := []) (z := false) Tryz.results161 rfl (put4 H1.out)) rfl ⟨by rw [HE.out]; first | done | rfl, qq HB.out (by omega) _ _ _ _⟩
 have n60 := qy h60 60 rfl
 have d60 : ((b.toNat : Int) != 60) = true := by rw [bne, n60]; rfl
 have HE : Hid (St.stepV ⟨0, [], [], false⟩ b = St.zero) := by show _ = _; rw [St.stepV, if_pos rfl, if_neg h60]
 generalize St.stepV ⟨0, [], [], false⟩ b = s0 at *
 go_enter Tryz.func161, Tryz.ntmps161
 go_wp2_with fail
 refine (HV.out _).mono ?_
 rintro e w1 ⟨rfl, hb⟩
 obtain ⟨hB, g0, g1, g2, hz⟩ := qB hb
 have HB := qb hB
 have H1 := qb g1
 obtain ⟨⟨y0, y1, y2, y3⟩, p0, p1, p2, p3⟩ := qh g0
 obtain ⟨⟨z0, z1, z2, z3⟩, x0, x1, x2, x3⟩ := qh g1
 obtain ⟨⟨u0, u1, u2, u3⟩, -⟩ := qh g2
 clear hb hB g0 g1 g2
 go_wp2_with (first | (go_at_call 184; refine qf (HNB.out _) ?_; rw [HN.out]) | (go_at_call 181; refine qf (HLB.out _) ?_; rw [HT.out]) | (go_at_call 86; refine (qN _ _ _ _).mono ?_; rintro e w' ⟨rfl, rfl⟩))
 exact bodyPost_ret (qp (m := 0) (t := []) (a := []) (z := false) Tryz.results161 rfl (put4 H1.out)) rfl ⟨by rw [HE.out]; first | done | rfl, qq HB.out (by omega) _ _ _ _⟩
set_option maxRecDepth 100000 in
set_option maxHeartbeats 4000000 in
theorem Jb  (b : UInt8) (w : World)  (hv : ∀ w, Calls Tryz.prog 154 #[stV 10 [] [] false] w fun e w' => e = .returned (.bool true) /\ Below w.heap.size w w') :
  Calls Tryz.prog 161 #[stV 10 [] [] false, .int .u8 (b.toNat : Int)] w fun e w' => e = .returned (St.v (St.stepV ⟨10, [], [], false⟩ b)) /\ Below w.heap.size w w' := by
 have HV := qb hv
 clear hv
 have HNB := qb (fun w => zj b w)
 have HLB := qb (fun w => ze b w)
 by_cases h62 : b = 62
 ·have HE : Hid (St.stepV ⟨10, [], [], false⟩ b = St.zero) := by show _ = _; rw [St.stepV]; (iterate 6 rw [if_neg (by simp)]); rw [if_pos rfl, if_pos h62]
  have hb : (b.toNat : Int) = 62 := by rw [h62]; rfl
  obtain ⟨n60, n62, n47, n33, n34, n39, n92, d60, d62, d47, d33, d34, d39, d92⟩ := VM hb false true false false false false false true false true true true true true (by decide)
  have HN : Hid (St.nameB b = false) := by show _ = _; rw [h62]; decide
  have HT : Hid (qu b = false) := by show _ = _; rw [h62]; decide
  clear hb
  clear h62
  generalize St.stepV ⟨10, [], [], false⟩ b = s0 at *
  go_enter Tryz.func161, Tryz.ntmps161
  go_wp2_with fail
  refine (HV.out _).mono ?_
  rintro e w1 ⟨rfl, hb⟩
  obtain ⟨hB, g0, g1, g2, hz⟩ := qB hb
  have HB := qb hB
  have H1 := qb g1
  obtain ⟨⟨y0, y1, y2, y3⟩, p0, p1, p2, p3⟩ := qh g0
  obtain ⟨⟨z0, z1, z2, z3⟩, x0, x1, x2, x3⟩ := qh g1
  obtain ⟨⟨u0, u1, u2, u3⟩, -⟩ := qh g2
  clear hb hB g0 g1 g2
  go_wp2_with (first | (go_at_call 184; refine qf (HNB.out _) ?_; rw [HN.out]) | (go_at_call 181; refine qf (HLB.out _) ?_; rw [HT.out]) | (go_at_call 86; refine (qN _ _ _ _).mono ?_; rintro e w' ⟨rfl, rfl⟩))
  exact bodyPost_ret (qp (m := 0) (t := []) (a := []) (z := false) Tryz.results161 rfl (put4 H1.out)) rfl ⟨by rw [HE.out]; first | done | rfl, qq HB.out (by omega) _ _ _ _⟩
 have n62 := qy h62 62 rfl
 have d62 : ((b.toNat : Int) != 62) = true := by rw [bne, n62]; rfl
 have HE : Hid (St.stepV ⟨10, [], [], false⟩ b = ⟨10, [], [], false⟩) := by show _ = _; rw [St.stepV]; (iterate 6 rw [if_neg (by simp)]); rw [if_pos rfl, if_neg h62]
 generalize St.stepV ⟨10, [], [], false⟩ b = s0 at *
 go_enter Tryz.func161, Tryz.ntmps161
 go_wp2_with fail
 refine (HV.out _).mono ?_
 rintro e w1 ⟨rfl, hb⟩
 obtain ⟨hB, g0, g1, g2, hz⟩ := qB hb
 have HB := qb hB
 have H1 := qb g1
 obtain ⟨⟨y0, y1, y2, y3⟩, p0, p1, p2, p3⟩ := qh g0
 obtain ⟨⟨z0, z1, z2, z3⟩, x0, x1, x2, x3⟩ := qh g1
 obtain ⟨⟨u0, u1, u2, u3⟩, -⟩ := qh g2
 clear hb hB g0 g1 g2
 go_wp2_with (first | (go_at_call 184; refine qf (HNB.out _) ?_; rw [HN.out]) | (go_at_call 181; refine qf (HLB.out _) ?_; rw [HT.out]) | (go_at_call 86; refine (qN _ _ _ _).mono ?_; rintro e w' ⟨rfl, rfl⟩))
 exact bodyPost_ret (qp (m := 10) (t := []) (a := []) (z := false) Tryz.results161 rfl (put4 H1.out)) rfl ⟨by rw [HE.out]; first | done | rfl, qq HB.out (by omega) _ _ _ _⟩
set_option maxRecDepth 100000 in
set_option maxHeartbeats 4000000 in
theorem Jc  (b : UInt8) (w : World)  (hv : ∀ w, Calls Tryz.prog 154 #[stV 15 [] [] false] w fun e w' => e = .returned (.bool true) /\ Below w.heap.size w w') :
  Calls Tryz.prog 161 #[stV 15 [] [] false, .int .u8 (b.toNat : Int)] w fun e w' => e = .returned (St.v (St.stepV ⟨15, [], [], false⟩ b)) /\ Below w.heap.size w w' := by
 have HV := qb hv
 clear hv
 have HNB := qb (fun w => zj b w)
 have HLB := qb (fun w => ze b w)
 have HE : Hid (St.stepV ⟨15, [], [], false⟩ b = St.bad) := by show _ = _; rw [St.stepV]; (iterate 11 rw [if_neg (by simp)]); rw [if_pos rfl]
 generalize St.stepV ⟨15, [], [], false⟩ b = s0 at *
 go_enter Tryz.func161, Tryz.ntmps161
 go_wp2_with fail
 refine (HV.out _).mono ?_
 rintro e w1 ⟨rfl, hb⟩
 obtain ⟨hB, g0, g1, g2, hz⟩ := qB hb
 have HB := qb hB
 have H1 := qb g1
 obtain ⟨⟨y0, y1, y2, y3⟩, p0, p1, p2, p3⟩ := qh g0
 obtain ⟨⟨z0, z1, z2, z3⟩, x0, x1, x2, x3⟩ := qh g1
 obtain ⟨⟨u0, u1, u2, u3⟩, -⟩ := qh g2
 clear hb hB g0 g1 g2
 go_wp2_with (first | (go_at_call 184; refine qf (HNB.out _) ?_; rw [HN.out]) | (go_at_call 181; refine qf (HLB.out _) ?_; rw [HT.out]) | (go_at_call 86; refine (qN _ _ _ _).mono ?_; rintro e w' ⟨rfl, rfl⟩))
 exact bodyPost_ret (qp (m := 15) (t := []) (a := []) (z := false) Tryz.results161 rfl (put4 H1.out)) rfl ⟨by rw [HE.out]; first | done | rfl, qq HB.out (by omega) _ _ _ _⟩
set_option maxRecDepth 100000 in
set_option maxHeartbeats 4000000 in
theorem Jd  (b : UInt8) (w : World)  (hv : ∀ w, Calls Tryz.prog 154 #[stV 1 [] [] false] w fun e w' => e = .returned (.bool true) /\ Below w.heap.size w w') :
  Calls Tryz.prog 161 #[stV 1 [] [] false, .int .u8 (b.toNat : Int)] w fun e w' => e = .returned (St.v (St.stepV ⟨1, [], [], false⟩ b)) /\ Below w.heap.size w w' := by
 have HV := qb hv
 clear hv
 have HNB := qb (fun w => zj b w)
 have HLB := qb (fun w => ze b w)
 cases hq : qu b
 case true =>
  have HE : Hid (St.stepV ⟨1, [], [], false⟩ b = zh 2 [] [] b) := by show _ = _; rw [St.stepV, if_neg (by simp), if_pos rfl, if_pos hq]; rfl
  have HT := qb hq
  clear hq
  have HC0 := qb (fun w => jB 2 [] [] b w (by simp) (by simp))
  generalize zh 2 [] [] b = s1 at *
  generalize St.stepV ⟨1, [], [], false⟩ b = s0 at *
  go_enter Tryz.func161, Tryz.ntmps161
  go_wp2_with fail
  refine (HV.out _).mono ?_
  rintro e w1 ⟨rfl, hb⟩
  obtain ⟨hB, g0, g1, g2, hz⟩ := qB hb
  have HB := qb hB
  have H1 := qb g1
  obtain ⟨⟨y0, y1, y2, y3⟩, p0, p1, p2, p3⟩ := qh g0
  obtain ⟨⟨z0, z1, z2, z3⟩, x0, x1, x2, x3⟩ := qh g1
  obtain ⟨⟨u0, u1, u2, u3⟩, -⟩ := qh g2
  clear hb hB g0 g1 g2
  have hcv := zN (P := Tryz.prog) Tryz.underlying44 Tryz.underlying5 Tryz.underlying9 b (b.toNat : Int) rfl w1
  go_wp2_with (first | (go_at_call 184; refine qf (HNB.out _) ?_; rw [HN.out]) | (go_at_call 181; refine qf (HLB.out _) ?_; rw [HT.out]) | (go_at_call 86; refine (qN _ _ _ _).mono ?_; rintro e w' ⟨rfl, rfl⟩))
  refine (HC0.out _).mono ?_
  rintro e w2 ⟨rfl, hb⟩
  have hb2 : Below w1.heap.size w1 w2 := ((Below.refl _ _).alloc (Nat.le_refl _) _).trans (hb.mono (by simp))
  have HB2 := qb (HB.out.trans (hb2.mono HB.out.size))
  have H2 := qb (qi H1.out hb2)
  have hz2 := hb2.size
  clear hb hb2 z0 z1 z2 z3 x0 x1 x2 x3
  obtain ⟨⟨z0, z1, z2, z3⟩, x0, x1, x2, x3⟩ := qh H2.out
  obtain ⟨sm, st, sa, sz⟩ := s1
  go_wp2
  exact bodyPost_ret (qp (m := sm) (t := st) (a := sa) (z := sz) Tryz.results161 rfl (put4 H2.out)) rfl ⟨by rw [HE.out], qq HB2.out (by omega) _ _ _ _⟩
 have HF : Hid (qu b = false) := hq
 by_cases h47 : b = 47
 ·have HE : Hid (St.stepV ⟨1, [], [], false⟩ b = ⟨9, [], [], false⟩) := by show _ = _; rw [St.stepV, if_neg (by simp), if_pos rfl, if_neg (by rw [hq]; decide), if_pos h47]
  clear HF hq
  have hb : (b.toNat : Int) = 47 := by rw [h47]; rfl
  obtain ⟨n60, n62, n47, n33, n34, n39, n92, d60, d62, d47, d33, d34, d39, d92⟩ := VM hb false false true false false false false true true false true true true true (by decide)
  have HN : Hid (St.nameB b = false) := by show _ = _; rw [h47]; decide
  have HT : Hid (qu b = false) := by show _ = _; rw [h47]; decide
  clear hb
  clear h47
  generalize St.stepV ⟨1, [], [], false⟩ b = s0 at *
  go_enter Tryz.func161, Tryz.ntmps161
  go_wp2_with fail
  refine (HV.out _).mono ?_
  rintro e w1 ⟨rfl, hb⟩
  obtain ⟨hB, g0, g1, g2, hz⟩ := qB hb
  have HB := qb hB
  have H1 := qb g1
  obtain ⟨⟨y0, y1, y2, y3⟩, p0, p1, p2, p3⟩ := qh g0
  obtain ⟨⟨z0, z1, z2, z3⟩, x0, x1, x2, x3⟩ := qh g1
  obtain ⟨⟨u0, u1, u2, u3⟩, -⟩ := qh g2
  clear hb hB g0 g1 g2
  go_wp2_with (first | (go_at_call 184; refine qf (HNB.out _) ?_; rw [HN.out]) | (go_at_call 181; refine qf (HLB.out _) ?_; rw [HT.out]) | (go_at_call 86; refine (qN _ _ _ _).mono ?_; rintro e w' ⟨rfl, rfl⟩))
  exact bodyPost_ret (qp (m := 9) (t := []) (a := []) (z := false) Tryz.results161 rfl (put4 H1.out)) rfl ⟨by rw [HE.out]; first | done | rfl, qq HB.out (by omega) _ _ _ _⟩
 have n47 := qy h47 47 rfl
 have d47 : ((b.toNat : Int) != 47) = true := by rw [bne, n47]; rfl
 clear HF
 have HF : Hid (qu b = false) := hq
 by_cases h33 : b = 33
 ·have HE : Hid (St.stepV ⟨1, [], [], false⟩ b = ⟨10, [], [], false⟩) := by show _ = _; rw [St.stepV, if_neg (by simp), if_pos rfl, if_neg (by rw [hq]; decide), if_neg h47, if_pos h33]
  clear HF hq n47 d47
  have hb : (b.toNat : Int) = 33 := by rw [h33]; rfl
  obtain ⟨n60, n62, n47, n33, n34, n39, n92, d60, d62, d47, d33, d34, d39, d92⟩ := VM hb false false false true false false false true true true false true true true (by decide)
  have HN : Hid (St.nameB b = false) := by show _ = _; rw [h33]; decide
  have HT : Hid (qu b = false) := by show _ = _; rw [h33]; decide
  clear hb
  clear h33
  generalize St.stepV ⟨1, [], [], false⟩ b = s0 at *
  go_enter Tryz.func161, Tryz.ntmps161
  go_wp2_with fail
  refine (HV.out _).mono ?_
  rintro e w1 ⟨rfl, hb⟩
  obtain ⟨hB, g0, g1, g2, hz⟩ := qB hb
  have HB := qb hB
  have H1 := qb g1
  obtain ⟨⟨y0, y1, y2, y3⟩, p0, p1, p2, p3⟩ := qh g0
  obtain ⟨⟨z0, z1, z2, z3⟩, x0, x1, x2, x3⟩ := qh g1
  obtain ⟨⟨u0, u1, u2, u3⟩, -⟩ := qh g2
  clear hb hB g0 g1 g2
  go_wp2_with (first | (go_at_call 184; refine qf (HNB.out _) ?_; rw [HN.out]) | (go_at_call 181; refine qf (HLB.out _) ?_; rw [HT.out]) | (go_at_call 86; refine (qN _ _ _ _).mono ?_; rintro e w' ⟨rfl, rfl⟩))
  exact bodyPost_ret (qp (m := 10) (t := []) (a := []) (z := false) Tryz.results161 rfl (put4 H1.out)) rfl ⟨by rw [HE.out]; first | done | rfl, qq HB.out (by omega) _ _ _ _⟩
 have n33 := qy h33 33 rfl
 have d33 : ((b.toNat : Int) != 33) = true := by rw [bne, n33]; rfl
 have HT : Hid (qu b = false) := hq
 have HE : Hid (St.stepV ⟨1, [], [], false⟩ b = St.bad) := by show _ = _; rw [St.stepV, if_neg (by simp), if_pos rfl, if_neg (by rw [hq]; decide), if_neg h47, if_neg h33]
 generalize St.stepV ⟨1, [], [], false⟩ b = s0 at *
 go_enter Tryz.func161, Tryz.ntmps161
 go_wp2_with fail
 refine (HV.out _).mono ?_
 rintro e w1 ⟨rfl, hb⟩
 obtain ⟨hB, g0, g1, g2, hz⟩ := qB hb
 have HB := qb hB
 have H1 := qb g1
 obtain ⟨⟨y0, y1, y2, y3⟩, p0, p1, p2, p3⟩ := qh g0
 obtain ⟨⟨z0, z1, z2, z3⟩, x0, x1, x2, x3⟩ := qh g1
 obtain ⟨⟨u0, u1, u2, u3⟩, -⟩ := qh g2
 clear hb hB g0 g1 g2
 go_wp2_with (first | (go_at_call 184; refine qf (HNB.out _) ?_; rw [HN.out]) | (go_at_call 181; refine qf (HLB.out _) ?_; rw [HT.out]) | (go_at_call 86; refine (qN _ _ _ _).mono ?_; rintro e w' ⟨rfl, rfl⟩))
 exact bodyPost_ret (qp (m := 15) (t := []) (a := []) (z := false) Tryz.results161 rfl (put4 H1.out)) rfl ⟨by rw [HE.out]; first | done | rfl, qq HB.out (by omega) _ _ _ _⟩
set_option maxRecDepth 100000 in
set_option maxHeartbeats 4000000 in
theorem Je (t : Tx) (a : Tx) (z : Bool) (b : UInt8) (w : World)  (hv : ∀ w, Calls Tryz.prog 154 #[stV 6 t a z] w fun e w' => e = .returned (.bool true) /\ Below w.heap.size w w') :
  Calls Tryz.prog 161 #[stV 6 t a z, .int .u8 (b.toNat : Int)] w fun e w' => e = .returned (St.v (St.stepV ⟨6, t, a, z⟩ b)) /\ Below w.heap.size w w' := by
 have HV := qb hv
 clear hv
 have HNB := qb (fun w => zj b w)
 have HLB := qb (fun w => ze b w)
 by_cases h34 : b = 34
 ·have HE : Hid (St.stepV ⟨6, t, a, z⟩ b = ⟨3, t, [], false⟩) := by show _ = _; rw [St.stepV, if_neg (by simp), if_neg (by simp), if_neg (by simp), if_pos rfl, if_pos h34]
  have hb : (b.toNat : Int) = 34 := by rw [h34]; rfl
  obtain ⟨n60, n62, n47, n33, n34, n39, n92, d60, d62, d47, d33, d34, d39, d92⟩ := VM hb false false false false true false false true true true true false true true (by decide)
  have HN : Hid (St.nameB b = false) := by show _ = _; rw [h34]; decide
  have HT : Hid (qu b = false) := by show _ = _; rw [h34]; decide
  clear hb
  clear h34
  generalize St.stepV ⟨6, t, a, z⟩ b = s0 at *
  go_enter Tryz.func161, Tryz.ntmps161
  go_wp2_with fail
  refine (HV.out _).mono ?_
  rintro e w1 ⟨rfl, hb⟩
  obtain ⟨hB, g0, g1, g2, hz⟩ := qB hb
  have HB := qb hB
  have H1 := qb g1
  obtain ⟨⟨y0, y1, y2, y3⟩, p0, p1, p2, p3⟩ := qh g0
  obtain ⟨⟨z0, z1, z2, z3⟩, x0, x1, x2, x3⟩ := qh g1
  obtain ⟨⟨u0, u1, u2, u3⟩, -⟩ := qh g2
  clear hb hB g0 g1 g2
  go_wp2_with (first | (go_at_call 184; refine qf (HNB.out _) ?_; rw [HN.out]) | (go_at_call 181; refine qf (HLB.out _) ?_; rw [HT.out]) | (go_at_call 86; refine (qN _ _ _ _).mono ?_; rintro e w' ⟨rfl, rfl⟩))
  exact bodyPost_ret (qp (m := 3) (t := t) (a := []) (z := false) Tryz.results161 rfl (put4 H1.out)) rfl ⟨by rw [HE.out]; first | done | rfl, qq HB.out (by omega) _ _ _ _⟩
 have n34 := qy h34 34 rfl
 have d34 : ((b.toNat : Int) != 34) = true := by rw [bne, n34]; rfl
 have HE : Hid (St.stepV ⟨6, t, a, z⟩ b = ⟨6, t, a, true⟩) := by show _ = _; rw [St.stepV, if_neg (by simp), if_neg (by simp), if_neg (by simp), if_pos rfl, if_neg h34]
 have HC0 := qb (fun w => yJ 6 t a z w)
 have HC0 : Hid (∀ w, Calls Tryz.prog 183 #[stV 6 t a z] w fun e w' => e = .returned (St.v ⟨6, t, a, true⟩) /\ Below w.heap.size w w') := HC0
 generalize (⟨6, t, a, true⟩ : St) = s1 at *
 generalize St.stepV ⟨6, t, a, z⟩ b = s0 at *
 go_enter Tryz.func161, Tryz.ntmps161
 go_wp2_with fail
 refine (HV.out _).mono ?_
 rintro e w1 ⟨rfl, hb⟩
 obtain ⟨hB, g0, g1, g2, hz⟩ := qB hb
 have HB := qb hB
 have H1 := qb g1
 obtain ⟨⟨y0, y1, y2, y3⟩, p0, p1, p2, p3⟩ := qh g0
 obtain ⟨⟨z0, z1, z2, z3⟩, x0, x1, x2, x3⟩ := qh g1
 obtain ⟨⟨u0, u1, u2, u3⟩, -⟩ := qh g2
 clear hb hB g0 g1 g2
 go_wp2_with (first | (go_at_call 184; refine qf (HNB.out _) ?_; rw [HN.out]) | (go_at_call 181; refine qf (HLB.out _) ?_; rw [HT.out]) | (go_at_call 86; refine (qN _ _ _ _).mono ?_; rintro e w' ⟨rfl, rfl⟩))
 refine (HC0.out _).mono ?_
 rintro e w2 ⟨rfl, hb⟩
 have hb2 : Below w1.heap.size w1 w2 := hb
 have HB2 := qb (HB.out.trans (hb2.mono HB.out.size))
 have H2 := qb (qi H1.out hb2)
 have hz2 := hb2.size
 clear hb hb2 z0 z1 z2 z3 x0 x1 x2 x3
 obtain ⟨⟨z0, z1, z2, z3⟩, x0, x1, x2, x3⟩ := qh H2.out
 obtain ⟨sm, st, sa, sz⟩ := s1
 go_wp2
 exact bodyPost_ret (qp (m := sm) (t := st) (a := sa) (z := sz) Tryz.results161 rfl (put4 H2.out)) rfl ⟨by rw [HE.out], qq HB2.out (by omega) _ _ _ _⟩
set_option maxRecDepth 100000 in
set_option maxHeartbeats 4000000 in
theorem Jf (t : Tx) (a : Tx) (z : Bool) (b : UInt8) (w : World)  (hv : ∀ w, Calls Tryz.prog 154 #[stV 7 t a z] w fun e w' => e = .returned (.bool true) /\ Below w.heap.size w w') :
  Calls Tryz.prog 161 #[stV 7 t a z, .int .u8 (b.toNat : Int)] w fun e w' => e = .returned (St.v (St.stepV ⟨7, t, a, z⟩ b)) /\ Below w.heap.size w w' := by
 have HV := qb hv
 clear hv
 have HNB := qb (fun w => zj b w)
 have HLB := qb (fun w => ze b w)
 by_cases h39 : b = 39
 ·have HE : Hid (St.stepV ⟨7, t, a, z⟩ b = ⟨3, t, [], false⟩) := by show _ = _; rw [St.stepV]; (iterate 4 rw [if_neg (by simp)]); rw [if_pos rfl, if_pos h39]
  have hb : (b.toNat : Int) = 39 := by rw [h39]; rfl
  obtain ⟨n60, n62, n47, n33, n34, n39, n92, d60, d62, d47, d33, d34, d39, d92⟩ := VM hb false false false false false true false true true true true true false true (by decide)
  have HN : Hid (St.nameB b = false) := by show _ = _; rw [h39]; decide
  have HT : Hid (qu b = false) := by show _ = _; rw [h39]; decide
  clear hb
  clear h39
  generalize St.stepV ⟨7, t, a, z⟩ b = s0 at *
  go_enter Tryz.func161, Tryz.ntmps161
  go_wp2_with fail
  refine (HV.out _).mono ?_
  rintro e w1 ⟨rfl, hb⟩
  obtain ⟨hB, g0, g1, g2, hz⟩ := qB hb
  have HB := qb hB
  have H1 := qb g1
  obtain ⟨⟨y0, y1, y2, y3⟩, p0, p1, p2, p3⟩ := qh g0
  obtain ⟨⟨z0, z1, z2, z3⟩, x0, x1, x2, x3⟩ := qh g1
  obtain ⟨⟨u0, u1, u2, u3⟩, -⟩ := qh g2
  clear hb hB g0 g1 g2
  go_wp2_with (first | (go_at_call 184; refine qf (HNB.out _) ?_; rw [HN.out]) | (go_at_call 181; refine qf (HLB.out _) ?_; rw [HT.out]) | (go_at_call 86; refine (qN _ _ _ _).mono ?_; rintro e w' ⟨rfl, rfl⟩))
  exact bodyPost_ret (qp (m := 3) (t := t) (a := []) (z := false) Tryz.results161 rfl (put4 H1.out)) rfl ⟨by rw [HE.out]; first | done | rfl, qq HB.out (by omega) _ _ _ _⟩
 have n39 := qy h39 39 rfl
 have d39 : ((b.toNat : Int) != 39) = true := by rw [bne, n39]; rfl
 have HE : Hid (St.stepV ⟨7, t, a, z⟩ b = ⟨7, t, a, true⟩) := by show _ = _; rw [St.stepV]; (iterate 4 rw [if_neg (by simp)]); rw [if_pos rfl, if_neg h39]
 have HC0 := qb (fun w => yJ 7 t a z w)
 have HC0 : Hid (∀ w, Calls Tryz.prog 183 #[stV 7 t a z] w fun e w' => e = .returned (St.v ⟨7, t, a, true⟩) /\ Below w.heap.size w w') := HC0
 generalize (⟨7, t, a, true⟩ : St) = s1 at *
 generalize St.stepV ⟨7, t, a, z⟩ b = s0 at *
 go_enter Tryz.func161, Tryz.ntmps161
 go_wp2_with fail
 refine (HV.out _).mono ?_
 rintro e w1 ⟨rfl, hb⟩
 obtain ⟨hB, g0, g1, g2, hz⟩ := qB hb
 have HB := qb hB
 have H1 := qb g1
 obtain ⟨⟨y0, y1, y2, y3⟩, p0, p1, p2, p3⟩ := qh g0
 obtain ⟨⟨z0, z1, z2, z3⟩, x0, x1, x2, x3⟩ := qh g1
 obtain ⟨⟨u0, u1, u2, u3⟩, -⟩ := qh g2
 clear hb hB g0 g1 g2
 go_wp2_with (first | (go_at_call 184; refine qf (HNB.out _) ?_; rw [HN.out]) | (go_at_call 181; refine qf (HLB.out _) ?_; rw [HT.out]) | (go_at_call 86; refine (qN _ _ _ _).mono ?_; rintro e w' ⟨rfl, rfl⟩))
 refine (HC0.out _).mono ?_
 rintro e w2 ⟨rfl, hb⟩
 have hb2 : Below w1.heap.size w1 w2 := hb
 have HB2 := qb (HB.out.trans (hb2.mono HB.out.size))
 have H2 := qb (qi H1.out hb2)
 have hz2 := hb2.size
 clear hb hb2 z0 z1 z2 z3 x0 x1 x2 x3
 obtain ⟨⟨z0, z1, z2, z3⟩, x0, x1, x2, x3⟩ := qh H2.out
 obtain ⟨sm, st, sa, sz⟩ := s1
 go_wp2
 exact bodyPost_ret (qp (m := sm) (t := st) (a := sa) (z := sz) Tryz.results161 rfl (put4 H2.out)) rfl ⟨by rw [HE.out], qq HB2.out (by omega) _ _ _ _⟩
set_option maxRecDepth 100000 in
set_option maxHeartbeats 4000000 in
theorem Jg (t : Tx) (b : UInt8) (w : World) (ht : t.length <= 1000) (hv : ∀ w, Calls Tryz.prog 154 #[stV 2 t [] false] w fun e w' => e = .returned (.bool true) /\ Below w.heap.size w w') :
  Calls Tryz.prog 161 #[stV 2 t [] false, .int .u8 (b.toNat : Int)] w fun e w' => e = .returned (St.v (St.stepV ⟨2, t, [], false⟩ b)) /\ Below w.heap.size w w' := by
 have HV := qb hv
 clear hv
 have HNB := qb (fun w => zj b w)
 have HLB := qb (fun w => ze b w)
 have HE : Hid (St.stepV ⟨2, t, [], false⟩ b = St.stepTag 2 t [] false b) := by show _ = _; rw [St.stepV]; (iterate 11 rw [if_neg (by simp)]); rw [if_neg (by simp)]
 have HC0 := qb (fun w => Ks t b w ht)
 generalize St.stepTag 2 t [] false b = s1 at *
 generalize St.stepV ⟨2, t, [], false⟩ b = s0 at *
 go_enter Tryz.func161, Tryz.ntmps161
 go_wp2_with fail
 refine (HV.out _).mono ?_
 rintro e w1 ⟨rfl, hb⟩
 obtain ⟨hB, g0, g1, g2, hz⟩ := qB hb
 have HB := qb hB
 have H1 := qb g1
 obtain ⟨⟨y0, y1, y2, y3⟩, p0, p1, p2, p3⟩ := qh g0
 obtain ⟨⟨z0, z1, z2, z3⟩, x0, x1, x2, x3⟩ := qh g1
 obtain ⟨⟨u0, u1, u2, u3⟩, -⟩ := qh g2
 clear hb hB g0 g1 g2
 go_wp2_with (first | (go_at_call 184; refine qf (HNB.out _) ?_; rw [HN.out]) | (go_at_call 181; refine qf (HLB.out _) ?_; rw [HT.out]) | (go_at_call 86; refine (qN _ _ _ _).mono ?_; rintro e w' ⟨rfl, rfl⟩))
 refine (HC0.out _).mono ?_
 rintro e w2 ⟨rfl, hb⟩
 have hb2 : Below w1.heap.size w1 w2 := hb
 have HB2 := qb (HB.out.trans (hb2.mono HB.out.size))
 have H2 := qb (qi H1.out hb2)
 have hz2 := hb2.size
 clear hb hb2 z0 z1 z2 z3 x0 x1 x2 x3
 obtain ⟨⟨z0, z1, z2, z3⟩, x0, x1, x2, x3⟩ := qh H2.out
 obtain ⟨sm, st, sa, sz⟩ := s1
 go_wp2
 exact bodyPost_ret (qp (m := sm) (t := st) (a := sa) (z := sz) Tryz.results161 rfl (put4 H2.out)) rfl ⟨by rw [HE.out], qq HB2.out (by omega) _ _ _ _⟩
set_option maxRecDepth 100000 in
set_option maxHeartbeats 4000000 in
theorem Jh (t : Tx) (b : UInt8) (w : World) (ht : t.length <= 1000) (hv : ∀ w, Calls Tryz.prog 154 #[stV 3 t [] false] w fun e w' => e = .returned (.bool true) /\ Below w.heap.size w w') :
  Calls Tryz.prog 161 #[stV 3 t [] false, .int .u8 (b.toNat : Int)] w fun e w' => e = .returned (St.v (St.stepV ⟨3, t, [], false⟩ b)) /\ Below w.heap.size w w' := by
 have HV := qb hv
 clear hv
 have HNB := qb (fun w => zj b w)
 have HLB := qb (fun w => ze b w)
 have HE : Hid (St.stepV ⟨3, t, [], false⟩ b = St.stepTag 3 t [] false b) := by show _ = _; rw [St.stepV]; (iterate 11 rw [if_neg (by simp)]); rw [if_neg (by simp)]
 have HC0 := qb (fun w => Kt t b w ht)
 generalize St.stepTag 3 t [] false b = s1 at *
 generalize St.stepV ⟨3, t, [], false⟩ b = s0 at *
 go_enter Tryz.func161, Tryz.ntmps161
 go_wp2_with fail
 refine (HV.out _).mono ?_
 rintro e w1 ⟨rfl, hb⟩
 obtain ⟨hB, g0, g1, g2, hz⟩ := qB hb
 have HB := qb hB
 have H1 := qb g1
 obtain ⟨⟨y0, y1, y2, y3⟩, p0, p1, p2, p3⟩ := qh g0
 obtain ⟨⟨z0, z1, z2, z3⟩, x0, x1, x2, x3⟩ := qh g1
 obtain ⟨⟨u0, u1, u2, u3⟩, -⟩ := qh g2
 clear hb hB g0 g1 g2
 go_wp2_with (first | (go_at_call 184; refine qf (HNB.out _) ?_; rw [HN.out]) | (go_at_call 181; refine qf (HLB.out _) ?_; rw [HT.out]) | (go_at_call 86; refine (qN _ _ _ _).mono ?_; rintro e w' ⟨rfl, rfl⟩))
 refine (HC0.out _).mono ?_
 rintro e w2 ⟨rfl, hb⟩
 have hb2 : Below w1.heap.size w1 w2 := hb
 have HB2 := qb (HB.out.trans (hb2.mono HB.out.size))
 have H2 := qb (qi H1.out hb2)
 have hz2 := hb2.size
 clear hb hb2 z0 z1 z2 z3 x0 x1 x2 x3
 obtain ⟨⟨z0, z1, z2, z3⟩, x0, x1, x2, x3⟩ := qh H2.out
 obtain ⟨sm, st, sa, sz⟩ := s1
 go_wp2
 exact bodyPost_ret (qp (m := sm) (t := st) (a := sa) (z := sz) Tryz.results161 rfl (put4 H2.out)) rfl ⟨by rw [HE.out], qq HB2.out (by omega) _ _ _ _⟩
set_option maxRecDepth 100000 in
set_option maxHeartbeats 4000000 in
theorem Ji (t : Tx) (a : Tx) (b : UInt8) (w : World) (ht : t.length <= 1000) (ha : a.length <= 1000) (hv : ∀ w, Calls Tryz.prog 154 #[stV 4 t a false] w fun e w' => e = .returned (.bool true) /\ Below w.heap.size w w') :
  Calls Tryz.prog 161 #[stV 4 t a false, .int .u8 (b.toNat : Int)] w fun e w' => e = .returned (St.v (St.stepV ⟨4, t, a, false⟩ b)) /\ Below w.heap.size w w' := by
 have HV := qb hv
 clear hv
 have HNB := qb (fun w => zj b w)
 have HLB := qb (fun w => ze b w)
 have HE : Hid (St.stepV ⟨4, t, a, false⟩ b = St.stepTag 4 t a false b) := by show _ = _; rw [St.stepV]; (iterate 11 rw [if_neg (by simp)]); rw [if_neg (by simp)]
 have HC0 := qb (fun w => Ku t a b w ht ha)
 generalize St.stepTag 4 t a false b = s1 at *
 generalize St.stepV ⟨4, t, a, false⟩ b = s0 at *
 go_enter Tryz.func161, Tryz.ntmps161
 go_wp2_with fail
 refine (HV.out _).mono ?_
 rintro e w1 ⟨rfl, hb⟩
 obtain ⟨hB, g0, g1, g2, hz⟩ := qB hb
 have HB := qb hB
 have H1 := qb g1
 obtain ⟨⟨y0, y1, y2, y3⟩, p0, p1, p2, p3⟩ := qh g0
 obtain ⟨⟨z0, z1, z2, z3⟩, x0, x1, x2, x3⟩ := qh g1
 obtain ⟨⟨u0, u1, u2, u3⟩, -⟩ := qh g2
 clear hb hB g0 g1 g2
 go_wp2_with (first | (go_at_call 184; refine qf (HNB.out _) ?_; rw [HN.out]) | (go_at_call 181; refine qf (HLB.out _) ?_; rw [HT.out]) | (go_at_call 86; refine (qN _ _ _ _).mono ?_; rintro e w' ⟨rfl, rfl⟩))
 refine (HC0.out _).mono ?_
 rintro e w2 ⟨rfl, hb⟩
 have hb2 : Below w1.heap.size w1 w2 := hb
 have HB2 := qb (HB.out.trans (hb2.mono HB.out.size))
 have H2 := qb (qi H1.out hb2)
 have hz2 := hb2.size
 clear hb hb2 z0 z1 z2 z3 x0 x1 x2 x3
 obtain ⟨⟨z0, z1, z2, z3⟩, x0, x1, x2, x3⟩ := qh H2.out
 obtain ⟨sm, st, sa, sz⟩ := s1
 go_wp2
 exact bodyPost_ret (qp (m := sm) (t := st) (a := sa) (z := sz) Tryz.results161 rfl (put4 H2.out)) rfl ⟨by rw [HE.out], qq HB2.out (by omega) _ _ _ _⟩
set_option maxRecDepth 100000 in
set_option maxHeartbeats 4000000 in
theorem Jj (t : Tx) (a : Tx) (b : UInt8) (w : World)  (hv : ∀ w, Calls Tryz.prog 154 #[stV 5 t a false] w fun e w' => e = .returned (.bool true) /\ Below w.heap.size w w') :
  Calls Tryz.prog 161 #[stV 5 t a false, .int .u8 (b.toNat : Int)] w fun e w' => e = .returned (St.v (St.stepV ⟨5, t, a, false⟩ b)) /\ Below w.heap.size w w' := by
 have HV := qb hv
 clear hv
 have HNB := qb (fun w => zj b w)
 have HLB := qb (fun w => ze b w)
 have HC0 := qb (fun w => Kw t a b w )
 generalize St.stepV ⟨5, t, a, false⟩ b = s1 at *
 go_enter Tryz.func161, Tryz.ntmps161
 go_wp2_with fail
 refine (HV.out _).mono ?_
 rintro e w1 ⟨rfl, hb⟩
 obtain ⟨hB, g0, g1, g2, hz⟩ := qB hb
 have HB := qb hB
 have H1 := qb g1
 obtain ⟨⟨y0, y1, y2, y3⟩, p0, p1, p2, p3⟩ := qh g0
 obtain ⟨⟨z0, z1, z2, z3⟩, x0, x1, x2, x3⟩ := qh g1
 obtain ⟨⟨u0, u1, u2, u3⟩, -⟩ := qh g2
 clear hb hB g0 g1 g2
 go_wp2_with (first | (go_at_call 184; refine qf (HNB.out _) ?_; rw [HN.out]) | (go_at_call 181; refine qf (HLB.out _) ?_; rw [HT.out]) | (go_at_call 86; refine (qN _ _ _ _).mono ?_; rintro e w' ⟨rfl, rfl⟩))
 refine (HC0.out _).mono ?_
 rintro e w2 ⟨rfl, hb⟩
 have hb2 : Below w1.heap.size w1 w2 := hb
 have HB2 := qb (HB.out.trans (hb2.mono HB.out.size))
 have H2 := qb (qi H1.out hb2)
 have hz2 := hb2.size
 clear hb hb2 z0 z1 z2 z3 x0 x1 x2 x3
 obtain ⟨⟨z0, z1, z2, z3⟩, x0, x1, x2, x3⟩ := qh H2.out
 obtain ⟨sm, st, sa, sz⟩ := s1
 go_wp2
 exact bodyPost_ret (qp (m := sm) (t := st) (a := sa) (z := sz) Tryz.results161 rfl (put4 H2.out)) rfl ⟨rfl, qq HB2.out (by omega) _ _ _ _⟩
set_option maxRecDepth 100000 in
set_option maxHeartbeats 4000000 in
theorem Jk (t : Tx) (a : Tx) (b : UInt8) (w : World)  (hv : ∀ w, Calls Tryz.prog 154 #[stV 8 t a true] w fun e w' => e = .returned (.bool true) /\ Below w.heap.size w w') :
  Calls Tryz.prog 161 #[stV 8 t a true, .int .u8 (b.toNat : Int)] w fun e w' => e = .returned (St.v (St.stepV ⟨8, t, a, true⟩ b)) /\ Below w.heap.size w w' := by
 have HV := qb hv
 clear hv
 have HNB := qb (fun w => zj b w)
 have HLB := qb (fun w => ze b w)
 have HE : Hid (St.stepV ⟨8, t, a, true⟩ b = St.stepTag 8 t a true b) := by show _ = _; rw [St.stepV]; (iterate 11 rw [if_neg (by simp)]); rw [if_neg (by simp)]
 have HC0 := qb (fun w => Kv t a b w )
 generalize St.stepTag 8 t a true b = s1 at *
 generalize St.stepV ⟨8, t, a, true⟩ b = s0 at *
 go_enter Tryz.func161, Tryz.ntmps161
 go_wp2_with fail
 refine (HV.out _).mono ?_
 rintro e w1 ⟨rfl, hb⟩
 obtain ⟨hB, g0, g1, g2, hz⟩ := qB hb
 have HB := qb hB
 have H1 := qb g1
 obtain ⟨⟨y0, y1, y2, y3⟩, p0, p1, p2, p3⟩ := qh g0
 obtain ⟨⟨z0, z1, z2, z3⟩, x0, x1, x2, x3⟩ := qh g1
 obtain ⟨⟨u0, u1, u2, u3⟩, -⟩ := qh g2
 clear hb hB g0 g1 g2
 go_wp2_with (first | (go_at_call 184; refine qf (HNB.out _) ?_; rw [HN.out]) | (go_at_call 181; refine qf (HLB.out _) ?_; rw [HT.out]) | (go_at_call 86; refine (qN _ _ _ _).mono ?_; rintro e w' ⟨rfl, rfl⟩))
 refine (HC0.out _).mono ?_
 rintro e w2 ⟨rfl, hb⟩
 have hb2 : Below w1.heap.size w1 w2 := hb
 have HB2 := qb (HB.out.trans (hb2.mono HB.out.size))
 have H2 := qb (qi H1.out hb2)
 have hz2 := hb2.size
 clear hb hb2 z0 z1 z2 z3 x0 x1 x2 x3
 obtain ⟨⟨z0, z1, z2, z3⟩, x0, x1, x2, x3⟩ := qh H2.out
 obtain ⟨sm, st, sa, sz⟩ := s1
 go_wp2
 exact bodyPost_ret (qp (m := sm) (t := st) (a := sa) (z := sz) Tryz.results161 rfl (put4 H2.out)) rfl ⟨by rw [HE.out], qq HB2.out (by omega) _ _ _ _⟩
set_option maxRecDepth 100000 in
set_option maxHeartbeats 4000000 in
theorem Jl (t : Tx) (b : UInt8) (w : World) (ht : t.length <= 1000) (hv : ∀ w, Calls Tryz.prog 154 #[stV 9 t [] false] w fun e w' => e = .returned (.bool true) /\ Below w.heap.size w w') :
  Calls Tryz.prog 161 #[stV 9 t [] false, .int .u8 (b.toNat : Int)] w fun e w' => e = .returned (St.v (St.stepV ⟨9, t, [], false⟩ b)) /\ Below w.heap.size w w' := by
 have HV := qb hv
 clear hv
 have HNB := qb (fun w => zj b w)
 have HLB := qb (fun w => ze b w)
 by_cases hT : t = []
 case pos =>
  subst hT
  clear ht
  by_cases h62 : b = 62
  ·have HE : Hid (St.stepV ⟨9, [], [], false⟩ b = St.bad) := by show _ = _; rw [St.stepV]; (iterate 5 rw [if_neg (by simp)]); rw [if_pos rfl, if_pos h62, if_pos rfl]
   have hb : (b.toNat : Int) = 62 := by rw [h62]; rfl
   obtain ⟨n60, n62, n47, n33, n34, n39, n92, d60, d62, d47, d33, d34, d39, d92⟩ := VM hb false true false false false false false true false true true true true true (by decide)
   have HN : Hid (St.nameB b = false) := by show _ = _; rw [h62]; decide
   have HT : Hid (qu b = false) := by show _ = _; rw [h62]; decide
   clear hb
   clear h62
   generalize St.stepV ⟨9, [], [], false⟩ b = s0 at *
   go_enter Tryz.func161, Tryz.ntmps161
   go_wp2_with fail
   refine (HV.out _).mono ?_
   rintro e w1 ⟨rfl, hb⟩
   obtain ⟨hB, g0, g1, g2, hz⟩ := qB hb
   have HB := qb hB
   have H1 := qb g1
   obtain ⟨⟨y0, y1, y2, y3⟩, p0, p1, p2, p3⟩ := qh g0
   obtain ⟨⟨z0, z1, z2, z3⟩, x0, x1, x2, x3⟩ := qh g1
   obtain ⟨⟨u0, u1, u2, u3⟩, -⟩ := qh g2
   clear hb hB g0 g1 g2
   go_wp2_with (first | (go_at_call 184; refine qf (HNB.out _) ?_; rw [HN.out]) | (go_at_call 181; refine qf (HLB.out _) ?_; rw [HT.out]) | (go_at_call 86; refine (qN _ _ _ _).mono ?_; rintro e w' ⟨rfl, rfl⟩))
   exact bodyPost_ret (qp (m := 15) (t := []) (a := []) (z := false) Tryz.results161 rfl (put4 H1.out)) rfl ⟨by rw [HE.out]; first | done | rfl, qq HB.out (by omega) _ _ _ _⟩
  have n62 := qy h62 62 rfl
  have d62 : ((b.toNat : Int) != 62) = true := by rw [bne, n62]; rfl
  cases hq : qu b
  case true =>
   have HE : Hid (St.stepV ⟨9, [], [], false⟩ b = zh 9 [] [] b) := by show _ = _; rw [St.stepV]; (iterate 5 rw [if_neg (by simp)]); rw [if_pos rfl, if_neg h62, if_pos (by rw [hq]; rfl)]; rfl
   have HT := qb hq
   clear hq
   have HC0 := qb (fun w => jB 9 [] [] b w (by simp) (by simp))
   generalize zh 9 [] [] b = s1 at *
   generalize St.stepV ⟨9, [], [], false⟩ b = s0 at *
   go_enter Tryz.func161, Tryz.ntmps161
   go_wp2_with fail
   refine (HV.out _).mono ?_
   rintro e w1 ⟨rfl, hb⟩
   obtain ⟨hB, g0, g1, g2, hz⟩ := qB hb
   have HB := qb hB
   have H1 := qb g1
   obtain ⟨⟨y0, y1, y2, y3⟩, p0, p1, p2, p3⟩ := qh g0
   obtain ⟨⟨z0, z1, z2, z3⟩, x0, x1, x2, x3⟩ := qh g1
   obtain ⟨⟨u0, u1, u2, u3⟩, -⟩ := qh g2
   clear hb hB g0 g1 g2
   have hcv := zN (P := Tryz.prog) Tryz.underlying44 Tryz.underlying5 Tryz.underlying9 b (b.toNat : Int) rfl w1
   go_wp2_with (first | (go_at_call 184; refine qf (HNB.out _) ?_; rw [HN.out]) | (go_at_call 181; refine qf (HLB.out _) ?_; rw [HT.out]) | (go_at_call 86; refine (qN _ _ _ _).mono ?_; rintro e w' ⟨rfl, rfl⟩))
   refine (HC0.out _).mono ?_
   rintro e w2 ⟨rfl, hb⟩
   have hb2 : Below w1.heap.size w1 w2 := ((Below.refl _ _).alloc (Nat.le_refl _) _).trans (hb.mono (by simp))
   have HB2 := qb (HB.out.trans (hb2.mono HB.out.size))
   have H2 := qb (qi H1.out hb2)
   have hz2 := hb2.size
   clear hb hb2 z0 z1 z2 z3 x0 x1 x2 x3
   obtain ⟨⟨z0, z1, z2, z3⟩, x0, x1, x2, x3⟩ := qh H2.out
   obtain ⟨sm, st, sa, sz⟩ := s1
   go_wp2
   exact bodyPost_ret (qp (m := sm) (t := st) (a := sa) (z := sz) Tryz.results161 rfl (put4 H2.out)) rfl ⟨by rw [HE.out], qq HB2.out (by omega) _ _ _ _⟩
  have HT : Hid (qu b = false) := hq
  have HE : Hid (St.stepV ⟨9, [], [], false⟩ b = St.bad) := by show _ = _; rw [St.stepV]; (iterate 5 rw [if_neg (by simp)]); rw [if_pos rfl, if_neg h62, if_neg (by rw [hq]; simp)]
  generalize St.stepV ⟨9, [], [], false⟩ b = s0 at *
  go_enter Tryz.func161, Tryz.ntmps161
  go_wp2_with fail
  refine (HV.out _).mono ?_
  rintro e w1 ⟨rfl, hb⟩
  obtain ⟨hB, g0, g1, g2, hz⟩ := qB hb
  have HB := qb hB
  have H1 := qb g1
  obtain ⟨⟨y0, y1, y2, y3⟩, p0, p1, p2, p3⟩ := qh g0
  obtain ⟨⟨z0, z1, z2, z3⟩, x0, x1, x2, x3⟩ := qh g1
  obtain ⟨⟨u0, u1, u2, u3⟩, -⟩ := qh g2
  clear hb hB g0 g1 g2
  go_wp2_with (first | (go_at_call 184; refine qf (HNB.out _) ?_; rw [HN.out]) | (go_at_call 181; refine qf (HLB.out _) ?_; rw [HT.out]) | (go_at_call 86; refine (qN _ _ _ _).mono ?_; rintro e w' ⟨rfl, rfl⟩))
  exact bodyPost_ret (qp (m := 15) (t := []) (a := []) (z := false) Tryz.results161 rfl (put4 H1.out)) rfl ⟨by rw [HE.out]; first | done | rfl, qq HB.out (by omega) _ _ _ _⟩
 have hT1 : (t == []) = false := by simpa using hT
 have hT2 : List.isEmpty t = false := by simpa using hT
 have hT3 : (t != []) = true := by simpa using hT
 by_cases h62 : b = 62
 ·have HE : Hid (St.stepV ⟨9, t, [], false⟩ b = St.zero) := by show _ = _; rw [St.stepV]; (iterate 5 rw [if_neg (by simp)]); rw [if_pos rfl, if_pos h62, if_neg hT]
  have hb : (b.toNat : Int) = 62 := by rw [h62]; rfl
  obtain ⟨n60, n62, n47, n33, n34, n39, n92, d60, d62, d47, d33, d34, d39, d92⟩ := VM hb false true false false false false false true false true true true true true (by decide)
  have HN : Hid (St.nameB b = false) := by show _ = _; rw [h62]; decide
  have HT : Hid (qu b = false) := by show _ = _; rw [h62]; decide
  clear hb
  clear h62
  generalize St.stepV ⟨9, t, [], false⟩ b = s0 at *
  go_enter Tryz.func161, Tryz.ntmps161
  go_wp2_with fail
  refine (HV.out _).mono ?_
  rintro e w1 ⟨rfl, hb⟩
  obtain ⟨hB, g0, g1, g2, hz⟩ := qB hb
  have HB := qb hB
  have H1 := qb g1
  obtain ⟨⟨y0, y1, y2, y3⟩, p0, p1, p2, p3⟩ := qh g0
  obtain ⟨⟨z0, z1, z2, z3⟩, x0, x1, x2, x3⟩ := qh g1
  obtain ⟨⟨u0, u1, u2, u3⟩, -⟩ := qh g2
  clear hb hB g0 g1 g2
  go_wp2_with (first | (go_at_call 184; refine qf (HNB.out _) ?_; rw [HN.out]) | (go_at_call 181; refine qf (HLB.out _) ?_; rw [HT.out]) | (go_at_call 86; refine (qN _ _ _ _).mono ?_; rintro e w' ⟨rfl, rfl⟩))
  exact bodyPost_ret (qp (m := 0) (t := []) (a := []) (z := false) Tryz.results161 rfl (put4 H1.out)) rfl ⟨by rw [HE.out]; first | done | rfl, qq HB.out (by omega) _ _ _ _⟩
 have n62 := qy h62 62 rfl
 have d62 : ((b.toNat : Int) != 62) = true := by rw [bne, n62]; rfl
 cases hq : qu b
 case true =>
  have HE : Hid (St.stepV ⟨9, t, [], false⟩ b = zh 9 t [] b) := by show _ = _; rw [St.stepV]; (iterate 5 rw [if_neg (by simp)]); rw [if_pos rfl, if_neg h62, if_pos (by rw [hq]; rfl)]; rfl
  have HT := qb hq
  clear hq
  have HC0 := qb (fun w => jB 9 t [] b w ht (by simp))
  generalize zh 9 t [] b = s1 at *
  generalize St.stepV ⟨9, t, [], false⟩ b = s0 at *
  go_enter Tryz.func161, Tryz.ntmps161
  go_wp2_with fail
  refine (HV.out _).mono ?_
  rintro e w1 ⟨rfl, hb⟩
  obtain ⟨hB, g0, g1, g2, hz⟩ := qB hb
  have HB := qb hB
  have H1 := qb g1
  obtain ⟨⟨y0, y1, y2, y3⟩, p0, p1, p2, p3⟩ := qh g0
  obtain ⟨⟨z0, z1, z2, z3⟩, x0, x1, x2, x3⟩ := qh g1
  obtain ⟨⟨u0, u1, u2, u3⟩, -⟩ := qh g2
  clear hb hB g0 g1 g2
  have hcv := zN (P := Tryz.prog) Tryz.underlying44 Tryz.underlying5 Tryz.underlying9 b (b.toNat : Int) rfl w1
  go_wp2_with (first | (go_at_call 184; refine qf (HNB.out _) ?_; rw [HN.out]) | (go_at_call 181; refine qf (HLB.out _) ?_; rw [HT.out]) | (go_at_call 86; refine (qN _ _ _ _).mono ?_; rintro e w' ⟨rfl, rfl⟩))
  refine (HC0.out _).mono ?_
  rintro e w2 ⟨rfl, hb⟩
  have hb2 : Below w1.heap.size w1 w2 := ((Below.refl _ _).alloc (Nat.le_refl _) _).trans (hb.mono (by simp))
  have HB2 := qb (HB.out.trans (hb2.mono HB.out.size))
  have H2 := qb (qi H1.out hb2)
  have hz2 := hb2.size
  clear hb hb2 z0 z1 z2 z3 x0 x1 x2 x3
  obtain ⟨⟨z0, z1, z2, z3⟩, x0, x1, x2, x3⟩ := qh H2.out
  obtain ⟨sm, st, sa, sz⟩ := s1
  go_wp2
  exact bodyPost_ret (qp (m := sm) (t := st) (a := sa) (z := sz) Tryz.results161 rfl (put4 H2.out)) rfl ⟨by rw [HE.out], qq HB2.out (by omega) _ _ _ _⟩
 have HT : Hid (qu b = false) := hq
 cases hn : (qK b || decide ((b.toNat : Int) = 45))
 case true =>
  have HN : Hid (St.nameB b = true) := by show _ = _; unfold St.nameB; rw [hq, Bool.false_or]; exact hn
  have HE : Hid (St.stepV ⟨9, t, [], false⟩ b = zh 9 t [] b) := by show _ = _; rw [St.stepV]; (iterate 5 rw [if_neg (by simp)]); rw [if_pos rfl, if_neg h62, if_pos (by rw [hq, hn, hT1]; rfl)]; rfl
  clear hq hn
  have HC0 := qb (fun w => jB 9 t [] b w ht (by simp))
  generalize zh 9 t [] b = s1 at *
  generalize St.stepV ⟨9, t, [], false⟩ b = s0 at *
  go_enter Tryz.func161, Tryz.ntmps161
  go_wp2_with fail
  refine (HV.out _).mono ?_
  rintro e w1 ⟨rfl, hb⟩
  obtain ⟨hB, g0, g1, g2, hz⟩ := qB hb
  have HB := qb hB
  have H1 := qb g1
  obtain ⟨⟨y0, y1, y2, y3⟩, p0, p1, p2, p3⟩ := qh g0
  obtain ⟨⟨z0, z1, z2, z3⟩, x0, x1, x2, x3⟩ := qh g1
  obtain ⟨⟨u0, u1, u2, u3⟩, -⟩ := qh g2
  clear hb hB g0 g1 g2
  have hcv := zN (P := Tryz.prog) Tryz.underlying44 Tryz.underlying5 Tryz.underlying9 b (b.toNat : Int) rfl w1
  go_wp2_with (first | (go_at_call 184; refine qf (HNB.out _) ?_; rw [HN.out]) | (go_at_call 181; refine qf (HLB.out _) ?_; rw [HT.out]) | (go_at_call 86; refine (qN _ _ _ _).mono ?_; rintro e w' ⟨rfl, rfl⟩))
  refine (HC0.out _).mono ?_
  rintro e w2 ⟨rfl, hb⟩
  have hb2 : Below w1.heap.size w1 w2 := ((Below.refl _ _).alloc (Nat.le_refl _) _).trans (hb.mono (by simp))
  have HB2 := qb (HB.out.trans (hb2.mono HB.out.size))
  have H2 := qb (qi H1.out hb2)
  have hz2 := hb2.size
  clear hb hb2 z0 z1 z2 z3 x0 x1 x2 x3
  obtain ⟨⟨z0, z1, z2, z3⟩, x0, x1, x2, x3⟩ := qh H2.out
  obtain ⟨sm, st, sa, sz⟩ := s1
  go_wp2
  exact bodyPost_ret (qp (m := sm) (t := st) (a := sa) (z := sz) Tryz.results161 rfl (put4 H2.out)) rfl ⟨by rw [HE.out], qq HB2.out (by omega) _ _ _ _⟩
 have HN : Hid (St.nameB b = false) := by show _ = _; unfold St.nameB; rw [hq, Bool.false_or]; exact hn
 have HE : Hid (St.stepV ⟨9, t, [], false⟩ b = St.bad) := by show _ = _; rw [St.stepV]; (iterate 5 rw [if_neg (by simp)]); rw [if_pos rfl, if_neg h62, if_neg (by rw [hq, hn, hT1]; decide)]
 generalize St.stepV ⟨9, t, [], false⟩ b = s0 at *
 go_enter Tryz.func161, Tryz.ntmps161
 go_wp2_with fail
 refine (HV.out _).mono ?_
 rintro e w1 ⟨rfl, hb⟩
 obtain ⟨hB, g0, g1, g2, hz⟩ := qB hb
 have HB := qb hB
 have H1 := qb g1
 obtain ⟨⟨y0, y1, y2, y3⟩, p0, p1, p2, p3⟩ := qh g0
 obtain ⟨⟨z0, z1, z2, z3⟩, x0, x1, x2, x3⟩ := qh g1
 obtain ⟨⟨u0, u1, u2, u3⟩, -⟩ := qh g2
 clear hb hB g0 g1 g2
 go_wp2_with (first | (go_at_call 184; refine qf (HNB.out _) ?_; rw [HN.out]) | (go_at_call 181; refine qf (HLB.out _) ?_; rw [HT.out]) | (go_at_call 86; refine (qN _ _ _ _).mono ?_; rintro e w' ⟨rfl, rfl⟩))
 exact bodyPost_ret (qp (m := 15) (t := []) (a := []) (z := false) Tryz.results161 rfl (put4 H1.out)) rfl ⟨by rw [HE.out]; first | done | rfl, qq HB.out (by omega) _ _ _ _⟩
set_option maxRecDepth 100000 in
set_option maxHeartbeats 4000000 in
theorem Jm (s : St) (b : UInt8) (w : World) (hf : St.Fit s) :
  Calls Tryz.prog 161 #[St.v s, .int .u8 (b.toNat : Int)] w fun e w' => e = .returned (St.v (St.step s b)) /\ Below w.heap.size w w' := by
 obtain ⟨m, t, a, z⟩ := s
 obtain ⟨ht, ha⟩ := hf
 dsimp only at ht ha
 have hv := fun w => xP m t a z w (by omega) (by omega)
 cases h : St.valid ⟨m, t, a, z⟩
 ·have HS : Hid (St.step ⟨m, t, a, z⟩ b = St.bad) := by show _ = _; rw [St.step, h]; rfl
  rw [h] at hv
  have HV := qb hv
  clear hv h
  generalize St.step ⟨m, t, a, z⟩ b = s0 at *
  go_enter Tryz.func161, Tryz.ntmps161
  go_wp2_with fail
  refine (HV.out _).mono ?_
  rintro e w1 ⟨rfl, hb⟩
  obtain ⟨hB, g0, g1, g2, hz⟩ := qB hb
  have HB := qb hB
  have H1 := qb g1
  obtain ⟨⟨z0, z1, z2, z3⟩, x0, x1, x2, x3⟩ := qh g1
  obtain ⟨⟨u0, u1, u2, u3⟩, -⟩ := qh g2
  clear hb hB g0 g1 g2
  go_wp2
  exact bodyPost_ret (qp (m := 15) (t := []) (a := []) (z := false) Tryz.results161 rfl (put4 H1.out)) rfl ⟨by rw [HS.out]; rfl, qq HB.out (by omega) _ _ _ _⟩
 rw [h] at hv
 have HS : St.step ⟨m, t, a, z⟩ b = St.stepV ⟨m, t, a, z⟩ b := by rw [St.step, h]; rfl
 rw [HS]
 obtain ⟨hm, c⟩ := yf h
 rcases c with ⟨rfl | rfl | rfl | rfl | rfl | rfl | rfl | rfl, rfl, rfl, rfl⟩ | ⟨rfl | rfl, rfl, rfl⟩ | ⟨rfl | rfl, rfl⟩ | rfl | rfl | ⟨rfl, rfl⟩ | ⟨rfl, rfl, rfl⟩
 ·exact Ja b w hv
 ·exact Jd b w hv
 ·exact Jb b w hv
 ·exact QW b w hv
 ·exact QX b w hv
 ·exact QY b w hv
 ·exact QZ b w hv
 ·exact Jc b w hv
 ·exact Jg t b w (by omega) hv
 ·exact Jh t b w (by omega) hv
 ·exact Ji t a b w (by omega) (by omega) hv
 ·exact Jj t a b w hv
 ·exact Je t a z b w hv
 ·exact Jf t a z b w hv
 ·exact Jk t a b w hv
 ·exact Jl t b w (by omega) hv
end Go.Proofs.YtmboieajfdkllaaGreat
