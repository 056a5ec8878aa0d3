import Derived.Test.YtmboieajfdkllaaGreatQ10
namespace Go.Proofs.YtmboieajfdkllaaGreat
open Go.RowKit Go.Deep
set_option maxRecDepth 100000 in
set_option maxHeartbeats 4000000 in
theorem Ks (t : Tx) (b : UInt8) (w : World) (ht : t.length <= 1000) :
  Calls Tryz.prog 185 #[stV 2 t [] false, .int .u8 (b.toNat : Int)] w fun e w' => e = .returned (St.v (St.stepTag 2 t [] false b)) /\ Below w.heap.size w w' := by
 have HNB := qb (fun w => zj b w)
 have HLB := qb (fun w => ze b w)
 have hcv := zN (P := Tryz.prog) Tryz.underlying44 Tryz.underlying5 Tryz.underlying9 b (b.toNat : Int) rfl ((w.alloc (.cells (ql 2 t [] false) 90)).alloc (.cells qH 90))
 simp only [World.size_alloc] at hcv
 by_cases h62 : b = 62
 ·have HE : Hid (St.stepTag 2 t [] false b = if t == St.script then ⟨11, [], [], false⟩ else St.zero) := by show _ = _; rw [St.stepTag, if_pos h62]
  have hb : (b.toNat : Int) = 62 := by rw [h62]; rfl
  obtain ⟨n62, n32, n61, n34, n39, n95, n46, n47, n58⟩ := VL hb true false false false false false false false false (by decide)
  have HN : Hid (St.nameB b = false) := by show _ = _; rw [h62]; decide
  have HT : Hid (qu b = false) := by show _ = _; rw [h62]; decide
  clear hb
  clear h62
  generalize hst : St.stepTag 2 t [] false b = s0 at *
  clear hst
  have HC0 := qb (fun w => xN t w)
  generalize (if t == St.script then (⟨11, [], [], false⟩ : St) else St.zero) = s1 at *
  go_enter Tryz.func185, Tryz.ntmps185
  have HC := qb (fun w => HC0.out w)
  generalize s1 = s at *
  go_wp2_with (first | (go_at_call 184; refine qf (HNB.out _) ?_; rw [HN.out]) | (go_at_call 181; refine qf (HLB.out _) ?_; rw [HT.out]))
  refine (HC.out _).mono ?_
  rintro e w1 ⟨rfl, hb⟩
  obtain ⟨hB, g0, g1, hz⟩ := zq hb
  obtain ⟨⟨y0, y1, y2, y3⟩, x0, x1, x2, x3⟩ := qh g1
  obtain ⟨sm, st, sa, sz⟩ := s
  clear hb
  go_wp2
  exact bodyPost_ret (qp (m := sm) (t := st) (a := sa) (z := sz) Tryz.results185 rfl (put4 g1)) rfl ⟨by rw [HE.out], qq hB (by omega) _ _ _ _⟩
 by_cases h32 : b = 32
 ·have HE : Hid (St.stepTag 2 t [] false b = ⟨3, t, [], false⟩) := by show _ = _; rw [St.stepTag, if_neg h62, if_pos h32]
  have hb : (b.toNat : Int) = 32 := by rw [h32]; rfl
  obtain ⟨n62, n32, n61, n34, n39, n95, n46, n47, n58⟩ := VL hb false true false false false false false false false (by decide)
  have HN : Hid (St.nameB b = false) := by show _ = _; rw [h32]; decide
  have HT : Hid (qu b = false) := by show _ = _; rw [h32]; decide
  clear hb
  clear h32 h62
  generalize St.stepTag 2 t [] false b = s0 at *
  go_enter Tryz.func185, Tryz.ntmps185
  go_wp2_with (first | (go_at_call 184; refine qf (HNB.out _) ?_; rw [HN.out]) | (go_at_call 181; refine qf (HLB.out _) ?_; rw [HT.out]))
  obtain ⟨g1, g2, g3⟩ := qE w (ql 2 t [] false) (ql 3 t [] false) 90 90
  exact bodyPost_ret (qp (m := 3) (t := t) (a := []) (z := false) Tryz.results185 rfl g3) rfl ⟨by rw [HE.out]; first | done | rfl, g1⟩
 have n62 := qy h62 62 rfl
 have n32 := qy h32 32 rfl
 cases hq : St.nameB b
 case true =>
  have HE : Hid (St.stepTag 2 t [] false b = zh 2 t [] b) := by show _ = _; rw [St.stepTag, if_neg h62, if_neg h32, if_pos rfl, if_pos hq]; first | done | (unfold zh; rw [if_neg (by decide)]; done) | (unfold zh; rw [if_pos rfl]; done)
  have HN := qb hq
  clear hq h62 h32
  have HC0 := qb (fun w => jB 2 t [] b w ht (by simp))
  generalize St.stepTag 2 t [] false b = s0 at *
  generalize zh 2 t [] b = s1 at *
  go_enter Tryz.func185, Tryz.ntmps185
  have HC := qb (fun w => HC0.out w)
  generalize s1 = s at *
  go_wp2_with (first | (go_at_call 184; refine qf (HNB.out _) ?_; rw [HN.out]) | (go_at_call 181; refine qf (HLB.out _) ?_; rw [HT.out]))
  refine (HC.out _).mono ?_
  rintro e w1 ⟨rfl, hb⟩
  obtain ⟨hB, g0, g1, hz⟩ := kM hb
  obtain ⟨⟨y0, y1, y2, y3⟩, x0, x1, x2, x3⟩ := qh g1
  obtain ⟨sm, st, sa, sz⟩ := s
  clear hb
  go_wp2
  exact bodyPost_ret (qp (m := sm) (t := st) (a := sa) (z := sz) Tryz.results185 rfl (put4 g1)) rfl ⟨by rw [HE.out], qq hB (by omega) _ _ _ _⟩
 have HE : Hid (St.stepTag 2 t [] false b = St.bad) := by show _ = _; rw [St.stepTag, if_neg h62, if_neg h32, if_pos rfl, if_neg (by rw [hq]; decide)]
 have HN := qb hq
 clear hq h62 h32
 generalize St.stepTag 2 t [] false b = s0 at *
 go_enter Tryz.func185, Tryz.ntmps185
 go_wp2_with (first | (go_at_call 184; refine qf (HNB.out _) ?_; rw [HN.out]) | (go_at_call 181; refine qf (HLB.out _) ?_; rw [HT.out]))
 obtain ⟨g1, g2, g3⟩ := qE w (ql 2 t [] false) (ql 15 [] [] false) 90 90
 exact bodyPost_ret (qp (m := 15) (t := []) (a := []) (z := false) Tryz.results185 rfl g3) rfl ⟨by rw [HE.out]; first | done | rfl, g1⟩
set_option maxRecDepth 100000 in
set_option maxHeartbeats 4000000 in
theorem Kt (t : Tx) (b : UInt8) (w : World) (ht : t.length <= 1000) :
  Calls Tryz.prog 185 #[stV 3 t [] false, .int .u8 (b.toNat : Int)] w fun e w' => e = .returned (St.v (St.stepTag 3 t [] false b)) /\ Below w.heap.size w w' := by
 have HNB := qb (fun w => zj b w)
 have HLB := qb (fun w => ze b w)
 have hcv := zN (P := Tryz.prog) Tryz.underlying44 Tryz.underlying5 Tryz.underlying9 b (b.toNat : Int) rfl ((w.alloc (.cells (ql 3 t [] false) 90)).alloc (.cells qH 90))
 simp only [World.size_alloc] at hcv
 by_cases h62 : b = 62
 ·have HE : Hid (St.stepTag 3 t [] false b = if t == St.script then ⟨11, [], [], false⟩ else St.zero) := by show _ = _; rw [St.stepTag, if_pos h62]
  have hb : (b.toNat : Int) = 62 := by rw [h62]; rfl
  obtain ⟨n62, n32, n61, n34, n39, n95, n46, n47, n58⟩ := VL hb true false false false false false false false false (by decide)
  have HN : Hid (St.nameB b = false) := by show _ = _; rw [h62]; decide
  have HT : Hid (qu b = false) := by show _ = _; rw [h62]; decide
  clear hb
  clear h62
  generalize hst : St.stepTag 3 t [] false b = s0 at *
  clear hst
  have HC0 := qb (fun w => xN t w)
  generalize (if t == St.script then (⟨11, [], [], false⟩ : St) else St.zero) = s1 at *
  go_enter Tryz.func185, Tryz.ntmps185
  have HC := qb (fun w => HC0.out w)
  generalize s1 = s at *
  go_wp2_with (first | (go_at_call 184; refine qf (HNB.out _) ?_; rw [HN.out]) | (go_at_call 181; refine qf (HLB.out _) ?_; rw [HT.out]))
  refine (HC.out _).mono ?_
  rintro e w1 ⟨rfl, hb⟩
  obtain ⟨hB, g0, g1, hz⟩ := zq hb
  obtain ⟨⟨y0, y1, y2, y3⟩, x0, x1, x2, x3⟩ := qh g1
  obtain ⟨sm, st, sa, sz⟩ := s
  clear hb
  go_wp2
  exact bodyPost_ret (qp (m := sm) (t := st) (a := sa) (z := sz) Tryz.results185 rfl (put4 g1)) rfl ⟨by rw [HE.out], qq hB (by omega) _ _ _ _⟩
 by_cases h32 : b = 32
 ·have HE : Hid (St.stepTag 3 t [] false b = ⟨3, t, [], false⟩) := by show _ = _; rw [St.stepTag, if_neg h62, if_pos h32]
  have hb : (b.toNat : Int) = 32 := by rw [h32]; rfl
  obtain ⟨n62, n32, n61, n34, n39, n95, n46, n47, n58⟩ := VL hb false true false false false false false false false (by decide)
  have HN : Hid (St.nameB b = false) := by show _ = _; rw [h32]; decide
  have HT : Hid (qu b = false) := by show _ = _; rw [h32]; decide
  clear hb
  clear h32 h62
  generalize St.stepTag 3 t [] false b = s0 at *
  go_enter Tryz.func185, Tryz.ntmps185
  go_wp2_with (first | (go_at_call 184; refine qf (HNB.out _) ?_; rw [HN.out]) | (go_at_call 181; refine qf (HLB.out _) ?_; rw [HT.out]))
  obtain ⟨g1, g2, g3⟩ := qE w (ql 3 t [] false) (ql 3 t [] false) 90 90
  exact bodyPost_ret (qp (m := 3) (t := t) (a := []) (z := false) Tryz.results185 rfl g3) rfl ⟨by rw [HE.out]; first | done | rfl, g1⟩
 have n62 := qy h62 62 rfl
 have n32 := qy h32 32 rfl
 cases hq : qu b
 case true =>
  have HE : Hid (St.stepTag 3 t [] false b = zh 4 t [] b) := by show _ = _; rw [St.stepTag, if_neg h62, if_neg h32, if_neg (by decide), if_pos rfl, if_pos hq]; first | done | (unfold zh; rw [if_neg (by decide)]; done) | (unfold zh; rw [if_pos rfl]; done)
  have HT := qb hq
  clear hq h62 h32
  have HC0 := qb (fun w => jB 4 t [] b w ht (by simp))
  generalize St.stepTag 3 t [] false b = s0 at *
  generalize zh 4 t [] b = s1 at *
  go_enter Tryz.func185, Tryz.ntmps185
  have HC := qb (fun w => HC0.out w)
  generalize s1 = s at *
  go_wp2_with (first | (go_at_call 184; refine qf (HNB.out _) ?_; rw [HN.out]) | (go_at_call 181; refine qf (HLB.out _) ?_; rw [HT.out]))
  refine (HC.out _).mono ?_
  rintro e w1 ⟨rfl, hb⟩
  obtain ⟨hB, g0, g1, hz⟩ := kM hb
  obtain ⟨⟨y0, y1, y2, y3⟩, x0, x1, x2, x3⟩ := qh g1
  obtain ⟨sm, st, sa, sz⟩ := s
  clear hb
  go_wp2
  exact bodyPost_ret (qp (m := sm) (t := st) (a := sa) (z := sz) Tryz.results185 rfl (put4 g1)) rfl ⟨by rw [HE.out], qq hB (by omega) _ _ _ _⟩
 have HE : Hid (St.stepTag 3 t [] false b = St.bad) := by show _ = _; rw [St.stepTag, if_neg h62, if_neg h32, if_neg (by decide), if_pos rfl, if_neg (by rw [hq]; decide)]
 have HT := qb hq
 clear hq h62 h32
 generalize St.stepTag 3 t [] false b = s0 at *
 go_enter Tryz.func185, Tryz.ntmps185
 go_wp2_with (first | (go_at_call 184; refine qf (HNB.out _) ?_; rw [HN.out]) | (go_at_call 181; refine qf (HLB.out _) ?_; rw [HT.out]))
 obtain ⟨g1, g2, g3⟩ := qE w (ql 3 t [] false) (ql 15 [] [] false) 90 90
 exact bodyPost_ret (qp (m := 15) (t := []) (a := []) (z := false) Tryz.results185 rfl g3) rfl ⟨by rw [HE.out]; first | done | rfl, g1⟩
set_option maxRecDepth 100000 in
set_option maxHeartbeats 4000000 in
theorem Ku (t : Tx) (a : Tx) (b : UInt8) (w : World) (ht : t.length <= 1000) (ha : a.length <= 1000) :
  Calls Tryz.prog 185 #[stV 4 t a false, .int .u8 (b.toNat : Int)] w fun e w' => e = .returned (St.v (St.stepTag 4 t a false b)) /\ Below w.heap.size w w' := by
 have HNB := qb (fun w => zj b w)
 have HLB := qb (fun w => ze b w)
 have hcv := zN (P := Tryz.prog) Tryz.underlying44 Tryz.underlying5 Tryz.underlying9 b (b.toNat : Int) rfl ((w.alloc (.cells (ql 4 t a false) 90)).alloc (.cells qH 90))
 simp only [World.size_alloc] at hcv
 by_cases h62 : b = 62
 ·have HE : Hid (St.stepTag 4 t a false b = if t == St.script then ⟨11, [], [], false⟩ else St.zero) := by show _ = _; rw [St.stepTag, if_pos h62]
  have hb : (b.toNat : Int) = 62 := by rw [h62]; rfl
  obtain ⟨n62, n32, n61, n34, n39, n95, n46, n47, n58⟩ := VL hb true false false false false false false false false (by decide)
  have HN : Hid (St.nameB b = false) := by show _ = _; rw [h62]; decide
  have HT : Hid (qu b = false) := by show _ = _; rw [h62]; decide
  clear hb
  clear h62
  generalize hst : St.stepTag 4 t a false b = s0 at *
  clear hst
  have HC0 := qb (fun w => xN t w)
  generalize (if t == St.script then (⟨11, [], [], false⟩ : St) else St.zero) = s1 at *
  go_enter Tryz.func185, Tryz.ntmps185
  have HC := qb (fun w => HC0.out w)
  generalize s1 = s at *
  go_wp2_with (first | (go_at_call 184; refine qf (HNB.out _) ?_; rw [HN.out]) | (go_at_call 181; refine qf (HLB.out _) ?_; rw [HT.out]))
  refine (HC.out _).mono ?_
  rintro e w1 ⟨rfl, hb⟩
  obtain ⟨hB, g0, g1, hz⟩ := zq hb
  obtain ⟨⟨y0, y1, y2, y3⟩, x0, x1, x2, x3⟩ := qh g1
  obtain ⟨sm, st, sa, sz⟩ := s
  clear hb
  go_wp2
  exact bodyPost_ret (qp (m := sm) (t := st) (a := sa) (z := sz) Tryz.results185 rfl (put4 g1)) rfl ⟨by rw [HE.out], qq hB (by omega) _ _ _ _⟩
 by_cases h32 : b = 32
 ·have HE : Hid (St.stepTag 4 t a false b = ⟨3, t, [], false⟩) := by show _ = _; rw [St.stepTag, if_neg h62, if_pos h32]
  have hb : (b.toNat : Int) = 32 := by rw [h32]; rfl
  obtain ⟨n62, n32, n61, n34, n39, n95, n46, n47, n58⟩ := VL hb false true false false false false false false false (by decide)
  have HN : Hid (St.nameB b = false) := by show _ = _; rw [h32]; decide
  have HT : Hid (qu b = false) := by show _ = _; rw [h32]; decide
  clear hb
  clear h32 h62
  generalize St.stepTag 4 t a false b = s0 at *
  go_enter Tryz.func185, Tryz.ntmps185
  go_wp2_with (first | (go_at_call 184; refine qf (HNB.out _) ?_; rw [HN.out]) | (go_at_call 181; refine qf (HLB.out _) ?_; rw [HT.out]))
  obtain ⟨g1, g2, g3⟩ := qE w (ql 4 t a false) (ql 3 t [] false) 90 90
  exact bodyPost_ret (qp (m := 3) (t := t) (a := []) (z := false) Tryz.results185 rfl g3) rfl ⟨by rw [HE.out]; first | done | rfl, g1⟩
 have n62 := qy h62 62 rfl
 have n32 := qy h32 32 rfl
 cases hq : St.nameB b
 case true =>
  have HE : Hid (St.stepTag 4 t a false b = zh 4 t a b) := by show _ = _; rw [St.stepTag, if_neg h62, if_neg h32, if_neg (by decide), if_neg (by decide), if_pos rfl, if_pos hq]; first | done | (unfold zh; rw [if_neg (by decide)]; done) | (unfold zh; rw [if_pos rfl]; done)
  have HN := qb hq
  clear hq h62 h32
  have HC0 := qb (fun w => jB 4 t a b w ht ha)
  generalize St.stepTag 4 t a false b = s0 at *
  generalize zh 4 t a b = s1 at *
  go_enter Tryz.func185, Tryz.ntmps185
  have HC := qb (fun w => HC0.out w)
  generalize s1 = s at *
  go_wp2_with (first | (go_at_call 184; refine qf (HNB.out _) ?_; rw [HN.out]) | (go_at_call 181; refine qf (HLB.out _) ?_; rw [HT.out]))
  refine (HC.out _).mono ?_
  rintro e w1 ⟨rfl, hb⟩
  obtain ⟨hB, g0, g1, hz⟩ := kM hb
  obtain ⟨⟨y0, y1, y2, y3⟩, x0, x1, x2, x3⟩ := qh g1
  obtain ⟨sm, st, sa, sz⟩ := s
  clear hb
  go_wp2
  exact bodyPost_ret (qp (m := sm) (t := st) (a := sa) (z := sz) Tryz.results185 rfl (put4 g1)) rfl ⟨by rw [HE.out], qq hB (by omega) _ _ _ _⟩
 by_cases h61 : b = 61
 ·have HE : Hid (St.stepTag 4 t a false b = ⟨5, t, a, false⟩) := by show _ = _; rw [St.stepTag, if_neg h62, if_neg h32, if_neg (by decide), if_neg (by decide), if_pos rfl, if_neg (by rw [hq]; decide), if_pos h61]
  clear hq
  clear n62 n32
  have hb : (b.toNat : Int) = 61 := by rw [h61]; rfl
  obtain ⟨n62, n32, n61, n34, n39, n95, n46, n47, n58⟩ := VL hb false false true false false false false false false (by decide)
  have HN : Hid (St.nameB b = false) := by show _ = _; rw [h61]; decide
  have HT : Hid (qu b = false) := by show _ = _; rw [h61]; decide
  clear hb
  clear h61 h62 h32
  generalize St.stepTag 4 t a false b = s0 at *
  go_enter Tryz.func185, Tryz.ntmps185
  go_wp2_with (first | (go_at_call 184; refine qf (HNB.out _) ?_; rw [HN.out]) | (go_at_call 181; refine qf (HLB.out _) ?_; rw [HT.out]))
  obtain ⟨g1, g2, g3⟩ := qE w (ql 4 t a false) (ql 5 t a false) 90 90
  exact bodyPost_ret (qp (m := 5) (t := t) (a := a) (z := false) Tryz.results185 rfl g3) rfl ⟨by rw [HE.out]; first | done | rfl, g1⟩
 have n61 := qy h61 61 rfl
 have HE : Hid (St.stepTag 4 t a false b = St.bad) := by show _ = _; rw [St.stepTag, if_neg h62, if_neg h32, if_neg (by decide), if_neg (by decide), if_pos rfl, if_neg (by rw [hq]; decide), if_neg h61]
 clear h61
 have HN := qb hq
 clear hq h62 h32
 generalize St.stepTag 4 t a false b = s0 at *
 go_enter Tryz.func185, Tryz.ntmps185
 go_wp2_with (first | (go_at_call 184; refine qf (HNB.out _) ?_; rw [HN.out]) | (go_at_call 181; refine qf (HLB.out _) ?_; rw [HT.out]))
 obtain ⟨g1, g2, g3⟩ := qE w (ql 4 t a false) (ql 15 [] [] false) 90 90
 exact bodyPost_ret (qp (m := 15) (t := []) (a := []) (z := false) Tryz.results185 rfl g3) rfl ⟨by rw [HE.out]; first | done | rfl, g1⟩
set_option maxRecDepth 100000 in
set_option maxHeartbeats 4000000 in
theorem Kv (t : Tx) (a : Tx) (b : UInt8) (w : World)  :
  Calls Tryz.prog 185 #[stV 8 t a true, .int .u8 (b.toNat : Int)] w fun e w' => e = .returned (St.v (St.stepTag 8 t a true b)) /\ Below w.heap.size w w' := by
 have HNB := qb (fun w => zj b w)
 have HLB := qb (fun w => ze b w)
 have hcv := zN (P := Tryz.prog) Tryz.underlying44 Tryz.underlying5 Tryz.underlying9 b (b.toNat : Int) rfl ((w.alloc (.cells (ql 8 t a true) 90)).alloc (.cells qH 90))
 simp only [World.size_alloc] at hcv
 by_cases h62 : b = 62
 ·have HE : Hid (St.stepTag 8 t a true b = if t == St.script then ⟨11, [], [], false⟩ else St.zero) := by show _ = _; rw [St.stepTag, if_pos h62]
  have hb : (b.toNat : Int) = 62 := by rw [h62]; rfl
  obtain ⟨n62, n32, n61, n34, n39, n95, n46, n47, n58⟩ := VL hb true false false false false false false false false (by decide)
  have HN : Hid (St.nameB b = false) := by show _ = _; rw [h62]; decide
  have HT : Hid (qu b = false) := by show _ = _; rw [h62]; decide
  clear hb
  clear h62
  generalize hst : St.stepTag 8 t a true b = s0 at *
  clear hst
  have HC0 := qb (fun w => xN t w)
  generalize (if t == St.script then (⟨11, [], [], false⟩ : St) else St.zero) = s1 at *
  go_enter Tryz.func185, Tryz.ntmps185
  have HC := qb (fun w => HC0.out w)
  generalize s1 = s at *
  go_wp2_with (first | (go_at_call 184; refine qf (HNB.out _) ?_; rw [HN.out]) | (go_at_call 181; refine qf (HLB.out _) ?_; rw [HT.out]))
  refine (HC.out _).mono ?_
  rintro e w1 ⟨rfl, hb⟩
  obtain ⟨hB, g0, g1, hz⟩ := zq hb
  obtain ⟨⟨y0, y1, y2, y3⟩, x0, x1, x2, x3⟩ := qh g1
  obtain ⟨sm, st, sa, sz⟩ := s
  clear hb
  go_wp2
  exact bodyPost_ret (qp (m := sm) (t := st) (a := sa) (z := sz) Tryz.results185 rfl (put4 g1)) rfl ⟨by rw [HE.out], qq hB (by omega) _ _ _ _⟩
 by_cases h32 : b = 32
 ·have HE : Hid (St.stepTag 8 t a true b = ⟨3, t, [], false⟩) := by show _ = _; rw [St.stepTag, if_neg h62, if_pos h32]
  have hb : (b.toNat : Int) = 32 := by rw [h32]; rfl
  obtain ⟨n62, n32, n61, n34, n39, n95, n46, n47, n58⟩ := VL hb false true false false false false false false false (by decide)
  have HN : Hid (St.nameB b = false) := by show _ = _; rw [h32]; decide
  have HT : Hid (qu b = false) := by show _ = _; rw [h32]; decide
  clear hb
  clear h32 h62
  generalize St.stepTag 8 t a true b = s0 at *
  go_enter Tryz.func185, Tryz.ntmps185
  go_wp2_with (first | (go_at_call 184; refine qf (HNB.out _) ?_; rw [HN.out]) | (go_at_call 181; refine qf (HLB.out _) ?_; rw [HT.out]))
  obtain ⟨g1, g2, g3⟩ := qE w (ql 8 t a true) (ql 3 t [] false) 90 90
  exact bodyPost_ret (qp (m := 3) (t := t) (a := []) (z := false) Tryz.results185 rfl g3) rfl ⟨by rw [HE.out]; first | done | rfl, g1⟩
 have n62 := qy h62 62 rfl
 have n32 := qy h32 32 rfl
 have HBB := qb (yI b)
 have HE0 : Hid (St.stepTag 8 t a true b = if St.bareB b then ⟨8, t, a, true⟩ else St.bad) := by show _ = _; rw [St.stepTag, if_neg h62, if_neg h32, if_neg (by decide), if_neg (by decide), if_neg (by decide)]
 clear h62
 clear h32
 generalize St.stepTag 8 t a true b = s0 at *
 obtain ⟨g1, g2, g3⟩ := qE w (ql 8 t a true) qH 90 90
 have HG3 := qb g3
 have HG1 := qb g1
 have hz : w.heap.size < ((w.alloc (.cells (ql 8 t a true) 90)).alloc (.cells qH 90)).heap.size := by simp; omega
 obtain ⟨⟨y0, y1, y2, y3⟩, -⟩ := qh g2
 obtain ⟨⟨z0, z1, z2, z3⟩, x0, x1, x2, x3⟩ := qh g3
 clear g1 g2 g3
 go_enter Tryz.func185, Tryz.ntmps185
 go_upto_region 17 with fail
 generalize (w.alloc (.cells (ql 8 t a true) 90)).alloc (.cells qH 90) = wb at *
 go_cut [110] (fun v wx => v = .bool (St.bareB b) /\ wb = wx)
 case first =>
  cases hq : St.nameB b
  case true =>
   have HR : Hid (St.bareB b = true) := by show _ = _; rw [HBB.out, hq]; rfl
   have HN := qb hq
   clear hq
   go_wp2_with (first | (go_at_call 184; refine qf (HNB.out _) ?_; rw [HN.out]) | (go_at_call 181; refine qf (HLB.out _) ?_; rw [HT.out]))
   go_meet
   case rel => exact ⟨by rw [HR.out], rfl⟩
  have HN := qb hq
  rw [hq] at HBB
  clear hq
  by_cases h95 : b = 95
  ·have n95 : ((b.toNat : Int) == 95) = true := by rw [h95]; rfl
   have HR : Hid (St.bareB b = true) := by show _ = _; rw [HBB.out, h95]; decide
   clear h95
   go_wp2_with (first | (go_at_call 184; refine qf (HNB.out _) ?_; rw [HN.out]) | (go_at_call 181; refine qf (HLB.out _) ?_; rw [HT.out]))
   go_meet
   case rel => exact ⟨by rw [HR.out], rfl⟩
  have n95 := qy h95 95 rfl
  by_cases h46 : b = 46
  ·have n46 : ((b.toNat : Int) == 46) = true := by rw [h46]; rfl
   have HR : Hid (St.bareB b = true) := by show _ = _; rw [HBB.out, h46]; decide
   clear h46
   go_wp2_with (first | (go_at_call 184; refine qf (HNB.out _) ?_; rw [HN.out]) | (go_at_call 181; refine qf (HLB.out _) ?_; rw [HT.out]))
   go_meet
   case rel => exact ⟨by rw [HR.out], rfl⟩
  have n46 := qy h46 46 rfl
  by_cases h47 : b = 47
  ·have n47 : ((b.toNat : Int) == 47) = true := by rw [h47]; rfl
   have HR : Hid (St.bareB b = true) := by show _ = _; rw [HBB.out, h47]; decide
   clear h47
   go_wp2_with (first | (go_at_call 184; refine qf (HNB.out _) ?_; rw [HN.out]) | (go_at_call 181; refine qf (HLB.out _) ?_; rw [HT.out]))
   go_meet
   case rel => exact ⟨by rw [HR.out], rfl⟩
  have n47 := qy h47 47 rfl
  by_cases h58 : b = 58
  ·have n58 : ((b.toNat : Int) == 58) = true := by rw [h58]; rfl
   have HR : Hid (St.bareB b = true) := by show _ = _; rw [HBB.out, h58]; decide
   clear h58
   go_wp2_with (first | (go_at_call 184; refine qf (HNB.out _) ?_; rw [HN.out]) | (go_at_call 181; refine qf (HLB.out _) ?_; rw [HT.out]))
   go_meet
   case rel => exact ⟨by rw [HR.out], rfl⟩
  have n58 := qy h58 58 rfl
  have HR : Hid (St.bareB b = false) := by show _ = _; rw [HBB.out]; simp [h95, h46, h47, h58]
  clear h95 h46 h47 h58
  go_wp2_with (first | (go_at_call 184; refine qf (HNB.out _) ?_; rw [HN.out]) | (go_at_call 181; refine qf (HLB.out _) ?_; rw [HT.out]))
  go_meet
  case rel => exact ⟨by rw [HR.out], rfl⟩
 case rest =>
 obtain ⟨rfl, rfl⟩ := hcut
 clear HBB
 cases hq : St.bareB b
 case true =>
  have HE : Hid (s0 = ⟨8, t, a, true⟩) := by show _ = _; rw [HE0.out, hq]; rfl
  clear hq HE0
  go_wp2
  exact bodyPost_ret (qp (m := 8) (t := t) (a := a) (z := true) Tryz.results185 rfl (put4 HG3.out)) rfl ⟨by rw [HE.out], qq HG1.out (by omega) _ _ _ _⟩
 have HE : Hid (s0 = St.bad) := by show _ = _; rw [HE0.out, hq]; rfl
 clear hq HE0
 go_wp2
 exact bodyPost_ret (qp (m := 15) (t := []) (a := []) (z := false) Tryz.results185 rfl (put4 HG3.out)) rfl ⟨by rw [HE.out]; rfl, qq HG1.out (by omega) _ _ _ _⟩
set_option maxRecDepth 100000 in
set_option maxHeartbeats 4000000 in
theorem Kw (t : Tx) (a : Tx) (b : UInt8) (w : World)  :
  Calls Tryz.prog 185 #[stV 5 t a false, .int .u8 (b.toNat : Int)] w fun e w' => e = .returned (St.v (St.stepV ⟨5, t, a, false⟩ b)) /\ Below w.heap.size w w' := by
 have HNB := qb (fun w => zj b w)
 have HLB := qb (fun w => ze b w)
 have hcv := zN (P := Tryz.prog) Tryz.underlying44 Tryz.underlying5 Tryz.underlying9 b (b.toNat : Int) rfl ((w.alloc (.cells (ql 5 t a false) 90)).alloc (.cells qH 90))
 simp only [World.size_alloc] at hcv
 by_cases h34 : b = 34
 ·have HE : Hid (St.stepV ⟨5, t, a, false⟩ b = ⟨6, t, a, false⟩) := by show _ = _; rw [St.stepV, if_neg (by simp), if_neg (by simp), if_pos rfl, if_pos h34]
  have hb : (b.toNat : Int) = 34 := by rw [h34]; rfl
  obtain ⟨n62, n32, n61, n34, n39, n95, n46, n47, n58⟩ := VL hb false false false true false false false false false (by decide)
  have HN : Hid (St.nameB b = false) := by show _ = _; rw [h34]; decide
  have HT : Hid (qu b = false) := by show _ = _; rw [h34]; decide
  clear hb
  clear h34
  generalize St.stepV ⟨5, t, a, false⟩ b = s0 at *
  go_enter Tryz.func185, Tryz.ntmps185
  go_wp2_with (first | (go_at_call 184; refine qf (HNB.out _) ?_; rw [HN.out]) | (go_at_call 181; refine qf (HLB.out _) ?_; rw [HT.out]))
  obtain ⟨g1, g2, g3⟩ := qE w (ql 5 t a false) (ql 6 t a false) 90 90
  exact bodyPost_ret (qp (m := 6) (t := t) (a := a) (z := false) Tryz.results185 rfl g3) rfl ⟨by rw [HE.out]; first | done | rfl, g1⟩
 have n34 := qy h34 34 rfl
 by_cases h39 : b = 39
 ·have HE : Hid (St.stepV ⟨5, t, a, false⟩ b = ⟨7, t, a, false⟩) := by show _ = _; rw [St.stepV, if_neg (by simp), if_neg (by simp), if_pos rfl, if_neg h34, if_pos h39]
  have hb : (b.toNat : Int) = 39 := by rw [h39]; rfl
  obtain ⟨n62, n32, n61, n34, n39, n95, n46, n47, n58⟩ := VL hb false false false false true false false false false (by decide)
  have HN : Hid (St.nameB b = false) := by show _ = _; rw [h39]; decide
  have HT : Hid (qu b = false) := by show _ = _; rw [h39]; decide
  clear hb
  clear h39
  generalize St.stepV ⟨5, t, a, false⟩ b = s0 at *
  go_enter Tryz.func185, Tryz.ntmps185
  go_wp2_with (first | (go_at_call 184; refine qf (HNB.out _) ?_; rw [HN.out]) | (go_at_call 181; refine qf (HLB.out _) ?_; rw [HT.out]))
  obtain ⟨g1, g2, g3⟩ := qE w (ql 5 t a false) (ql 7 t a false) 90 90
  exact bodyPost_ret (qp (m := 7) (t := t) (a := a) (z := false) Tryz.results185 rfl g3) rfl ⟨by rw [HE.out]; first | done | rfl, g1⟩
 have n39 := qy h39 39 rfl
 by_cases h62 : b = 62
 ·have HE : Hid (St.stepV ⟨5, t, a, false⟩ b = St.bad) := by show _ = _; rw [St.stepV, if_neg (by simp), if_neg (by simp), if_pos rfl, if_neg h34, if_neg h39, if_neg (by rw [h62]; decide)]
  clear n34 n39
  have hb : (b.toNat : Int) = 62 := by rw [h62]; rfl
  obtain ⟨n62, n32, n61, n34, n39, n95, n46, n47, n58⟩ := VL hb true false false false false false false false false (by decide)
  have HN : Hid (St.nameB b = false) := by show _ = _; rw [h62]; decide
  have HT : Hid (qu b = false) := by show _ = _; rw [h62]; decide
  clear hb
  clear h62
  generalize St.stepV ⟨5, t, a, false⟩ b = s0 at *
  go_enter Tryz.func185, Tryz.ntmps185
  go_wp2_with (first | (go_at_call 184; refine qf (HNB.out _) ?_; rw [HN.out]) | (go_at_call 181; refine qf (HLB.out _) ?_; rw [HT.out]))
  obtain ⟨g1, g2, g3⟩ := qE w (ql 5 t a false) (ql 15 [] [] false) 90 90
  exact bodyPost_ret (qp (m := 15) (t := []) (a := []) (z := false) Tryz.results185 rfl g3) rfl ⟨by rw [HE.out]; first | done | rfl, g1⟩
 have n62 := qy h62 62 rfl
 by_cases h32 : b = 32
 ·have HE : Hid (St.stepV ⟨5, t, a, false⟩ b = St.bad) := by show _ = _; rw [St.stepV, if_neg (by simp), if_neg (by simp), if_pos rfl, if_neg h34, if_neg h39, if_neg (by rw [h32]; decide)]
  clear n34 n39
  clear n62
  have hb : (b.toNat : Int) = 32 := by rw [h32]; rfl
  obtain ⟨n62, n32, n61, n34, n39, n95, n46, n47, n58⟩ := VL hb false true false false false false false false false (by decide)
  have HN : Hid (St.nameB b = false) := by show _ = _; rw [h32]; decide
  have HT : Hid (qu b = false) := by show _ = _; rw [h32]; decide
  clear hb
  clear h32
  generalize St.stepV ⟨5, t, a, false⟩ b = s0 at *
  go_enter Tryz.func185, Tryz.ntmps185
  go_wp2_with (first | (go_at_call 184; refine qf (HNB.out _) ?_; rw [HN.out]) | (go_at_call 181; refine qf (HLB.out _) ?_; rw [HT.out]))
  obtain ⟨g1, g2, g3⟩ := qE w (ql 5 t a false) (ql 15 [] [] false) 90 90
  exact bodyPost_ret (qp (m := 15) (t := []) (a := []) (z := false) Tryz.results185 rfl g3) rfl ⟨by rw [HE.out]; first | done | rfl, g1⟩
 have n32 := qy h32 32 rfl
 have HBB := qb (yI b)
 have HE0 : Hid (St.stepV ⟨5, t, a, false⟩ b = if St.bareB b then ⟨8, t, a, true⟩ else St.bad) := by show _ = _; rw [St.stepV, if_neg (by simp), if_neg (by simp), if_pos rfl, if_neg h34, if_neg h39]
 clear h34
 clear h39
 clear h62
 clear h32
 generalize St.stepV ⟨5, t, a, false⟩ b = s0 at *
 obtain ⟨g1, g2, g3⟩ := qE w (ql 5 t a false) qH 90 90
 have HG3 := qb g3
 have HG1 := qb g1
 have hz : w.heap.size < ((w.alloc (.cells (ql 5 t a false) 90)).alloc (.cells qH 90)).heap.size := by simp; omega
 obtain ⟨⟨y0, y1, y2, y3⟩, -⟩ := qh g2
 obtain ⟨⟨z0, z1, z2, z3⟩, x0, x1, x2, x3⟩ := qh g3
 clear g1 g2 g3
 go_enter Tryz.func185, Tryz.ntmps185
 go_upto_region 17 with fail
 generalize (w.alloc (.cells (ql 5 t a false) 90)).alloc (.cells qH 90) = wb at *
 go_cut [110] (fun v wx => v = .bool (St.bareB b) /\ wb = wx)
 case first =>
  cases hq : St.nameB b
  case true =>
   have HR : Hid (St.bareB b = true) := by show _ = _; rw [HBB.out, hq]; rfl
   have HN := qb hq
   clear hq
   go_wp2_with (first | (go_at_call 184; refine qf (HNB.out _) ?_; rw [HN.out]) | (go_at_call 181; refine qf (HLB.out _) ?_; rw [HT.out]))
   go_meet
   case rel => exact ⟨by rw [HR.out], rfl⟩
  have HN := qb hq
  rw [hq] at HBB
  clear hq
  by_cases h95 : b = 95
  ·have n95 : ((b.toNat : Int) == 95) = true := by rw [h95]; rfl
   have HR : Hid (St.bareB b = true) := by show _ = _; rw [HBB.out, h95]; decide
   clear h95
   go_wp2_with (first | (go_at_call 184; refine qf (HNB.out _) ?_; rw [HN.out]) | (go_at_call 181; refine qf (HLB.out _) ?_; rw [HT.out]))
   go_meet
   case rel => exact ⟨by rw [HR.out], rfl⟩
  have n95 := qy h95 95 rfl
  by_cases h46 : b = 46
  ·have n46 : ((b.toNat : Int) == 46) = true := by rw [h46]; rfl
   have HR : Hid (St.bareB b = true) := by show _ = _; rw [HBB.out, h46]; decide
   clear h46
   go_wp2_with (first | (go_at_call 184; refine qf (HNB.out _) ?_; rw [HN.out]) | (go_at_call 181; refine qf (HLB.out _) ?_; rw [HT.out]))
   go_meet
   case rel => exact ⟨by rw [HR.out], rfl⟩
  have n46 := qy h46 46 rfl
  by_cases h47 : b = 47
  ·have n47 : ((b.toNat : Int) == 47) = true := by rw [h47]; rfl
   have HR : Hid (St.bareB b = true) := by show _ = _; rw [HBB.out, h47]; decide
   clear h47
   go_wp2_with (first | (go_at_call 184; refine qf (HNB.out _) ?_; rw [HN.out]) | (go_at_call 181; refine qf (HLB.out _) ?_; rw [HT.out]))
   go_meet
   case rel => exact ⟨by rw [HR.out], rfl⟩
  have n47 := qy h47 47 rfl
  by_cases h58 : b = 58
  ·have n58 : ((b.toNat : Int) == 58) = true := by rw [h58]; rfl
   have HR : Hid (St.bareB b = true) := by show _ = _; rw [HBB.out, h58]; decide
   clear h58
   go_wp2_with (first | (go_at_call 184; refine qf (HNB.out _) ?_; rw [HN.out]) | (go_at_call 181; refine qf (HLB.out _) ?_; rw [HT.out]))
   go_meet
   case rel => exact ⟨by rw [HR.out], rfl⟩
  have n58 := qy h58 58 rfl
  have HR : Hid (St.bareB b = false) := by show _ = _; rw [HBB.out]; simp [h95, h46, h47, h58]
  clear h95 h46 h47 h58
  go_wp2_with (first | (go_at_call 184; refine qf (HNB.out _) ?_; rw [HN.out]) | (go_at_call 181; refine qf (HLB.out _) ?_; rw [HT.out]))
  go_meet
  case rel => exact ⟨by rw [HR.out], rfl⟩
 case rest =>
 obtain ⟨rfl, rfl⟩ := hcut
 clear HBB
 cases hq : St.bareB b
 case true =>
  have HE : Hid (s0 = ⟨8, t, a, true⟩) := by show _ = _; rw [HE0.out, hq]; rfl
  clear hq HE0
  go_wp2
  exact bodyPost_ret (qp (m := 8) (t := t) (a := a) (z := true) Tryz.results185 rfl (put4 HG3.out)) rfl ⟨by rw [HE.out], qq HG1.out (by omega) _ _ _ _⟩
 have HE : Hid (s0 = St.bad) := by show _ = _; rw [HE0.out, hq]; rfl
 clear hq HE0
 go_wp2
 exact bodyPost_ret (qp (m := 15) (t := []) (a := []) (z := false) Tryz.results185 rfl (put4 HG3.out)) rfl ⟨by rw [HE.out]; rfl, qq HG1.out (by omega) _ _ _ _⟩
end Go.Proofs.YtmboieajfdkllaaGreat
