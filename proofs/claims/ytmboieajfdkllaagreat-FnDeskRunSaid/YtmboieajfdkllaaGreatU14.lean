import Derived.Test.YtmboieajfdkllaaGreatU13
set_option maxHeartbeats 16000000
set_option maxRecDepth 100000
open Go.Proofs.Tryz
namespace Go.Proofs.YtmboieajfdkllaaGreat
open Go.RowKit Go.Deep
theorem yf {m : Int} {t a : Tx} {z : Bool} (h : St.valid ⟨m, t, a, z⟩ = true) : (0 <= m /\ m <= 15) ∧
  (((m = 0 \/ m = 1 \/ m = 10 \/ m = 11 \/ m = 12 \/ m = 13 \/ m = 14 \/ m = 15) /\ t = [] /\ a = [] /\ z = false) \/ ((m = 2 \/ m = 3) /\ a = [] /\ z = false) \/ ((m = 4 \/ m = 5) /\ z = false) \/ m = 6 \/ m = 7 \/ (m = 8 /\ z = true) \/ (m = 9 /\ a = [] /\ z = false)) := by
 rw [xO t a z |>.out] at h
 simp only [Bool.and_eq_true] at h
 obtain ⟨h1, h2, h3, h4⟩ := h
 simp only [St.inM, Bool.and_eq_true, decide_eq_true_eq] at h1
 refine ⟨h1, ?_⟩
 have h5 : m = 0 \/ m = 1 \/ m = 2 \/ m = 3 \/ m = 4 \/ m = 5 \/ m = 6 \/ m = 7 \/ m = 8 \/ m = 9 \/ m = 10 \/ m = 11 \/ m = 12 \/ m = 13 \/ m = 14 \/ m = 15 := by omega
 rcases h5 with rfl | rfl | rfl | rfl | rfl | rfl | rfl | rfl | rfl | rfl | rfl | rfl | rfl | rfl | rfl | rfl <;>
  simp [St.tagOk, St.attrOk, St.seenOk, St.inM] at h2 h3 h4 <;> simp [h2, h3, h4]
theorem WU (m : Int) (b : UInt8) (w : World) (hm : m = 11 \/ m = 12 \/ m = 13 \/ m = 14) :
  Calls Tryz.prog 186 #[stV m [] [] false, .int .u8 (b.toNat : Int)] w fun e w' => e = .returned (St.v (St.stepV ⟨m, [], [], false⟩ b)) /\ Below w.heap.size w w' := by
 obtain ⟨s0, hs0⟩ : ∃ s, St.stepV ⟨m, [], [], false⟩ b = s := ⟨_, rfl⟩
 rw [hs0]
 have HS := qb hs0
 clear hs0
 rcases hm with rfl | rfl | rfl | rfl
 by_cases h60 : b = 60
 rotate_left
 by_cases h34 : b = 34
 rotate_left 2
 by_cases h34 : b = 34
 rotate_left
 by_cases h92 : b = 92
 rotate_left
 by_cases h60 : b = 60
 rotate_left 2
 by_cases h60 : b = 60
 rotate_left 2
 by_cases h60 : b = 60
 rotate_left
 by_cases h34 : b = 34
 rotate_left
 by_cases h47 : b = 47
 rotate_left 2
 all_goals
  first
  | have HE : Hid (s0 = St.stepV _ 60) := qb (HS.out.symm.trans (congrArg _ h60))
  | have HE : Hid (s0 = St.stepV _ 34) := qb (HS.out.symm.trans (congrArg _ h34))
  | have HE : Hid (s0 = St.stepV _ 47) := qb (HS.out.symm.trans (congrArg _ h47))
  | have HE : Hid (s0 = St.stepV _ 92) := qb (HS.out.symm.trans (congrArg _ h92))
  | (have he := HS.out; simp [St.stepV, *] at he; have HE := qb he.symm; clear he)
  first | have n60 := qy h60 60 rfl | simp only [toI h60 60 rfl] at * | skip
  first | have n34 := qy h34 34 rfl | simp only [toI h34 34 rfl] at * | skip
  first | have n47 := qy h47 47 rfl | simp only [toI h47 47 rfl] at * | skip
  first | have n92 := qy h92 92 rfl | simp only [toI h92 92 rfl] at * | skip
  try have d60 : ((b.toNat : Int) != 60) = true := by rw [bne, n60]; rfl
  clear HS
  try clear h60
  try clear h34
  try clear h47
  try clear h92
  go_enter func186, ntmps186
  go_wp2
  exact retn HE.out results186 rfl rfl
theorem YK (s : St) (m : Int) (b : UInt8) (h : s = St.stepV ⟨m, [], [], false⟩ b) (hm : m = 11 \/ m = 12 \/ m = 13 \/ m = 14) : Hid (∀ w, Calls Tryz.prog 186 #[stV m [] [] false, .int .u8 (b.toNat : Int)] w fun e w' => e = .returned (St.v s) /\ Below w.heap.size w w') :=
 qb (fun w => by subst h; exact WU m b w hm)
theorem Wo (s : St) (m : Int) (t a : Tx) (z : Bool) (h : s = ⟨m, t, a, true⟩) : Hid (∀ w, Calls Tryz.prog 183 #[stV m t a z] w fun e w' => e = .returned (St.v s) /\ Below w.heap.size w w') :=
 qb (fun w => by subst h; exact yJ m t a z w)
theorem YC (s : St) (m : Int) (t a : Tx) (z : Bool) (b : UInt8) (h : s = St.stepV ⟨m, t, a, z⟩ b) (ht : t.length <= 100) (ha : a.length <= 100) (hm : (m = 2 /\ a = [] /\ z = false) \/ (m = 3 /\ a = [] /\ z = false) \/ (m = 4 /\ z = false) \/ (m = 8 /\ z = true) \/ (m = 5 /\ z = false)) : Hid (∀ w, Calls Tryz.prog 185 #[stV m t a z, .int .u8 (b.toNat : Int)] w fun e w' => e = .returned (St.v s) /\ Below w.heap.size w w') :=
 qb (fun w => by subst h; exact WV m t a z b w (by omega) (by omega) hm)
theorem Jm (s : St) (b : UInt8) (w : World) (hf : St.Fit s) :
  Calls Tryz.prog 161 #[St.v s, .int .u8 (b.toNat : Int)] w fun e w' => e = .returned (St.v (St.step s b)) /\ Below w.heap.size w w' := by
 obtain ⟨m, t, a, z⟩ := s
 obtain ⟨ht, ha⟩ := hf
 dsimp only at ht ha
 have HV := qb (fun w => xP m t a z w (by omega) (by omega))
 have HNB := qb (fun w => zj b w)
 have HLB := qb (fun w => ze b w)
 obtain ⟨s0, hs0⟩ : ∃ s, St.step ⟨m, t, a, z⟩ b = s := ⟨_, rfl⟩
 rw [hs0]
 go_enter func161, ntmps161
 go_wp2_with fail
 refine (HV.out _).mono ?_
 rintro e w1 ⟨rfl, hb⟩
 obtain ⟨hB, g0, g1, g2, hz⟩ := qB hb
 have HB := qb hB
 have H1 := qb g1
 obtain ⟨⟨y0, y1, y2, y3⟩, p0, p1, p2, p3⟩ := qh g0
 obtain ⟨⟨z0, z1, z2, z3⟩, x0, x1, x2, x3⟩ := qh g1
 obtain ⟨⟨u0, u1, u2, u3⟩, -⟩ := qh g2
 clear hb hB g0 g1 g2 HV
 have hcv := zN (P := Tryz.prog) underlying44 underlying5 underlying9 b (b.toNat : Int) rfl w1
 rw [St.step] at hs0
 cases h : St.valid ⟨m, t, a, z⟩
 have HE : Hid (s0 = St.bad) := qb (by rw [<- hs0, h]; rfl)
 rotate_left
 have c := (yf h).2
 rw [h, if_pos rfl] at hs0
 have HS := qb hs0
 clear h
 rcases c with ⟨rfl | rfl | rfl | rfl | rfl | rfl | rfl | rfl, rfl, rfl, rfl⟩ | ⟨rfl | rfl, rfl, rfl⟩ | ⟨rfl | rfl, rfl⟩ | rfl | rfl | ⟨rfl, rfl⟩ | ⟨rfl, rfl, rfl⟩
 by_cases h60 : b = 60
 rotate_left 2
 cases hl : qu b
 by_cases h47 : b = 47
 rotate_left
 by_cases h33 : b = 33
 rotate_left 2
 have HC := Yq s0 2 [] [] b (by simp) (by simp) (by rw [<- HS.out]; simp [St.stepV, St.more, zh, hl])
 rotate_left
 by_cases h62 : b = 62
 rotate_left 2
 have HC := YK s0 11 b HS.out.symm (by simp)
 rotate_left
 have HC := YK s0 12 b HS.out.symm (by simp)
 rotate_left
 have HC := YK s0 13 b HS.out.symm (by simp)
 rotate_left
 have HC := YK s0 14 b HS.out.symm (by simp)
 rotate_left
 rotate_left
 have HC := YC s0 2 t [] false b HS.out.symm ht ha (by simp)
 rotate_left
 have HC := YC s0 3 t [] false b HS.out.symm ht ha (by simp)
 rotate_left
 have HC := YC s0 4 t a false b HS.out.symm ht ha (by simp)
 rotate_left
 have HC := YC s0 5 t a false b HS.out.symm ht ha (by simp)
 rotate_left
 by_cases h34 : b = 34
 rotate_left
 have HC := Wo s0 6 t a z (by rw [<- HS.out]; simp [St.stepV, h34])
 have n34 := qy h34 34 rfl
 rotate_left
 by_cases h39 : b = 39
 rotate_left
 have HC := Wo s0 7 t a z (by rw [<- HS.out]; simp [St.stepV, h39])
 have n39 := qy h39 39 rfl
 rotate_left
 have HC := YC s0 8 t a true b HS.out.symm ht ha (by simp)
 rotate_left
 by_cases hT : t = []
 subst hT
 by_cases h62 : b = 62
 rotate_left
 cases hl : qu b
 rotate_left
 have HC := Yq s0 9 [] [] b (by simp) (by simp) (by rw [<- HS.out, St.stepV]; (iterate 5 rw [if_neg (by simp)]); rw [if_pos rfl, if_neg h62, if_pos (by rw [hl]; rfl)]; rfl)
 rotate_left
 have hT1 : (t == []) = false := by simpa using hT
 have hT2 : List.isEmpty t = false := by simpa using hT
 have hT3 : (t != []) = true := by simpa using hT
 by_cases h62 : b = 62
 have HE : Hid (s0 = St.zero) := qb (by rw [<- HS.out, h62]; simp [St.stepV, hT])
 rotate_left
 cases hl : qu b
 cases hn : (qK b || decide ((b.toNat : Int) = 45))
 have HE : Hid (s0 = St.bad) := qb (by rw [<- HS.out, St.stepV]; (iterate 5 rw [if_neg (by simp)]); rw [if_pos rfl, if_neg h62, if_neg (by rw [hl, hn, hT1]; decide)])
 have HN : Hid (St.nameB b = false) := qb (by unfold St.nameB; rw [hl, Bool.false_or]; exact hn)
 clear hn
 rotate_left
 have HC := Yq s0 9 t [] b (by omega) (by simp) (by rw [<- HS.out, St.stepV]; (iterate 5 rw [if_neg (by simp)]); rw [if_pos rfl, if_neg h62, if_pos (by rw [hl, hn, hT1]; rfl)]; rfl)
 have HN : Hid (St.nameB b = true) := qb (by unfold St.nameB; rw [hl, Bool.false_or]; exact hn)
 clear hn
 rotate_left
 have HC := Yq s0 9 t [] b (by omega) (by simp) (by rw [<- HS.out, St.stepV]; (iterate 5 rw [if_neg (by simp)]); rw [if_pos rfl, if_neg h62, if_pos (by rw [hl]; rfl)]; rfl)
 rotate_left
 all_goals
  first
  | (have hc := HC; clear hc)
  | (have hc := HE; clear hc)
  | have HE : Hid (s0 = St.stepV _ 60) := qb (HS.out.symm.trans (congrArg _ h60))
  | have HE : Hid (s0 = St.stepV _ 62) := qb (HS.out.symm.trans (congrArg _ h62))
  | have HE : Hid (s0 = St.stepV _ 47) := qb (HS.out.symm.trans (congrArg _ h47))
  | have HE : Hid (s0 = St.stepV _ 33) := qb (HS.out.symm.trans (congrArg _ h33))
  | have HE : Hid (s0 = St.stepV _ 34) := qb (HS.out.symm.trans (congrArg _ h34))
  | have HE : Hid (s0 = St.stepV _ 39) := qb (HS.out.symm.trans (congrArg _ h39))
  | (have he := HS.out; simp [St.stepV, *] at he; have HE := qb he.symm; clear he)
  first | have HT := qb hl | have HT : Hid (qu b = false) := qb (by subst b; rfl) | skip
  first | (have hc := HN; clear hc) | have HN : Hid (St.nameB b = false) := qb (by subst b; rfl) | skip
  first | have n60 := qy h60 60 rfl | simp only [toI h60 60 rfl] at * | skip
  first | have n62 := qy h62 62 rfl | simp only [toI h62 62 rfl] at * | skip
  first | have n47 := qy h47 47 rfl | simp only [toI h47 47 rfl] at * | skip
  first | have n33 := qy h33 33 rfl | simp only [toI h33 33 rfl] at * | skip
  first | have n34 := qy h34 34 rfl | simp only [toI h34 34 rfl] at * | skip
  first | have n39 := qy h39 39 rfl | simp only [toI h39 39 rfl] at * | skip
  try clear HS
  try clear hl
  try clear h60
  try clear h62
  try clear h47
  try clear h33
  try clear h34
  try clear h39
  go_wp2_with (first | (go_at_call 184; refine qf (HNB.out _) ?_; rw [HN.out]) | (go_at_call 181; refine qf (HLB.out _) ?_; rw [HT.out]) | (go_at_call 86; refine (qN _ _ _ _).mono ?_; rintro e w' ⟨rfl, rfl⟩))
  first
  | (refine (HC.out _).mono ?_
     rintro e w2 ⟨rfl, hb⟩
     first | have hb2 : Below w1.heap.size w1 w2 := hb | have hb2 : Below w1.heap.size w1 w2 := ((Below.refl _ _).alloc (Nat.le_refl _) _).trans (hb.mono (by simp))
     have HB2 := qb (qa3 HB.out hb2)
     have H2 := qb (qi H1.out hb2)
     have hz2 := hb2.size
     clear hb hb2 hcv z0 z1 z2 z3 x0 x1 x2 x3
     obtain ⟨⟨z0, z1, z2, z3⟩, x0, x1, x2, x3⟩ := qh H2.out
     obtain ⟨sm, st, sa, sz⟩ := s0
     go_wp2
     exact Yn rfl results161 rfl rfl H2.out HB2.out (by omega))
  | exact Yn HE.out results161 rfl rfl H1.out HB.out (by omega)
end Go.Proofs.YtmboieajfdkllaaGreat
