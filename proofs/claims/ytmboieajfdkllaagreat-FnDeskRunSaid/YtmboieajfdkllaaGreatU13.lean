import Derived.Test.YtmboieajfdkllaaGreatU10
open Go.Proofs.Tryz
namespace Go.Proofs.YtmboieajfdkllaaGreat
open Go.RowKit Go.Deep
theorem toI {b c : UInt8} (h : b = c) (k : Int) (hk : (c.toNat : Int) = k) : (b.toNat : Int) = k := by rw [h]; exact hk
theorem YH (s : St) (t : Tx) (h : s = if t == St.script then ⟨11, [], [], false⟩ else St.zero) : Hid (∀ w, Calls Tryz.prog 191 #[sv t] w fun e w' => e = .returned (St.v s) /\ Below w.heap.size w w') :=
 qb (fun w => by subst h; exact xN t w)
theorem Yq (s : St) (m : Int) (t a : Tx) (b : UInt8) (ht : t.length <= 1000) (ha : a.length <= 1000) (h : s = zh m t a b) : Hid (∀ w, Calls Tryz.prog 182 #[.int .i64 m, sv t, sv a, sv [b]] w fun e w' => e = .returned (St.v s) /\ Below w.heap.size w w') :=
 qb (fun w => by subst h; exact jB m t a b w ht ha)
set_option maxRecDepth 100000 in
set_option maxHeartbeats 16000000 in
theorem WV (m : Int) (t a : Tx) (z : Bool) (b : UInt8) (w : World) (ht : t.length <= 1000) (ha : a.length <= 1000) (hm : (m = 2 /\ a = [] /\ z = false) \/ (m = 3 /\ a = [] /\ z = false) \/ (m = 4 /\ z = false) \/ (m = 8 /\ z = true) \/ (m = 5 /\ z = false)) :
  Calls Tryz.prog 185 #[stV m t a z, .int .u8 (b.toNat : Int)] w fun e w' => e = .returned (St.v (St.stepV ⟨m, t, a, z⟩ b)) /\ Below w.heap.size w w' := by
 have HNB := qb (fun w => zj b w)
 have HLB := qb (fun w => ze b w)
 have hcv := zN (P := Tryz.prog) underlying44 underlying5 underlying9 b (b.toNat : Int) rfl ((w.alloc (.cells (ql m t a z) 90)).alloc (.cells qH 90))
 simp only [World.size_alloc] at hcv
 obtain ⟨s0, hs0⟩ : ∃ s, St.stepV ⟨m, t, a, z⟩ b = s := ⟨_, rfl⟩
 rw [hs0]
 have HS := qb hs0
 clear hs0
 have HBN := yI b
 rcases hm with ⟨rfl, rfl, rfl⟩ | ⟨rfl, rfl, rfl⟩ | ⟨rfl, rfl⟩ | ⟨rfl, rfl⟩ | ⟨rfl, rfl⟩
 by_cases h62 : b = 62
 have HC := YH s0 t (by rw [<- HS.out, h62]; rfl)
 rotate_left
 by_cases h32 : b = 32
 rotate_left
 cases hq : St.nameB b
 rotate_left
 have HC := Yq s0 2 t [] b ht ha (by rw [<- HS.out]; simp [St.stepV, St.stepTag, zh, h62, h32, hq])
 rotate_left
 by_cases h62 : b = 62
 have HC := YH s0 t (by rw [<- HS.out, h62]; rfl)
 rotate_left
 by_cases h32 : b = 32
 rotate_left
 cases hl : qu b
 rotate_left
 have HC := Yq s0 4 t [] b ht ha (by rw [<- HS.out]; simp [St.stepV, St.stepTag, zh, h62, h32, hl])
 rotate_left
 by_cases h62 : b = 62
 have HC := YH s0 t (by rw [<- HS.out, h62]; rfl)
 rotate_left
 by_cases h32 : b = 32
 rotate_left
 cases hq : St.nameB b
 by_cases h61 : b = 61
 rotate_left 2
 have HC := Yq s0 4 t a b ht ha (by rw [<- HS.out]; simp [St.stepV, St.stepTag, zh, h62, h32, hq])
 rotate_left
 by_cases h62 : b = 62
 have HC := YH s0 t (by rw [<- HS.out, h62]; rfl)
 rotate_left
 by_cases h32 : b = 32
 rotate_left
 cases hq : St.nameB b
 by_cases h95 : b = 95
 rotate_left
 by_cases h46 : b = 46
 rotate_left
 by_cases h47 : b = 47
 rotate_left
 by_cases h58 : b = 58
 rotate_left 2
 rotate_left
 by_cases h34 : b = 34
 rotate_left
 by_cases h39 : b = 39
 rotate_left
 by_cases h62 : b = 62
 rotate_left
 by_cases h32 : b = 32
 rotate_left
 cases hq : St.nameB b
 by_cases h95 : b = 95
 rotate_left
 by_cases h46 : b = 46
 rotate_left
 by_cases h47 : b = 47
 rotate_left
 by_cases h58 : b = 58
 rotate_left 2
 rotate_left
 all_goals
  first
  | (have hc := HC; clear hc)
  | have HE : Hid (s0 = St.stepV _ 62) := qb (HS.out.symm.trans (congrArg _ h62))
  | have HE : Hid (s0 = St.stepV _ 32) := qb (HS.out.symm.trans (congrArg _ h32))
  | have HE : Hid (s0 = St.stepV _ 61) := qb (HS.out.symm.trans (congrArg _ h61))
  | have HE : Hid (s0 = St.stepV _ 34) := qb (HS.out.symm.trans (congrArg _ h34))
  | have HE : Hid (s0 = St.stepV _ 39) := qb (HS.out.symm.trans (congrArg _ h39))
  | have HE : Hid (s0 = St.stepV _ 95) := qb (HS.out.symm.trans (congrArg _ h95))
  | have HE : Hid (s0 = St.stepV _ 46) := qb (HS.out.symm.trans (congrArg _ h46))
  | have HE : Hid (s0 = St.stepV _ 47) := qb (HS.out.symm.trans (congrArg _ h47))
  | have HE : Hid (s0 = St.stepV _ 58) := qb (HS.out.symm.trans (congrArg _ h58))
  | (have he := HS.out; simp [St.stepV, St.stepTag, *] at he; have HE := qb he.symm; clear he)
  first | have HN := qb hq | have HN : Hid (St.nameB b = false) := qb (by subst b; rfl) | skip
  first | have HT := qb hl | have HT : Hid (qu b = false) := qb (by subst b; rfl) | skip
  first | have n62 := qy h62 62 rfl | simp only [toI h62 62 rfl] at * | skip
  first | have n32 := qy h32 32 rfl | simp only [toI h32 32 rfl] at * | skip
  first | have n61 := qy h61 61 rfl | simp only [toI h61 61 rfl] at * | skip
  first | have n34 := qy h34 34 rfl | simp only [toI h34 34 rfl] at * | skip
  first | have n39 := qy h39 39 rfl | simp only [toI h39 39 rfl] at * | skip
  first | have n95 := qy h95 95 rfl | simp only [toI h95 95 rfl] at * | skip
  first | have n46 := qy h46 46 rfl | simp only [toI h46 46 rfl] at * | skip
  first | have n47 := qy h47 47 rfl | simp only [toI h47 47 rfl] at * | skip
  first | have n58 := qy h58 58 rfl | simp only [toI h58 58 rfl] at * | skip
  clear HBN HS
  try clear hq
  try clear hl
  try clear h62
  try clear h32
  try clear h61
  try clear h34
  try clear h39
  try clear h95
  try clear h46
  try clear h47
  try clear h58
  go_enter func185, ntmps185
  go_wp2_with (first | (go_at_call 184; refine qf (HNB.out _) ?_; rw [HN.out]) | (go_at_call 181; refine qf (HLB.out _) ?_; rw [HT.out]))
  first
  | (refine (HC.out _).mono ?_
     rintro e w1 ⟨rfl, hb⟩
     first | obtain ⟨hB, g0, g1, hz⟩ := zq hb | obtain ⟨hB, g0, g1, hz⟩ := two_row hb
     obtain ⟨⟨y0, y1, y2, y3⟩, x0, x1, x2, x3⟩ := qh g1
     obtain ⟨sm, st, sa, sz⟩ := s0
     clear hb
     go_wp2
     exact Yn rfl results185 rfl rfl g1 hB (by omega))
  | exact retn HE.out results185 rfl rfl
end Go.Proofs.YtmboieajfdkllaaGreat
