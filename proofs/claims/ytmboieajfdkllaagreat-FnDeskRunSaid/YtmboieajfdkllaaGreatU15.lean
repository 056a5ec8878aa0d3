import Derived.Test.YtmboieajfdkllaaGreatU12
import Derived.Test.YtmboieajfdkllaaGreatU14
open Go.Proofs.Tryz
namespace Go.Proofs.YtmboieajfdkllaaGreat
open Go.RowKit Go.Deep
theorem Vu {m : Int} {t a : Tx} {z : Bool} (h : St.valid ⟨m, t, a, z⟩ = true) : t.length <= 10 /\ a.length <= 10 := by
 have hn : ∀ x : Tx, qJ x = true -> x.length <= 10 := fun x hx => by
  unfold qJ at hx
  simp only [Bool.and_eq_true, decide_eq_true_eq] at hx
  exact hx.1.1.2
 rw [(xO t a z).out] at h
 simp only [Bool.and_eq_true] at h
 obtain ⟨-, h2, h3, -⟩ := h
 constructor
 ·unfold St.tagOk at h2
  split at h2
  ·exact hn t h2
  split at h2
  ·rw [Bool.or_eq_true] at h2
   rcases h2 with h2 | h2
   ·rw [eq_of_beq h2]; simp
   exact hn t h2
  rw [eq_of_beq h2]; simp
 unfold St.attrOk at h3
 split at h3
 ·exact hn a h3
 rw [eq_of_beq h3]; simp
theorem YM (s : St) (m : Int) (t a : Tx) (z : Bool) (b : UInt8) (h : s = St.stepTag m t a z b) (ht : t.length <= 10) (ha : a.length <= 10) (hm : (m = 2 /\ a = [] /\ z = false) \/ (m = 3 /\ a = [] /\ z = false) \/ (m = 4 /\ z = false) \/ m = 8) : Hid (∀ w, Calls Tryz.prog 170 #[stV m t a z, .int .u8 (b.toNat : Int)] w fun e w' => e = .returned (St.v s) /\ Below w.heap.size w w') :=
 qb (fun w => by subst h; exact WB m t a z b w ht ha hm)
set_option maxRecDepth 100000 in
set_option maxHeartbeats 16000000 in
theorem Vv (s : St) (b : UInt8) (w : World) (hf : St.Fit s) :
  Calls Tryz.prog 146 #[St.v s, .int .u8 (b.toNat : Int)] w fun e w' => e = .returned (St.v (St.step s b)) /\ Below w.heap.size w w' := by
 obtain ⟨m, t, a, z⟩ := s
 obtain ⟨ht, ha⟩ := hf
 dsimp only at ht ha
 have HV := qb (fun w => kO m t a z w (by omega) (by omega))
 have HLB := qb (fun w => zg b w)
 have HDB := qb (fun w => zf b w)
 have HBB := qb (fun w => zn b w)
 obtain ⟨s0, hs0⟩ : ∃ s, St.step ⟨m, t, a, z⟩ b = s := ⟨_, rfl⟩
 rw [hs0]
 go_enter func146, ntmps146
 go_wp2_with fail
 refine (HV.out _).mono ?_
 rintro e w1 ⟨rfl, hb⟩
 obtain ⟨hB, g0, g1, g2, hz⟩ := qB hb
 have HB := qb hB
 have H1 := qb g1
 obtain ⟨⟨y0, y1, y2, y3⟩, p0, p1, p2, p3⟩ := qh g0
 obtain ⟨⟨z0, z1, z2, z3⟩, x0, x1, x2, x3⟩ := qh g1
 obtain ⟨⟨u0, u1, u2, u3⟩, -⟩ := qh g2
 clear hb hB g0 g1 g2 HV
 rw [St.step] at hs0
 cases h : St.valid ⟨m, t, a, z⟩
 have HE : Hid (s0 = St.bad) := qb (by rw [<- hs0, h]; rfl)
 rotate_left
 obtain ⟨ht2, ha2⟩ := Vu h
 have c := (yf h).2
 rw [h, if_pos rfl] at hs0
 have HS := qb hs0
 clear h ht ha
 rcases c with ⟨rfl | rfl | rfl | rfl | rfl | rfl | rfl | rfl, rfl, rfl, rfl⟩ | ⟨rfl | rfl, rfl, rfl⟩ | ⟨rfl | rfl, rfl⟩ | rfl | rfl | ⟨rfl, rfl⟩ | ⟨rfl, rfl, rfl⟩
 by_cases h60 : b = 60
 rotate_left 2
 cases hl : qu b
 by_cases h47 : b = 47
 rotate_left
 by_cases h33 : b = 33
 rotate_left 2
 ·have HT := qb hl
  have HC0 := qb (fun w => xA [b] (by simp) w)
  rw [show qW [b] = [lowB b] from rfl] at HC0
  have HE : Hid (s0 = ⟨2, [lowB b], [], false⟩) := qb (by rw [<- HS.out]; simp [St.stepV, hl])
  clear hl HS
  generalize lowB b = c at *
  have hcv := zN (P := Tryz.prog) underlying44 underlying5 underlying9 b (b.toNat : Int) rfl w1
  go_wp2_with (first | (go_at_call 169; refine qf (HLB.out _) ?_; rw [HT.out]) | (go_at_call 144; refine qf (HDB.out _) ?_; rw [HD.out]) | (go_at_call 171; refine qf (HBB.out _) ?_; rw [HBR.out]))
  refine (HC0.out _).mono ?_
  rintro e w2 ⟨rfl, hb⟩
  have hb2 : Below w1.heap.size w1 w2 := ((Below.refl _ _).alloc (Nat.le_refl _) _).trans (hb.mono (by simp))
  have HB2 := qb (qa3 HB.out hb2)
  have H2 := qb (qi H1.out hb2)
  have hz2 := hb2.size
  clear hb hb2 z0 z1 z2 z3 x0 x1 x2 x3
  obtain ⟨⟨z0, z1, z2, z3⟩, x0, x1, x2, x3⟩ := qh H2.out
  go_wp2
  exact Yn HE.out results146 rfl rfl H2.out HB2.out (by omega)
 by_cases h62 : b = 62
 rotate_left 2
 by_cases h60 : b = 60
 rotate_left
 by_cases h34 : b = 34
 rotate_left
 by_cases h47 : b = 47
 rotate_left 2
 by_cases h34 : b = 34
 rotate_left
 by_cases h92 : b = 92
 rotate_left
 by_cases h60 : b = 60
 rotate_left 2
 by_cases h60 : b = 60
 rotate_left 2
 by_cases h60 : b = 60
 rotate_left
 by_cases h34 : b = 34
 rotate_left
 by_cases h47 : b = 47
 rotate_left 2
 rotate_left
 have HC := YM s0 2 t [] false b HS.out.symm ht2 ha2 (by simp)
 rotate_left
 have HC := YM s0 3 t [] false b HS.out.symm ht2 ha2 (by simp)
 rotate_left
 have HC := YM s0 4 t a false b HS.out.symm ht2 ha2 (by simp)
 rotate_left
 by_cases h34 : b = 34
 rotate_left
 by_cases h39 : b = 39
 rotate_left
 cases hr : St.bareB b
 rotate_left 2
 by_cases h34 : b = 34
 rotate_left 2
 by_cases h39 : b = 39
 rotate_left 2
 have HC := YM s0 8 t a true b HS.out.symm ht2 ha2 (by simp)
 rotate_left
 by_cases hT : t = []
 subst hT
 by_cases h62 : b = 62
 rotate_left
 cases hl : qu b
 rotate_left
 have HC := Yz s0 9 [] [] false b (by rw [<- HS.out]; simp [St.stepV, h62, hl]; exact xk 9 [] [] (by simp)) ht2
 rotate_left
 have hT1 : (t == []) = false := by simpa using hT
 have hT2 : List.isEmpty t = false := by simpa using hT
 have hT3 : (t != []) = true := by simpa using hT
 by_cases h62 : b = 62
 have HE : Hid (s0 = St.zero) := qb (by rw [<- HS.out, h62]; simp [St.stepV, hT])
 rotate_left
 cases hl : qu b
 cases hd : qK b
 by_cases h45 : b = 45
 have HC := Yz s0 9 t [] false b (by rw [<- HS.out, h45]; simp [St.stepV, hT]; exact xk _ _ _ (by simp)) ht2
 rotate_left
 have e45 : ¬ (b.toNat : Int) = 45 := fun e => h45 (UInt8.toNat_inj.1 (by have : (45 : UInt8).toNat = 45 := rfl; omega))
 rotate_left
 have HC := Yz s0 9 t [] false b (by rw [<- HS.out]; simp [St.stepV, hT, h62, hl, hd]; exact xk _ _ _ (by simp)) ht2
 rotate_left
 have HC := Yz s0 9 t [] false b (by rw [<- HS.out]; simp [St.stepV, h62, hl]; exact xk _ _ _ (by simp)) ht2
 rotate_left
 all_goals
  first
  | (have hc := HC; clear hc)
  | (have hc := HE; clear hc)
  | have HE : Hid (s0 = St.stepV _ 60) := qb (HS.out.symm.trans (congrArg _ h60))
  | have HE : Hid (s0 = St.stepV _ 62) := qb (HS.out.symm.trans (congrArg _ h62))
  | have HE : Hid (s0 = St.stepV _ 47) := qb (HS.out.symm.trans (congrArg _ h47))
  | have HE : Hid (s0 = St.stepV _ 33) := qb (HS.out.symm.trans (congrArg _ h33))
  | have HE : Hid (s0 = St.stepV _ 34) := qb (HS.out.symm.trans (congrArg _ h34))
  | have HE : Hid (s0 = St.stepV _ 39) := qb (HS.out.symm.trans (congrArg _ h39))
  | have HE : Hid (s0 = St.stepV _ 92) := qb (HS.out.symm.trans (congrArg _ h92))
  | have HE : Hid (s0 = St.stepV _ 45) := qb (HS.out.symm.trans (congrArg _ h45))
  | (have he := HS.out; simp [St.stepV, *] at he; have HE := qb he.symm; clear he)
  first | have HT := qb hl | (have HT : Hid (qu b = false) := qb (by subst b; rfl)) | skip
  first | have HD := qb hd | (have HD : Hid (qK b = false) := qb (by subst b; rfl)) | skip
  try have HBR := qb hr
  first | have n60 := qy h60 60 rfl | simp only [toI h60 60 rfl] at * | skip
  first | have n62 := qy h62 62 rfl | simp only [toI h62 62 rfl] at * | skip
  first | have n47 := qy h47 47 rfl | simp only [toI h47 47 rfl] at * | skip
  first | have n33 := qy h33 33 rfl | simp only [toI h33 33 rfl] at * | skip
  first | have n34 := qy h34 34 rfl | simp only [toI h34 34 rfl] at * | skip
  first | have n39 := qy h39 39 rfl | simp only [toI h39 39 rfl] at * | skip
  first | have n92 := qy h92 92 rfl | simp only [toI h92 92 rfl] at * | skip
  first | have n45 := qy h45 45 rfl | simp only [toI h45 45 rfl] at * | skip
  try have d60 : ((b.toNat : Int) != 60) = true := by rw [bne, n60]; rfl
  try clear HS
  try clear hl
  try clear hd
  try clear hr
  try clear h60
  try clear h62
  try clear h47
  try clear h33
  try clear h34
  try clear h39
  try clear h92
  try clear h45
  go_wp2_with (first | (go_at_call 169; refine qf (HLB.out _) ?_; rw [HT.out]) | (go_at_call 144; refine qf (HDB.out _) ?_; rw [HD.out]) | (go_at_call 171; refine qf (HBB.out _) ?_; rw [HBR.out]))
  first
  | (refine (HC.out _).mono ?_
     rintro e w2 ⟨rfl, hb⟩
     have HB2 := qb (qa3 HB.out hb)
     have H2 := qb (qi H1.out hb)
     have hz2 := hb.size
     clear hb z0 z1 z2 z3 x0 x1 x2 x3
     obtain ⟨⟨z0, z1, z2, z3⟩, x0, x1, x2, x3⟩ := qh H2.out
     obtain ⟨sm, st, sa, sz⟩ := s0
     go_wp2
     exact Yn rfl results146 rfl rfl H2.out HB2.out (by omega))
  | exact Yn HE.out results146 rfl rfl (by (repeat refine (Below.heap_setCell _ _ _ _ (show w.heap.size + 1 ≠ w.heap.size by omega)).trans ?_); exact H1.out) (by (repeat refine Below.setCell ?_ (Nat.le_refl w.heap.size) _); exact HB.out) (by omega)
end Go.Proofs.YtmboieajfdkllaaGreat
