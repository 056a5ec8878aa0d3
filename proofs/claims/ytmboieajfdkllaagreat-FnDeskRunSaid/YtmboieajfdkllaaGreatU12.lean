import Derived.Test.YtmboieajfdkllaaGreatU11
open Go.Proofs.Tryz
namespace Go.Proofs.YtmboieajfdkllaaGreat
open Go.RowKit Go.Deep
theorem xk (m : Int) (t a : Tx) {b : UInt8} (h : a.length <= 10) : St.more m (t ++ [lowB b]) a = zB m t a false b := by
 unfold St.more zB
 by_cases h1 : (t ++ [lowB b]).length <= 10
 ·rw [if_pos h1, if_pos ⟨h1, h⟩]
 rw [if_neg h1, if_neg fun h2 => h1 h2.1]
theorem yS (m : Int) (t a : Tx) {b : UInt8} (h : t.length <= 10) : St.more m t (a ++ [lowB b]) = jl m t a false b := by
 unfold St.more jl
 by_cases h1 : (a ++ [lowB b]).length <= 10
 ·rw [if_pos h1, if_pos ⟨h, h1⟩]
 rw [if_neg h1, if_neg fun h2 => h1 h2.2]
theorem Yz (s : St) (m : Int) (t a : Tx) (z : Bool) (b : UInt8) (h : s = zB m t a z b) (ht : t.length <= 10) : Hid (∀ w, Calls Tryz.prog 172 #[stV m t a z, .int .u8 (b.toNat : Int), .bool false] w fun e w' => e = .returned (St.v s) /\ Below w.heap.size w w') :=
 qb (fun w => by subst h; exact xr m t a z b w (by omega))
theorem YZ (s : St) (m : Int) (t a : Tx) (z : Bool) (b : UInt8) (h : s = jl m t a z b) (ht : a.length <= 10) : Hid (∀ w, Calls Tryz.prog 172 #[stV m t a z, .int .u8 (b.toNat : Int), .bool true] w fun e w' => e = .returned (St.v s) /\ Below w.heap.size w w') :=
 qb (fun w => by subst h; exact ZY m t a z b w (by omega))
set_option maxRecDepth 100000 in
set_option maxHeartbeats 8000000 in
theorem WB (m : Int) (t a : Tx) (z : Bool) (b : UInt8) (w : World) (ht : t.length <= 10) (ha : a.length <= 10) (hm : (m = 2 /\ a = [] /\ z = false) \/ (m = 3 /\ a = [] /\ z = false) \/ (m = 4 /\ z = false) \/ m = 8) :
  Calls Tryz.prog 170 #[stV m t a z, .int .u8 (b.toNat : Int)] w fun e w' => e = .returned (St.v (St.stepTag m t a z b)) /\ Below w.heap.size w w' := by
 have HLB := qb (fun w => zg b w)
 have HDB := qb (fun w => zf b w)
 have HBB := qb (fun w => zn b w)
 obtain ⟨s0, hs0⟩ : ∃ s, St.stepTag m t a z b = s := ⟨_, rfl⟩
 rw [hs0]
 have HS := qb hs0
 clear hs0
 by_cases h62 : b = 62
 ·have n62 : ((b.toNat : Int) == 62) = true := by rw [h62]; rfl
  have HE : Hid (s0 = if t == [115, 99, 114, 105, 112, 116] then ⟨11, [], [], false⟩ else St.zero) := qb (by rw [<- HS.out, St.stepTag, if_pos h62]; rfl)
  clear h62 hm HS
  cases hs : (t == [115, 99, 114, 105, 112, 116])
  all_goals
   go_enter func170, ntmps170
   go_wp2
   exact retn (by rw [HE.out, hs]; rfl) results170 rfl rfl
 have n62 := qy h62 62 rfl
 by_cases h32 : b = 32
 ·have n32 : ((b.toNat : Int) == 32) = true := by rw [h32]; rfl
  have HE : Hid (s0 = ⟨3, t, [], false⟩) := qb (by rw [<- HS.out, St.stepTag, if_neg h62, if_pos h32])
  clear h62 h32 hm HS
  go_enter func170, ntmps170
  go_wp2
  exact retn HE.out results170 rfl rfl
 have n32 := qy h32 32 rfl
 have HE : Hid (s0 = if m = 2 then (if St.nameB b then St.more 2 (t ++ [lowB b]) a else St.bad)
  else if m = 3 then (if qu b then St.more 4 t (a ++ [lowB b]) else St.bad)
  else if m = 4 then (if St.nameB b then St.more 4 t (a ++ [lowB b]) else if b = 61 then ⟨5, t, a, false⟩ else St.bad)
  else (if St.bareB b then ⟨8, t, a, z⟩ else St.bad)) := qb (by rw [<- HS.out, St.stepTag, if_neg h62, if_neg h32])
 clear h62 h32 HS
 obtain ⟨g1, g2, g3⟩ := qE w (ql m t a z) qH 90 90
 have HG1 := qb g1
 have HG3 := qb g3
 have hz : w.heap.size + 1 < ((w.alloc (.cells (ql m t a z) 90)).alloc (.cells qH 90)).heap.size := by simp
 obtain ⟨⟨y0, y1, y2, y3⟩, p0, p1, p2, p3⟩ := qh g2
 obtain ⟨⟨z0, z1, z2, z3⟩, x0, x1, x2, x3⟩ := qh g3
 clear g1 g2 g3
 go_enter func170, ntmps170
 go_upto_region 7 with fail
 generalize (w.alloc (.cells (ql m t a z) 90)).alloc (.cells qH 90) = wb at *
 go_cut [5] (fun v wx => v = .bool (St.nameB b) /\ wb = wx)
 case first =>
  have HNN : Hid (St.nameB b = (qu b || (qK b || decide ((b.toNat : Int) = 45)))) := qb (by unfold St.nameB; rw [Bool.or_assoc])
  clear HE hm
  cases hl : qu b <;> cases hd : qK b
  all_goals
   have HT := qb hl
   have HD := qb hd
   clear hl hd
   go_wp2_with (first | (go_at_call 169; refine qf (HLB.out _) ?_; rw [HT.out]) | (go_at_call 144; refine qf (HDB.out _) ?_; rw [HD.out]) | (go_at_call 171; refine qf (HBB.out _) ?_; rw [HBR.out]))
   go_meet
   case rel => exact ⟨by rw [HNN.out, HT.out, HD.out]; rfl, rfl⟩
 obtain ⟨rfl, rfl⟩ := hcut
 have HF := qb HE.out
 clear HE
 rcases hm with ⟨rfl, rfl, rfl⟩ | ⟨rfl, rfl, rfl⟩ | ⟨rfl, rfl⟩ | rfl
 cases hq : St.nameB b
 have HE : Hid (s0 = St.bad) := qb (by rw [HF.out]; simp [hq])
 rotate_left
 have HC := Yz s0 2 t [] false b (by rw [HF.out, if_pos rfl, if_pos hq, xk _ _ _ ha]) ht
 rotate_left
 generalize St.nameB b = q9 at *
 cases hl : qu b
 have HE : Hid (s0 = St.bad) := qb (by rw [HF.out]; simp [hl])
 have HT := qb hl
 rotate_left
 have HC := YZ s0 4 t [] false b (by rw [HF.out, if_neg (by decide), if_pos rfl, if_pos hl, yS _ _ _ ht]) ha
 have HT := qb hl
 rotate_left
 cases hq : St.nameB b
 by_cases h61 : b = 61
 have HE : Hid (s0 = ⟨5, t, a, false⟩) := qb (by rw [HF.out, if_neg (by decide), if_neg (by decide), if_pos rfl, if_neg (by rw [hq]; decide), if_pos h61])
 have n61 : ((b.toNat : Int) == 61) = true := by rw [h61]; rfl
 rotate_left
 have HE : Hid (s0 = St.bad) := qb (by rw [HF.out]; simp [hq, h61])
 have n61 := qy h61 61 rfl
 rotate_left
 have HC := YZ s0 4 t a false b (by rw [HF.out, if_neg (by decide), if_neg (by decide), if_pos rfl, if_pos hq, yS _ _ _ ht]) ha
 rotate_left
 generalize St.nameB b = q9 at *
 cases hr : St.bareB b
 have HE : Hid (s0 = St.bad) := qb (by rw [HF.out]; simp [hr])
 have HBR := qb hr
 rotate_left
 have HE : Hid (s0 = ⟨8, t, a, z⟩) := qb (by rw [HF.out]; simp [hr])
 have HBR := qb hr
 rotate_left
 all_goals
  try clear h61
  try clear hq
  try clear hl
  try clear hr
  clear HF
  go_wp2_with (first | (go_at_call 169; refine qf (HLB.out _) ?_; rw [HT.out]) | (go_at_call 144; refine qf (HDB.out _) ?_; rw [HD.out]) | (go_at_call 171; refine qf (HBB.out _) ?_; rw [HBR.out]))
  (try go_wp2_with fail)
  first
  | (refine (HC.out _).mono ?_
     rintro e w2 ⟨rfl, hb⟩
     have HB2 : Hid (Below w.heap.size w w2) := qb (by first | exact HG1.out.trans (hb.mono HG1.out.size) | exact (HG1.out.setCell (p := ⟨w.heap.size, 0, none⟩) (Nat.le_refl _) _).trans (hb.mono (HG1.out.setCell (p := ⟨w.heap.size, 0, none⟩) (Nat.le_refl _) _).size))
     have H2 : Hid (w2.heap[w.heap.size + 1]? = some (.cells qH 90 (0, 0))) := qb (qi (by first | exact HG3.out | exact (Below.heap_setCell _ _ _ _ (show w.heap.size + 1 ≠ w.heap.size by omega)).trans HG3.out) hb)
     have hz2 := hb.size
     clear hb
     obtain ⟨⟨r0, r1, r2, r3⟩, k0, k1, k2, k3⟩ := qh H2.out
     obtain ⟨sm, st, sa, sz⟩ := s0
     go_wp2
     exact Yn rfl results170 rfl rfl H2.out HB2.out (by omega))
  | exact Yn HE.out results170 rfl rfl HG3.out HG1.out (by omega)
  | exact Yn HE.out results170 rfl rfl ((Below.heap_setCell _ _ _ _ (show w.heap.size + 1 ≠ w.heap.size by omega)).trans HG3.out) (HG1.out.setCell (p := ⟨w.heap.size, 0, none⟩) (Nat.le_refl _) _) (by omega)
end Go.Proofs.YtmboieajfdkllaaGreat
