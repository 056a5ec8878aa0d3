import Derived.Test.YtmboieajfdkllaaGreatU29
import Derived.Test.YtmboieajfdkllaaGreatU30
set_option maxHeartbeats 4000000
set_option maxRecDepth 100000
open Go.Proofs.Tryz
namespace Go.Proofs.YtmboieajfdkllaaGreat
open Go.RowKit Go.Deep
def RtS (w w' : World) (e : Ending) : Option (List Pt) -> Prop
 | none => ∃ A l c, e = .returned (.tuple #[.slice A l c, .bool false])
 | some L => ∃ A c rs, e = .returned (.tuple #[.slice A (List.length rs) c, .bool true]) /\ PLs w' w.heap.size A c rs L
def tmOf (xs : List Pt) : Tx := if Pt.valid xs = true then Pt.wr xs else []
theorem QM (xs : List Pt) (A : Option Addr) (c : Nat) (w : World) (hx : RdP w (All w) A xs) (hs : xs.length + Pt.sizes xs <= 1048576) :
  Calls Tryz.prog 82 #[.slice A xs.length c] w fun e w' => e = .returned (sv (tmOf xs)) /\ Below w.heap.size w w' := by
 have HPV := qb (jZ xs A c w hx hs)
 have HX := qb hx
 have HE : Hid (tmOf xs = if Pt.valid xs = true then Pt.wr xs else []) := rfl
 have HTW := qb (fun (h : Pt.oks xs 3 false = true) w2 (hb : Below w.heap.size w w2) => Vd 3 xs false A c w2 h (HX.out.now hb) hs)
 have HVO := qb (zK (xs := xs))
 clear hx
 go_enter func82, ntmps82
 go_wp2_with fail
 refine HPV.out.mono ?_
 rintro e w1 ⟨rfl, hb⟩
 have HB1 := qb hb
 clear hb
 cases hv : Pt.valid xs
 ·rw [hv, if_neg (by simp)] at HE
  go_wp2
  go_ret
  exact ⟨qM HE.out.symm, HB1.out⟩
 rw [hv, if_pos rfl] at HE
 have HTW2 := qb (HTW.out (HVO.out hv) w1 HB1.out)
 clear hv
 go_wp2_with fail
 refine HTW2.out.mono ?_
 rintro e w2 ⟨rfl, hb⟩
 have HB2 := qb (qa3 HB1.out hb)
 clear hb
 go_wp2
 go_ret
 exact ⟨qM HE.out.symm, HB2.out⟩
theorem QN (s : Tx) (w : World) (hs : s.length <= 1048575) :
  Calls Tryz.prog 34 #[sv s] w fun e w' => RtS w w' e (Pt.readT false s) /\ Below w.heap.size w w' := by
 rw [<- Pt.readT_same]
 have HRD : Hid (Calls Tryz.prog 81 #[sv s, .int .i64 0, .int .i64 3] w fun e w' => RsP w w' s e (Pt.rd true 4 (s.length + 1) s []) /\ Below w.heap.size w w') := by
  have h := KT 4 3 s 0 (s.length + 1) w (by decide) (Nat.le_refl _) (Nat.zero_le _) (by omega) (by omega)
  rw [List.drop_zero] at h
  exact h
 obtain ⟨r, hr⟩ : ∃ r, r = Pt.rd true 4 (s.length + 1) s [] := ⟨_, rfl⟩
 have HRT := qb (yj (z := true) (s := s) (r := r) hr.symm)
 have HSZ := qb (fun L t st (e : r = some (L, t, st)) => Pt.rd_size true (s.length + 1) 4 s [] (hr.symm.trans e))
 rw [<- hr] at HRD
 clear hr
 generalize Pt.readT true s = T at *
 go_enter func34, ntmps34
 go_wp2_with fail
 refine HRD.out.mono ?_
 rintro e w1 ⟨hr1, hb⟩
 have HB1 := qb hb
 clear hb
 obtain _ | ⟨L, t, st⟩ := r
 ·obtain ⟨A, l, c, a, ha, rfl⟩ := hr1
  have HE : Hid (T = none) := HRT.out
  go_wp2
  refine bodyPost_ret (v := .tuple #[.slice (some ⟨w1.heap.size, 0, none⟩) 0 0, .bool false]) (by simp [results, results34, go_sem, *]) rfl ⟨?_, HB1.out.alloc HB1.out.size _⟩
  rw [HE.out]
  exact ⟨_, 0, 0, rfl⟩
 obtain ⟨A, c, rs, a, ha, hda, rfl, hp⟩ := hr1
 dsimp only at hp hda
 obtain ⟨z1, z2, z3⟩ := HSZ.out L t st rfl
 have HP := qb hp
 have hlp := hp.len
 have hrt2 := HRT.out
 rw [yk] at hrt2
 have HRT2 := qb hrt2
 clear hrt2 hp HRT HSZ HRD hda
 by_cases hst : st = []
 case neg =>
  have hq3 : (st == []) = false := by simpa using hst
  have hq4 : List.isEmpty st = false := by cases st with | nil => exact absurd rfl hst | cons => rfl
  have HE : Hid (T = none) := by show _ = _; rw [HRT2.out, hq3, Bool.false_and, if_neg (by simp)]
  clear hst hlp
  go_wp2
  refine bodyPost_ret (v := .tuple #[.slice (some ⟨w1.heap.size, 0, none⟩) 0 0, .bool false]) (by simp [results, results34, go_sem, *]) rfl ⟨?_, HB1.out.alloc HB1.out.size _⟩
  rw [HE.out]
  exact ⟨_, 0, 0, rfl⟩
 subst hst
 obtain rfl := z3 rfl
 have hLs : L.length + Pt.sizes L <= 1048576 := by unfold Pt.sz at z1; simp only [List.length_nil, Pt.sizes] at z1; omega
 rw [show (([] : Tx) == []) = true from rfl, Bool.true_and] at HRT2
 have HPV := qb (jZ L A c w1 HP.out.all hLs)
 rw [<- hlp] at HPV
 have HLP := qb hlp
 clear hlp z1 z2 z3
 go_wp2_with fail
 refine HPV.out.mono ?_
 rintro e w2 ⟨rfl, hb⟩
 have HB2 := qb (qa3 HB1.out hb)
 have HP2 := qb (HP.out.keep hb)
 clear hb
 cases hv : Pt.valid L
 ·rw [hv, Bool.false_and, if_neg (by simp)] at HRT2
  have HE := qb HRT2.out
  go_wp2
  refine bodyPost_ret (v := .tuple #[.slice (some ⟨w2.heap.size, 0, none⟩) 0 0, .bool false]) (by simp [results, results34, go_sem, *]) rfl ⟨?_, HB2.out.alloc HB2.out.size _⟩
  rw [HE.out]
  exact ⟨_, 0, 0, rfl⟩
 rw [hv, Bool.true_and] at HRT2
 have HTW := qb (QM L A c w2 HP2.out.all hLs)
 rw [<- HLP.out, show tmOf L = Pt.wr L by unfold tmOf; rw [hv, if_pos rfl]] at HTW
 clear hv
 go_wp2_with fail
 refine HTW.out.mono ?_
 rintro e w3 ⟨rfl, hb⟩
 have HB3 := qb (qa3 HB2.out hb)
 have HP3 := qb (HP2.out.keep hb)
 clear hb
 generalize Pt.wr L = W at *
 by_cases hW : W = s
 ·have hq : (W == s) = true := by simpa using hW
  rw [hq, if_pos rfl] at HRT2
  have HE := qb HRT2.out
  clear hW
  go_wp2
  refine bodyPost_ret (v := .tuple #[.slice A rs.length c, .bool true]) (by simp [results, results34, go_sem, *]) rfl ⟨?_, HB3.out⟩
  rw [HE.out]
  exact ⟨A, c, rs, rfl, HP3.out⟩
 have hq : (W == s) = false := by simpa using hW
 rw [hq, if_neg (by simp)] at HRT2
 have HE := qb HRT2.out
 clear hW
 go_wp2
 refine bodyPost_ret (v := .tuple #[.slice (some ⟨w3.heap.size, 0, none⟩) 0 0, .bool false]) (by simp [results, results34, go_sem, *]) rfl ⟨?_, HB3.out.alloc HB3.out.size _⟩
 rw [HE.out]
 exact ⟨_, 0, 0, rfl⟩
end Go.Proofs.YtmboieajfdkllaaGreat
