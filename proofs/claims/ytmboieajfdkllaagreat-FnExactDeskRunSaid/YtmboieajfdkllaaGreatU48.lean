/- For all desks and lines: DeskRun of the program returns what the reference's returns, leaves its arguments alone, and its results share no memory with them: the law FnExactDeskRun holds. No conditions. -/
import Derived.Test.YtmboieajfdkllaaGreatU47
import Derived.Test.YtmboieajfdkllaaGreatU39
import Derived.Test.YtmboieajfdkllaaGreatU40
import Derived.Test.YtmboieajfdkllaaGreatU41
set_option maxHeartbeats 16000000
set_option maxRecDepth 100000
open Go.Proofs.Tryz
namespace Go.Proofs.YtmboieajfdkllaaGreat
open Go.RowKit Go.ChangeShapes Go.WideShapes Go.ChangeAt Go.Joins Go.Deep
open Go.ChangeMaps (open_string shut_string)
def bDk (x : Dk) : TyB := fun w v => ∃ Ap lp cp Ad ld cd, v = dkV Ap lp cp Ad ld cd /\ InD w (All w) x v
theorem JA {x : Dk} : ∀ w w' v, KB w w' -> bDk x w v -> bDk x w' v := fun _ _ _ hk ⟨Ap, lp, cp, Ad, ld, cd, e, h⟩ => ⟨Ap, lp, cp, Ad, ld, cd, e, h.now hk⟩
theorem Zz (d : Dk) (B E : Nat) (Ap Ad : Option Addr) (cp cd : Nat) (rs : List Raw) (fs : List FRaw) (w : World) (h : DOE w B E Ap cp rs Ad cd fs d) (hBw : B <= w.heap.size) (hs : Dk.size d <= 1048576) :
  Calls Tryz.prog 13 #[dkV Ap rs.length cp Ad fs.length cd, .int .i64 1] w fun e w' => e = .returned (.int .i64 (1 + (Dk.cntD d : Int))) /\ (∃ rs' fs', rs'.length = rs.length /\ fs'.length = fs.length /\ DOE w' B E Ap cp rs' Ad cd fs' (Dk.mkD 1 d)) /\ Below B w w' /\ Stay B E w w' :=
 Xr d B 1 1 Ap Ad cp cd rs fs E w rfl h hBw (by omega) (by have := Dk.cntD_size d; omega)
theorem yL (d : Dk) (v : Value) (w : World) (h : InD w (All w) (Dk.mkD 1 d) v) (hs : Dk.size d <= 1048576) :
  Calls Tryz.prog 14 #[v, .int .i64 1] w fun e w' => e = .returned (.int .i64 (1 + (Dk.cntD d : Int))) /\ Below w.heap.size w w' :=
 JE d 1 1 v w rfl h (by omega) (by have := Dk.cntD_size d; omega)
theorem VT (ps : List Tx) (base : Nat) (A : Option Addr) (c k : Nat) (w : World) (hown : OwnS w base A c ps) (hk : k <= 4294967296) (hl : ps.length <= 4294967296) :
  Calls Tryz.prog 20 #[.slice A ps.length c, .int .i64 (1 + (k : Int))] w fun e w' => e = .returned (.int .i64 (1 + (k : Int) + (ps.length : Int))) /\ OwnS w' base A c (zr (1 + k) ps.length) /\ w.grownBy w' (Value.ownBlock (.slice A ps.length c)) :=
 (KD ps base A c (1 + k) _ w (by omega) hown (by omega) (by omega)).mono fun _ _ ⟨h1, h2⟩ => ⟨by rw [h1]; exact qA (by omega), h2⟩
theorem VS (n : Nat) (A : Option Addr) (c k : Nat) (w : World) (hr : Rd w w.heap.size A (qS (zr (1 + k) n))) (hk : k <= 4294967296) (hl : n <= 4294967296) :
  Calls Tryz.prog 21 #[.slice A n c, .int .i64 (1 + (k : Int))] w fun e w' => e = .returned (.int .i64 (1 + (k : Int) + (n : Int))) /\ Below w.heap.size w w' := by
 have h1 : (1 + (k : Int)) = ((1 + k : Nat) : Int) := by omega
 rw [h1]
 exact (Kr n A c (1 + k) w hr (by omega) (by omega)).mono fun _ _ ⟨h1, h2⟩ => ⟨by rw [h1]; exact qA (by omega), h2⟩
theorem VR {w w' : World} {base c : Nat} {A : Option Addr} {xs : List Tx} (h : OwnS w base A c xs) (hk : ∀ g, Value.ownBlock (.slice A xs.length c) = some g -> w'.heap[g]? = w.heap[g]?) : OwnS w' base A c xs := zt h hk
theorem DOE.low {w : World} {B B' E cp cd : Nat} {Ap Ad : Option Addr} {rs : List Raw} {fs : List FRaw} {d : Dk} (h : DOE w B E Ap cp rs Ad cd fs d) (hb : B' <= B) : DOE w B' E Ap cp rs Ad cd fs d := by
 obtain ⟨L, hp, hf, h1, h2⟩ := h
 exact ⟨L, ⟨zC hp.own hb, hp.els, hp.nodup, fun j hj => Nat.le_trans hb (hp.rng j hj)⟩, hf.base hb, h1, h2⟩
theorem VO {w w' : World} {B : Nat} {A : Option Addr} {xs : List Value} (h : Rd w B A xs) (hb : Below B w w') (hB : B <= w.heap.size) : Rd w' w'.heap.size A xs := (h.below hb).more (Nat.le_trans hB hb.size)
theorem VW (a : Dk) (ls : List Tx) : Dk.Fit (Dk.runOf a ls).1 := Dk.fit_of (by have := Dk.runOf_size a ls; omega)
theorem VU (a : Dk) (ls : List Tx) (u : Value) (A0 : Option Addr) (c0 : Nat) (w : World) (hu : InD w (All w) a u) (hfa : Dk.Fit a) (hrd : Rd w w.heap.size A0 (qS ls)) (hfs : FitS ls) (hll : ls.length <= maxLen) (hm : Hm w) :
  Calls Tryz.prog 4 #[u, .slice A0 ls.length c0] w fun e w' => e = .returned (.bool true) /\ Below w.heap.size w w' := by
 obtain ⟨Ap, lp, cp, Ad, ld, cd, rfl⟩ : ∃ Ap lp cp Ad ld cd, u = dkV Ap lp cp Ad ld cd := by
  obtain ⟨Ap, cp, Ad, cd, e, _⟩ := hu
  exact ⟨Ap, _, cp, Ad, _, cd, e⟩
 have HLL := qb hll
 unfold maxLen at hll
 have hB0 := (Below.refl w.heap.size w).alloc (Nat.le_refl _) (.cells (qx Ap lp cp Ad ld cd) 25)
 have HB0 := qb hB0
 have HM := qb hm
 have HX0 := qb (heap_alloc_new w (.cells (qx Ap lp cp Ad ld cd) 25))
 have HU0 := qb (hu.now hB0)
 have HS1 := qb (XE a _ 1048576 _ HU0.out hfa (by omega) (by omega))
 have HRD := qb hrd
 have HFS := qb hfs
 have hzz : w.heap.size < (w.alloc (.cells (qx Ap lp cp Ad ld cd) 25)).heap.size := by simp
 clear hu hB0 hm hrd hfs
 by_cases hsa : (Dk.size a : Int) <= 1048576
 case neg =>
  rw [zl hsa] at HS1
  clear hsa
  go_enter func4, ntmps4
  go_wp2_with fail
  refine HS1.out.mono ?_
  rintro e w1 ⟨rfl, hb⟩
  have HB1 := qb (qa3 HB0.out hb)
  clear hb
  go_wp2
  go_ret
  exact ⟨rfl, HB1.out⟩
 rw [zL hsa] at HS1
 have hq0 : decide ((1048576 : Int) - (Dk.size a : Int) < 0) = false := by simp; omega
 have hA : Dk.size a <= 1048576 := by omega
 by_cases hfit : (ls.length : Int) + qR ls <= 1048576 - (Dk.size a : Int)
 case neg =>
  go_enter func4, ntmps4
  go_wp2_with fail
  refine HS1.out.mono ?_
  rintro e w1 ⟨rfl, hb⟩
  have HB1 := qb (qa3 HB0.out hb)
  have HS2 := qb (Kk ls A0 c0 (1048576 - (Dk.size a : Int)) w1 (VO HRD.out HB1.out (Nat.le_refl _)) HFS.out (by omega) (by omega) HLL.out (by omega))
  clear hb hfit hsa
  go_wp2_with fail
  refine HS2.out.mono ?_
  rintro e w2 ⟨rfl, rfl⟩
  go_wp2
  go_ret
  exact ⟨rfl, HB1.out⟩
 have hq1 : decide ((1048576 : Int) - (Dk.size a : Int) - (ls.length : Int) - (qR ls : Int) < 0) = false := by simp; omega
 have hl1 : ls.length <= 1048576 := by omega
 have HXL : Hid (∀ x ∈ ls, x.length <= 1048576) := fun x hx => vU hx (a := 0) (by omega)
 have HFA := qb hfa
 clear hfa
 have HSZ := qb (fun w3 (hr : Rd w3 w3.heap.size A0 (qS ls)) => Kj ls A0 c0 (1048576 - (Dk.size a : Int)) w3 hr (by omega) (by omega) HLL.out hfit)
 have HSP := qb (fun w3 u A c (hu : InD w3 (All w3) a u) (hr : Rd w3 w3.heap.size A (qS ls)) => VX a u ls A c w3 hu hA HXL.out hr (by omega))
 have HIM := qb (fun w3 u A c (hu : InD w3 (All w3) a u) (hr : Rd w3 w3.heap.size A (qS ls)) hm => VV a u ls A c w3 hu hA HXL.out hr (by omega) hm)
 have HFO := qb (VW a ls)
 have hO : Dk.size (Dk.runOf a ls).1 <= 1048576 := by have := Dk.runOf_size a ls; omega
 have hrl := Dk.runOf_len a ls
 clear hfit hsa hll
 generalize Dk.runOf a ls = r at *
 obtain ⟨rd, ra⟩ := r
 dsimp only at hO HFO hrl
 have hca := Dk.cntD_size a
 have hcr := Dk.cntD_size rd
 have hlm : ls.length <= 4294967296 := by omega
 have hca2 : Dk.cntD a <= 4294967296 := by omega
 have hcr2 : Dk.cntD rd <= 4294967296 := by omega
 have hrm : ra.length <= 4294967296 := by omega
 clear hca hcr
 have hcm : (1 + (Dk.cntD a : Int) + (ls.length : Int) < 0) = False := by rw [eq_iff_iff, iff_false]; omega
 have hco : (1 + (Dk.cntD rd : Int) < 0) = False := by rw [eq_iff_iff, iff_false]; omega
 have hcp : (1 + (Dk.cntD rd : Int) + (ra.length : Int) < 0) = False := by rw [eq_iff_iff, iff_false]; omega
 have hqq : ((1 + (Dk.cntD rd : Int) + (ra.length : Int)) != (1 + (Dk.cntD rd : Int) + (ra.length : Int))) = false := by simp
 have hraM : ra.length <= maxLen := by unfold maxLen; omega
 have hll2 : Hid (ls.length <= maxLen) := HLL.out
 have HRAM := qb hraM
 clear hraM
 have HER := qb (fun w9 A A' c c' (hp : Rd w9 w9.heap.size A (qS ra)) (hq : Rd w9 w9.heap.size A' (qS ra)) => (Kp ra ra A A' c c' w9 hp hq HRAM.out).mono (R' := fun e w' => e = .returned (.bool true) /\ Below w9.heap.size w9 w') (fun e w' h => by rw [beq_self_eq_true] at h; exact h))
 have HEL := qb (fun w9 A A' c c' (hp : Rd w9 w9.heap.size A (qS ls)) (hq : Rd w9 w9.heap.size A' (qS ls)) => (Kp ls ls A A' c c' w9 hp hq hll2.out).mono (R' := fun e w' => e = .returned (.bool true) /\ Below w9.heap.size w9 w') (fun e w' h => by rw [beq_self_eq_true] at h; exact h))
 have HEO := qb (fun w9 u v (hu : InD w9 (All w9) rd u) (hv : InD w9 (All w9) rd v) => (Zw rd u v w9 hu hv HFO.out))
 go_enter func4, ntmps4
 go_wp2_with fail
 refine HS1.out.mono ?_
 rintro e w1 ⟨rfl, hb⟩
 have HB1 := qb (qa3 HB0.out hb)
 have HX1 := qb (qi HX0.out hb)
 have HU1 := qb (HU0.out.now hb)
 have hz1 : w.heap.size < w1.heap.size := Nat.lt_of_lt_of_le hzz hb.size
 have HTA := qb (fun w3 (hb : Below w1.heap.size w1 w3) => Kg a _ w3 (HU1.out.now hb) hA)
 have HR1 := qb (VO HRD.out HB1.out (Nat.le_refl _))
 have HTL := qb (fun w3 (hb : Below w1.heap.size w1 w3) => Ko ls A0 c0 w3 (VO HR1.out hb (Nat.le_refl _)) hl1)
 have HSZ1 := qb (HSZ.out w1 HR1.out)
 have HTA1 := qb (HTA.out w1 (Below.refl _ _))
 clear hb HS1 HX0 HU0 hzz HSZ
 go_wp2_with fail
 refine HSZ1.out.mono ?_
 rintro e w1x ⟨rfl, rfl⟩
 obtain ⟨y0, y1, -⟩ := qr HX1.out
 clear HSZ1
 go_wp2_with fail
 refine HTA1.out.mono ?_
 rintro e w2 ⟨A2, c2, rs2, B2, d2, fs2, rfl, ho2, hb⟩
 have HI2 := qb ho2.inD
 have HB12 := qb hb
 have HTL2 := qb (HTL.out w2 hb)
 clear hb ho2 y0 y1 HTA1
 go_wp2_with fail
 refine HTL2.out.mono ?_
 rintro e w2x ⟨A2x, c2x, rfl, ho2x, hb⟩
 have HB12x := qb (qa3 HB12.out hb)
 have HSP2 := qb (HSP.out w2x _ _ c2x (HI2.out.now hb) (Rd.of_own ho2x))
 clear hb ho2x HTL2 HI2
 go_wp2_with fail
 refine HSP2.out.mono ?_
 rintro e w3 ⟨v3, A3, c3, rfl, hin3, ho3, hb⟩
 obtain ⟨A6, l6, c6, B6, m6, d6, rfl⟩ : ∃ Ap lp cp Ad ld cd, v3 = dkV Ap lp cp Ad ld cd := by
  obtain ⟨Ap, cp, Ad, cd, e, _⟩ := hin3
  exact ⟨Ap, _, cp, Ad, _, cd, e⟩
 have HA3 := qb ((Below.refl w3.heap.size w3).alloc (Nat.le_refl _) (.cells (qx A6 l6 c6 B6 m6 d6) 30))
 have HB13 := qb ((qa3 HB12x.out hb).trans (HA3.out.mono (qa3 HB12x.out hb).size))
 have HX3 := qb (qi HX1.out HB13.out)
 have HP3 := qb (heap_alloc_new w3 (.cells (qx A6 l6 c6 B6 m6 d6) 30))
 have HI3 := qb (hin3.now HA3.out)
 have HW3 := qb (Rd.of_own (jy ho3 HA3.out))
 have HTA3 := qb (HTA.out _ HB13.out)
 have hs3 : w3.heap.size + 1 <= (w3.alloc (.cells (qx A6 l6 c6 B6 m6 d6) 30)).heap.size := by simp
 have hz3 : w.heap.size < w3.heap.size := by have := HB12x.out.size; have := hb.size; omega
 have HB3 := qb (qa3 HB1.out HB13.out)
 obtain ⟨y0, y1, -⟩ := qr HX3.out
 clear hb hin3 ho3 HSP2 HA3 HX1 HB1 HB12 HB12x
 go_wp2_with fail
 generalize hW3 : w3.alloc (.cells (qx A6 l6 c6 B6 m6 d6) 30) = W3 at *
 clear hW3
 refine HTA3.out.mono ?_
 rintro e w4 ⟨A8, c8, rs8, B8, d8, fs8, rfl, ho4, hb⟩
 have HA4 := qb ((Below.refl w4.heap.size w4).alloc (Nat.le_refl _) (.cells (qx A8 rs8.length c8 B8 fs8.length d8) 30))
 have HB34 := qb (qa3 hb HA4.out)
 have HO4 := qb ho4
 have HO4i := qb (ho4.keep HA4.out).inD
 have HP4 := qb (heap_alloc_new w4 (.cells (qx A8 rs8.length c8 B8 fs8.length d8) 30))
 have hz4 : W3.heap.size <= w4.heap.size := hb.size
 have hs4 : w4.heap.size + 1 <= (w4.alloc (.cells (qx A8 rs8.length c8 B8 fs8.length d8) 30)).heap.size := by simp
 have HTL4 := qb (HTL.out _ (qa3 HB13.out HB34.out))
 have HB4 := qb HA4.out
 clear hb ho4 y0 y1 HTA3 HA4
 go_wp2_with fail
 generalize hW4 : w4.alloc (.cells (qx A8 rs8.length c8 B8 fs8.length d8) 30) = W4 at *
 clear hW4
 refine HTL4.out.mono ?_
 rintro e w5 ⟨A4, c4, rfl, ho5, hb⟩
 have HS5 := qb ho5
 have HXB : Hid (∀ g, Value.ownBlock (.slice A4 ls.length c4) = some g -> W4.heap.size <= g /\ g < w5.heap.size) := fun g hg => ho5.lt g hg
 have HB35 := qb (qa3 HB34.out hb)
 have HB45 := qb (qa3 HB4.out hb)
 have HP45 := qb (qi HP4.out hb)
 have hz45 : W4.heap.size <= w5.heap.size := hb.size
 have HM5 := qb (HM.out.below (qa3 HB3.out HB35.out))
 have HIM5 := qb (HIM.out _ _ _ c4 (HO4i.out.now hb) (Rd.of_own ho5) HM5.out)
 clear hb ho5 HTL4 HP4 HM5 HB34 HB4
 obtain ⟨y0, y1, -⟩ := qr HP45.out
 go_wp2_with fail
 refine HIM5.out.mono ?_
 rintro e w6 ⟨A9, c9, rs9, B9, d9, fs9, A7, c7, B, E, rfl, hB9, ho6, ht6, hsep, hb⟩
 have HA6 := qb ((Below.refl w6.heap.size w6).alloc (Nat.le_refl _) (.cells (qx A9 rs9.length c9 B9 fs9.length d9) 30))
 have HB56 := qb (qa3 hb HA6.out)
 have HB36 := qb (qa3 HB35.out HB56.out)
 have HB46 := qb (qa3 HB45.out HB56.out)
 have HS6 := qb (jy HS5.out HB56.out)
 have HG6 := qb (ho6.cut.keep HA6.out)
 have HGE : Hid (∃ B2 E2, w5.heap.size <= B2 /\ B2 <= w6.heap.size /\ E2 <= w6.heap.size /\ DOE (w6.alloc (.cells (qx A9 rs9.length c9 B9 fs9.length d9) 30)) B2 E2 A9 c9 rs9 B9 d9 fs9 rd /\ ∀ g, Value.ownBlock (.slice A7 ra.length c7) = some g -> g < B2 \/ E2 <= g) := ⟨min B w6.heap.size, min E w6.heap.size, by have := hb.size; omega, by omega, by omega, HG6.out.low (by omega), fun g hg => by have := hsep g hg; have := (ht6.lt g hg).2; omega⟩
 have HT6 := qb (jy ht6 HA6.out)
 have HTB : Hid (∀ g, Value.ownBlock (.slice A7 ra.length c7) = some g -> w5.heap.size <= g /\ g < w6.heap.size) := fun g hg => ht6.lt g hg
 have HP6 := qb (heap_alloc_new w6 (.cells (qx A9 rs9.length c9 B9 fs9.length d9) 30))
 have hz56 : w5.heap.size <= w6.heap.size := hb.size
 have hs6 : w6.heap.size + 1 <= (w6.alloc (.cells (qx A9 rs9.length c9 B9 fs9.length d9) 30)).heap.size := by simp
 have HE6 := qb (HEO.out _ _ _ HG6.out.ow.inD (HI3.out.now HB36.out))
 have HPX6 := qb (qi HP45.out HB56.out)
 have HPX6x := qb HPX6.out
 clear hb ho6 ht6 hsep hB9 HIM5 HG6 y0 y1 HP45 HS5 HB35 HB45 HO4i
 obtain ⟨y0, y1, -⟩ := qr HP6.out
 obtain ⟨p0, p1, -⟩ := qr (qi HP3.out HB36.out)
 go_wp2_with fail
 generalize hW6 : w6.alloc (.cells (qx A9 rs9.length c9 B9 fs9.length d9) 30) = W6 at *
 clear hW6
 obtain ⟨B2, E2, hB9, hB6, hE2, hG6, hsp⟩ := HGE.out
 have HG6 := qb hG6
 have HSE := qb hsp
 clear hG6 hsp HGE
 refine HE6.out.mono ?_
 rintro e w7 ⟨rfl, hb⟩
 have HB37 := qb (qa3 HB36.out hb)
 have HB67 := qb hb
 have HR7 := qb (HER.out w7 A7 A3 c7 c3 (Rd.of_own (jy HT6.out hb)) (VO HW3.out HB37.out (Nat.le_refl _)))
 clear hb HE6 y0 y1 p0 p1
 go_wp2_with fail
 refine HR7.out.mono ?_
 rintro e w8 ⟨rfl, hb⟩
 have HB68 := qb (qa3 HB67.out hb)
 have HB38 := qb (qa3 HB36.out HB68.out)
 have HB48 := qb (qa3 HB46.out HB68.out)
 have HP8 := qb (qi HP6.out HB68.out)
 have HPX8 := qb (qi HPX6.out HB68.out)
 have HX8 := qb (qi HX3.out HB38.out)
 have hz48 : w4.heap.size < w8.heap.size := lt_of_block HPX8.out
 have hz8 : w.heap.size < w8.heap.size := by omega
 have HB18 := qb (qa3 HB13.out HB38.out)
 have HTA8 := qb (fun w7 (hb : Below w8.heap.size w8 w7) => (HTA.out w7 (qa3 HB18.out hb)).mono (R' := fun e w8 => ∃ A l c B m d, e = .returned (dkV A l c B m d) /\ InD w8 (All w8) a (dkV A l c B m d) /\ Below w7.heap.size w7 w8) (fun e w8 ⟨A, c, rs, B, d, fs, h1, h2, h3⟩ => ⟨A, _, c, B, _, d, h1, h2.inD, h3⟩))
 have HI8 := qb (HO4.out.keep HB48.out).inD
 have HEA := qb (fun w7 v (hb : Below w8.heap.size w8 w7) (hv : InD w7 (All w7) a v) => Zw a _ v w7 (HI8.out.now hb) hv HFA.out)
 clear hb HR7 HB67 HB37 HPX6
 go_wp2_with fail
 refine qU 4 (by kernel_rfl) (by kernel_rfl) (fun _ w => Below (World.heap w8).size w8 w) KB (fun i => ([bIs (dkV A8 rs8.length c8 B8 fs8.length d8), bIs (dkV Ap lp cp Ad ld cd), bDk a, bIs (.bool true)] : List TyB).getD i bAny) ?hWbB1 ?hkeepB1 ?hstepB1 ?hfinbB1
 case hkeepB1 =>
  refine qg (qg (qg (qg qG ?_) ?_) ?_) ?_
  ·exact qj
  ·exact qj
  ·exact JA
  exact qj
 case hstepB1 =>
  refine qg (qg (qg (qg qG ?_) ?_) ?_) ?_
  all_goals (intro o ho m' a w1 hm' hW hb hd K Q hK; obtain rfl := Option.some.inj ho)
  ·(have e0 : a.tmps[8]?.getD undef = .pointer (some ⟨w4.heap.size, 0, none⟩) := (by rw [hb 8 (by decide +kernel)]; simp); have hbl := (hW.block _ hz48).trans HPX8.out; have q0 := cell_of_row w1 _ 0 _ _ _ hbl; have q1 := cell_of_row w1 _ 1 _ _ _ hbl; go_simp; exact hK _ _ hW (VY _) rfl)
  ·(have e0 : a.tmps[2]?.getD undef = .pointer (some ⟨w.heap.size, 0, none⟩) := (by rw [hb 2 (by decide +kernel)]; simp); have hbl := (hW.block _ hz8).trans HX8.out; have q0 := cell_of_row w1 _ 0 _ _ _ hbl; have q1 := cell_of_row w1 _ 1 _ _ _ hbl; go_simp; exact hK _ _ hW (VY _) rfl)
  ·(have e0 := qo (hd 1 (by kernel_rfl) 56 rfl); go_simp; refine (HTA8.out _ hW).mono ?_; rintro e w2 ⟨A9, l9, c9, B9, m9, d9, rfl, hin9, hb2⟩; exact hK _ _ (qa3 hW hb2) hb2 ⟨A9, l9, c9, B9, m9, d9, rfl, hin9⟩)
  (have e1 := qo (hd 0 (by kernel_rfl) 55 rfl); obtain ⟨A2, l2, c2, B2, m2, d2, e2, h2⟩ := (hd 2 (by kernel_rfl) 57 rfl); rw [e2] at h2; have e2 := qo e2; go_simp; refine (HEA.out _ _ hW h2).mono ?_; rintro e w2 ⟨rfl, hb2⟩; exact hK _ _ (qa3 hW hb2) hb2 rfl)
 case hWbB1 => exact (Below.refl _ _).drew
 intro vs w9 hW hF
 simp only [qF, hdst, List.getElem?_cons_succ, List.getElem?_cons_zero, Option.bind, List.drop_succ_cons, List.drop_zero, Act.put]
 have h3 : vs 3 = .bool true := hF 3 (by omega)
 rw [h3]
 have HB69 := qb (qa3 HB68.out hW)
 have HB39 := qb (qa3 HB36.out HB69.out)
 have HB19 := qb (qa3 HB13.out HB39.out)
 have HTL9 := qb (HTL.out _ HB19.out)
 clear hW hF h3 HTA8 HEA HB18 HX8 HPX8 HP8 HI8 HB68 HB38 HB48
 go_simp
 go_wp2_with fail
 refine HTL9.out.mono ?_
 rintro e w10 ⟨A10, c10, rfl, ho10, hb⟩
 have HB610 := qb (qa3 HB69.out hb)
 have HL10 := qb (HEL.out w10 A4 A10 c4 c10 (Rd.of_own (jy HS6.out HB610.out)) (Rd.of_own ho10))
 clear hb ho10 HTL9
 go_wp2_with fail
 refine HL10.out.mono ?_
 rintro e w11 ⟨rfl, hb⟩
 have HB611 := qb (qa3 HB610.out hb)
 have HB411 := qb (qa3 HB46.out HB611.out)
 have HB311 := qb (qa3 HB36.out HB611.out)
 have HM11 := qb (Zz a W3.heap.size w4.heap.size A8 B8 c8 d8 rs8 fs8 w11 (HO4.out.toE.keep HB411.out) HB311.out.size hA)
 have HX11 := qb (jy HS6.out HB611.out)
 have HT11 := qb (jy HT6.out HB611.out)
 have HP11 := qb (qi HP6.out HB611.out)
 have HG11 := qb (HG6.out.keep HB611.out)
 obtain ⟨q0, q1, -⟩ := qr (qi HPX6x.out HB611.out)
 have hz11 : W6.heap.size <= w11.heap.size := HB611.out.size
 clear hb HL10 HB610 HB39 HB19 HB69 HS6 HT6 HP6 HG6 HPX6x HB411
 go_wp2_with fail
 refine HM11.out.mono ?_
 rintro e w12 ⟨rfl, -, hb12, hst⟩
 have HB312 := qb (HB311.out.trans hb12)
 have HX12 := qb (VR HX11.out (fun g hg => hst.2 g (HX11.out.lt g hg).2 (.inr (by have := HXB.out g hg; omega))))
 have HT12 := qb (VR HT11.out (fun g hg => hst.2 g (HT11.out.lt g hg).2 (.inr (by have := HTB.out g hg; omega))))
 have HG12 := qb (HG11.out.at (fun j h1 _ h2 => hst.2 j h2 (.inr (by omega))))
 have HP12 := qb ((hst.2 w6.heap.size (by omega) (.inr (by omega))).trans HP11.out)
 have hz12 : W6.heap.size <= w12.heap.size := Nat.le_trans hz11 hst.1
 have HM12 := qb (VT ls W4.heap.size A4 c4 (Dk.cntD a) w12 HX12.out hca2 hlm)
 clear hb12 hst HM11 HX11 HT11 HG11 HP11 HB311 q0 q1
 go_wp2_with fail
 refine HM12.out.mono ?_
 rintro e w13 ⟨rfl, -, hg⟩
 have HB313 := qb (HB312.out.trans (zo hg HB312.out.size (fun g hg => by have := HXB.out g hg; omega)))
 have hne : ∀ j, w5.heap.size <= j -> some j ≠ Value.ownBlock (.slice A4 ls.length c4) := fun j hj e => by have := HXB.out j e.symm; omega
 have HT13 := qb (VR HT12.out (fun g h => hg.block g (HT12.out.lt g h).2 (hne g (HTB.out g h).1)))
 have HG13 := qb (HG12.out.at (fun j h1 _ h2 => hg.block j h2 (hne j (by omega))))
 have HP13 := qb ((hg.block w6.heap.size (by omega) (hne _ (by omega))).trans HP12.out)
 have hz13 : W6.heap.size <= w13.heap.size := Nat.le_trans hz12 hg.size
 have HE13 := qb (HEO.out _ _ _ HG13.out.ow.inD (HI3.out.now HB313.out))
 clear hg hne HM12 HX12 HT12 HG12 HP12 HB312
 obtain ⟨y0, y1, -⟩ := qr HP13.out
 obtain ⟨p0, p1, -⟩ := qr (qi HP3.out HB313.out)
 go_wp2_with fail
 refine HE13.out.mono ?_
 rintro e w14 ⟨rfl, hb⟩
 have HB314 := qb (qa3 HB313.out hb)
 have HB134 := qb hb
 have HR14 := qb (HER.out w14 A7 A3 c7 c3 (Rd.of_own (jy HT13.out hb)) (VO HW3.out HB314.out (Nat.le_refl _)))
 clear hb HE13 y0 y1 p0 p1
 go_wp2_with fail
 refine HR14.out.mono ?_
 rintro e w15 ⟨rfl, hb⟩
 have HB135 := qb (qa3 HB134.out hb)
 have HB315 := qb (qa3 HB313.out HB135.out)
 have HT15 := qb (jy HT13.out HB135.out)
 have HG15 := qb (HG13.out.keep HB135.out)
 have HP15 := qb (qi HP13.out HB135.out)
 have hz15 : W6.heap.size <= w15.heap.size := Nat.le_trans hz13 HB135.out.size
 have hBE : B2 <= w15.heap.size := by omega
 have HM15 := qb (Zz rd B2 E2 A9 B9 c9 d9 rs9 fs9 w15 HG15.out hBE hO)
 clear hb HR14 HB134 HB135 HB314 HB313 HT13 HG13 HP13
 obtain ⟨q0, q1, -⟩ := qr HP15.out
 go_wp2_with fail
 refine HM15.out.mono ?_
 rintro e w16 ⟨rfl, ⟨rs16, fs16, hl1, hl2, ho16⟩, hb16, hst⟩
 have HB316 := qb (HB315.out.trans (hb16.mono (by omega)))
 have HT16 := qb (VR HT15.out (fun g hg => hst.2 g (HT15.out.lt g hg).2 (HSE.out g hg)))
 have HP16 := qb ((hst.2 w6.heap.size (lt_of_block HP15.out) (.inr hE2)).trans HP15.out)
 have HG16 := qb ho16
 have hz16 : W6.heap.size <= w16.heap.size := Nat.le_trans hz15 hst.1
 have HM16 := qb (VT ra w5.heap.size A7 c7 (Dk.cntD rd) w16 HT16.out hcr2 hrm)
 have HL1 := qb hl1
 have HL2 := qb hl2
 clear hb16 hst ho16 HM15 HT15 HG15 HP15 q0 q1 hl1 hl2
 go_wp2_with fail
 refine HM16.out.mono ?_
 rintro e w17 ⟨rfl, ht17, hg⟩
 have HT17 := qb ht17
 have HB317 := qb (HB316.out.trans (zo hg HB316.out.size (fun g hg => by have := HTB.out g hg; omega)))
 have HG17 := qb (HG16.out.at (fun j h1 h3 h2 => hg.block j h2 (fun e => by have := HSE.out j e.symm; omega)))
 have HP17 := qb ((hg.block w6.heap.size (by omega) (fun e => by have := HTB.out _ e.symm; omega)).trans HP16.out)
 have hi17 := HG17.out.ow.inD
 rw [HL1.out, HL2.out] at hi17
 have HI17 := qb hi17
 have HH17 := qb (yL rd _ w17 hi17 hO)
 clear ht17 hg hi17 HM16 HT16 HG16 HP16 HB315 HB316 HG17
 obtain ⟨y0, y1, -⟩ := qr HP17.out
 go_wp2_with fail
 refine HH17.out.mono ?_
 rintro e w18 ⟨rfl, hb⟩
 have HB178 := qb hb
 have HH18 := qb (VS ra.length A7 c7 (Dk.cntD rd) w18 (Rd.of_own (jy HT17.out hb)) hcr2 hrm)
 clear hb HH17 y0 y1
 go_wp2_with fail
 refine HH18.out.mono ?_
 rintro e w19 ⟨rfl, hb⟩
 have HB179 := qb (qa3 HB178.out hb)
 have HB319 := qb (qa3 HB317.out HB179.out)
 have HB119 := qb (qa3 HB13.out HB319.out)
 have HTA19 := qb (HTA.out w19 HB119.out)
 obtain ⟨q0, q1, -⟩ := qr (qi HX3.out HB319.out)
 clear hb HH18 HB178
 go_wp2_with fail
 refine HTA19.out.mono ?_
 rintro e w20 ⟨A20, c20, rs20, B20, d20, fs20, rfl, ho20, hb⟩
 have HI20 := qb ho20.inD
 have HB920 := qb hb
 have HTL20 := qb (HTL.out _ (qa3 HB119.out hb))
 clear hb ho20 HTA19 q0 q1
 go_wp2_with fail
 refine HTL20.out.mono ?_
 rintro e w21 ⟨A21, c21, rfl, ho21, hb⟩
 have HB921 := qb (qa3 HB920.out hb)
 have HM21 := qb (HM.out.below (HB3.out.trans ((qa3 HB319.out HB921.out).mono HB3.out.size)))
 have HIM21 := qb (HIM.out w21 _ _ c21 (HI20.out.now hb) (Rd.of_own ho21) HM21.out)
 clear hb ho21 HTL20 HI20 HB920
 go_wp2_with fail
 refine HIM21.out.mono ?_
 rintro e w22 ⟨A22, c22, rs22, B22, d22, fs22, A23, c23, Bb, Eb, rfl, -, ho22, ht22, -, hb⟩
 have HA22 := qb ((Below.refl w22.heap.size w22).alloc (Nat.le_refl _) (.cells (qx A22 rs22.length c22 B22 fs22.length d22) 30))
 have HB922 := qb (HB921.out.trans ((qa3 hb HA22.out).mono HB921.out.size))
 have HB322 := qb (qa3 HB319.out HB922.out)
 have HB172 := qb (qa3 HB179.out HB922.out)
 have HT22 := qb (jy ht22 HA22.out)
 have HE22 := qb (HEO.out _ _ _ (ho22.ow.inD.now HA22.out) (HI3.out.now HB322.out))
 obtain ⟨y0, y1, -⟩ := qr (heap_alloc_new w22 (.cells (qx A22 rs22.length c22 B22 fs22.length d22) 30))
 obtain ⟨p0, p1, -⟩ := qr (qi HP3.out HB322.out)
 clear hb ho22 ht22 HIM21 HB921 HA22
 go_wp2_with fail
 generalize hW22 : w22.alloc (.cells (qx A22 rs22.length c22 B22 fs22.length d22) 30) = W22 at *
 clear hW22
 refine HE22.out.mono ?_
 rintro e w23 ⟨rfl, hb⟩
 have HB223 := qb hb
 have HB323 := qb (qa3 HB322.out hb)
 have HR23 := qb (HER.out w23 A23 A3 c23 c3 (Rd.of_own (jy HT22.out hb)) (VO HW3.out HB323.out (Nat.le_refl _)))
 clear hb HE22 y0 y1 p0 p1
 go_wp2_with fail
 refine HR23.out.mono ?_
 rintro e w24 ⟨rfl, hb⟩
 have HB224 := qb (qa3 HB223.out hb)
 have HB174 := qb (qa3 HB172.out HB224.out)
 have HB324 := qb (qa3 HB317.out HB174.out)
 have HH24 := qb (yL rd _ w24 (HI17.out.now HB174.out) hO)
 obtain ⟨q0, q1, -⟩ := qr (qi HP17.out HB174.out)
 clear hb HR23
 go_wp2_with fail
 refine HH24.out.mono ?_
 rintro e w25 ⟨rfl, hb⟩
 have HB175 := qb (qa3 HB174.out hb)
 have HH25 := qb (VS ra.length A7 c7 (Dk.cntD rd) w25 (Rd.of_own (jy HT17.out HB175.out)) hcr2 hrm)
 clear hb HH24 q0 q1
 go_wp2_with fail
 refine HH25.out.mono ?_
 rintro e w26 ⟨rfl, hb⟩
 have HB176 := qb (qa3 HB175.out hb)
 have HB26 := qb (HB3.out.trans ((qa3 HB317.out HB176.out).mono HB3.out.size))
 clear hb
 go_wp2
 go_ret
 exact ⟨rfl, HB26.out⟩
theorem fnExactDeskRun_lifted (os : Os) (started : os.Started) (H : Type) (enc : TypeId × Value -> H) :
  ReturnsInHanded {} Tryz.checked os 4 .any (Rows.fnExactDeskRunSpec.pre6 enc Tryz.prog Tryz.f4 Rows.fnExactDeskRunRow.domain false)
   (Rows.fnExactDeskRunSpec.post enc Tryz.prog Tryz.f4 false true false false) := by
 refine VC (C := Tryz.checked) Tryz.own started (by kernel_rfl) func4
  (ChangeSpec.witness6 (enc := enc) (C := Tryz.checked) false ⟨#[], #[.agg #[.slice none 0 0, .slice none 0 0], .slice none 0 0], []⟩ 8 (by kernel_rfl) (by kernel_rfl) (by kernel_rfl) (by kernel_rfl)) ?_
 intro W base args ds gs before hval0 hW _ hsh _
 have hval : ∀ (j : Nat) t v, Tryz.f4.params[j]? = some t -> args[j]? = some v -> Value.okWide Tryz.prog W .any base t v := hval0
 have hW' := hW
 obtain ⟨p, q, hA0, hV, rfl, _, _⟩ := hW
 have hA : DataW.TrodAll enc Tryz.prog W 0 (fun _ => true) true Tryz.f4.params.toList args.toList ds p := hA0
 rw [Tryz.params4] at hA hval
 obtain ⟨v0, v1, d0, d1, p0, p1, rfl, rfl, rfl, h0, h1⟩ := trodAll_two hA
 obtain ⟨rfl, rfl⟩ := trodVars_none hV
 obtain ⟨a, hu, hfa⟩ := KF underlying25 (by kernel_rfl) (by kernel_rfl) underlying22 underlying23 underlying103 (by kernel_rfl) (by kernel_rfl) underlying3 underlying9 underlying9 underlying22 underlying22 underlying105 (by kernel_rfl) (by kernel_rfl) underlying9 underlying9 underlying4 underlying37 underlying9 (by kernel_rfl) (hval 0 _ v0 rfl rfl) h0
 obtain ⟨a0, len0, cap0, rfl⟩ := okWide_slice underlying37 (hval 1 _ v1 rfl rfl)
 obtain ⟨fuel, hf1⟩ := h1
 obtain ⟨A0, c0, ls, he, hrd, hfs, hlc, hcm⟩ := Vy (v := .slice a0 len0 cap0) (n0 := fuel) underlying37 underlying9 (by kernel_rfl) (by simpa [Value.cells] using hf1)
 injection he with e1 e2 e3
 subst e1 e2 e3
 refine (VU a ls _ a0 cap0 W hu hfa hrd hfs (Nat.le_trans hlc hcm) (KW hsh)).mono fun e W' ⟨he, hw⟩ => ?_
 subst he
 exact ⟨_, rfl, VK hW' rfl rfl (by kernel_rfl) underlying4 Tryz.laidOut (of_decide_eq_true (by kernel_rfl)) hw⟩
theorem fnExactDeskRun_holds : Rows.FnExactDeskRunSaid :=
 OpenClaim.holds_of_wide 4 Tryz.f4 rfl rfl rfl rfl rfl rfl rfl ⟨rfl, rfl, rfl, rfl, rfl⟩ rfl rfl rfl rfl rfl (by kernel_rfl) func4 (by kernel_rfl)
  (of_decide_eq_true (by kernel_rfl)) (by unfold Func.isWrapper; first | (rw [if_pos (by decide +kernel)]; kernel_rfl) | (rw [if_neg (by decide +kernel)]; exact ⟨rfl, rfl⟩))
  (fun os started H enc _ => fnExactDeskRun_lifted os started H enc)
#print axioms fnExactDeskRun_holds
end Go.Proofs.YtmboieajfdkllaaGreat
