import Derived.Test.YtmboieajfdkllaaGreatQ37
import Derived.Deep.RegionHeld3
namespace Go.Proofs.YtmboieajfdkllaaGreat
open Go.RowKit Go.Deep
def HdC (xs : List Pt) : Prop := ∀ (A : Option Addr) (c k : Nat) (z : Int) (w : World), z = (k : Int) -> RdP w (All w) A (Pt.mkNs k xs) -> 0 < k -> k + Pt.cntMs xs <= 4611686018427387904 →
 Calls Tryz.prog 55 #[.slice A xs.length c, .int .i64 z] w fun e w' => e = .returned (.int .i64 ((k : Int) + (Pt.cntMs xs : Int))) /\ Below w.heap.size w w'
set_option maxRecDepth 100000 in
set_option maxHeartbeats 8000000 in
theorem kE (xs : List Pt) (ih : ∀ x ∈ xs, HdC x.parts /\ HdC x.other) : HdC xs := by
 intro A c k z w hz hx hk0 hkn
 subst hz
 have IH := qb ih
 have HX := qb hx
 have hxl : xs.length <= 4611686018427387904 := by have := Pt.cntMs_len xs; omega
 clear ih hx
 go_enter Tryz.func55, Tryz.ntmps55
 go_wp2
 go_loopw [1, 5] (fun m i wr => ∃ (j : Nat), j <= xs.length /\ i = .int .i64 j /\ m = .int .i64 ((k : Int) + (Pt.cntMs (xs.take j) : Int)) /\ Below w.heap.size w wr) (fun _ i _ => xs.length - (intOf i).toNat)
 case atStart => exact ⟨0, Nat.zero_le _, rfl, by simp [Pt.cntMs], Below.refl _ _⟩
 case round =>
  obtain ⟨j, hj, rfl, rfl, hb⟩ := hrel
  have HB := qb hb
  clear hb
  by_cases hlt : j < xs.length
  ·obtain ⟨b1, o1, hA1, hb1, kd, tt, nn, us, vs, Ap, cp, Ao, co, hxj, k1, k2, hrp, hro, c0, c1, c2, c3, c4⟩ := (HX.out.now HB.out).at2 (k := j) (by rw [Pt.mkNs_len]; exact hlt)
   rw [Pt.mkNs_get k xs j hlt] at hxj
   have HCT := qb (Pt.cntMs_take xs j hlt)
   have hle := Pt.cntMs_take_le xs (j + 1)
   rw [HCT.out] at hle
   have IHX := qb (IH.out xs[j] (List.getElem_mem hlt))
   generalize xs[j] = x at *
   cases x with
   | mk kd0 tt0 nn0 us0 vs0 =>
   simp only [Pt.cntM, Pt.parts, Pt.other] at hle HCT IHX
   rw [Pt.mkN] at hxj
   generalize Pt.cntMs (xs.take j) = ct at *
   injection hxj with q1 q2 q3 q4 q5
   have q1' : kd = (k : Int) + (ct : Int) := by omega
   subst q1' q2 q3 q4 q5 hA1
   rw [Pt.mkNs_len] at c3 c4
   have HC1 := qb c1
   have HC2 := qb c2
   have HC3 := qb c3
   have HC4 := qb c4
   have HRP := qb hrp
   have HRO := qb hro
   have hbw : b1 < wr.heap.size := hb1
   clear hrp hro c1 c2 c3 c4 k1 k2 q1
   go_wp2_with fail
   go_region_held3 (fun w' => w'.cell? ⟨b1, o1 + j * 5 + 1, none⟩ = some (sv (qL (k + ct + 1)))) (first | exact HC1.out | exact (hb1.cell (p := ⟨b1, o1 + j * 5 + 1, none⟩) hbw).trans HC1.out)
    (first | (go_at_call 57; refine (je (k + ct + 1) _ (by omega) (by omega) (by omega) _).mono ?_; rintro e w1 ⟨rfl, hb1⟩))
   have hbd : Below wr.heap.size wr w1 := (Below.refl _ wr).drew.trans hb1
   have HB1 := qb (HB.out.trans (hbd.mono HB.out.size))
   have HRP1 := qb (HRP.out.now hbd)
   have HRO1 := qb (HRO.out.now hbd)
   have hbw1 : b1 < w1.heap.size := Nat.lt_of_lt_of_le hbw hbd.size
   have HD2 := qb ((hbd.cell (p := ⟨b1, o1 + j * 5 + 2, none⟩) hbw).trans HC2.out)
   have HD3 := qb ((hbd.cell (p := ⟨b1, o1 + j * 5 + 3, none⟩) hbw).trans HC3.out)
   have HD4 := qb ((hbd.cell (p := ⟨b1, o1 + j * 5 + 4, none⟩) hbw).trans HC4.out)
   clear hb1 hbd c0 HC1 HC2 HC3 HC4 HRP HRO
   go_wp2_with fail
   go_region_held3 (fun w' => w'.cell? ⟨b1, o1 + j * 5 + 2, none⟩ = some (sv (qL (k + ct + 2)))) (first | exact HD2.out | exact (hb1.cell (p := ⟨b1, o1 + j * 5 + 2, none⟩) hbw1).trans HD2.out)
    (first | (go_at_call 57; refine (je (k + ct + 2) _ (by omega) (by omega) (by omega) _).mono ?_; rintro e w2 ⟨rfl, hb1⟩))
   have hbd : Below w1.heap.size w1 w2 := (Below.refl _ w1).drew.trans hb1
   have HB2 := qb (HB1.out.trans (hbd.mono HB1.out.size))
   have HRP2 := qb (HRP1.out.now hbd)
   have HRO2 := qb (HRO1.out.now hbd)
   have hbw2 : b1 < w2.heap.size := Nat.lt_of_lt_of_le hbw1 hbd.size
   have d3 := (hbd.cell (p := ⟨b1, o1 + j * 5 + 3, none⟩) hbw1).trans HD3.out
   have HE4 := qb ((hbd.cell (p := ⟨b1, o1 + j * 5 + 4, none⟩) hbw1).trans HD4.out)
   clear hb1 hbd HD2 HD3 HD4 HRP1 HRO1
   go_wp2_with fail
   refine (IHX.out.1 Ap cp (k + ct + 3) _ w2 (by omega) HRP2.out (by omega) (by omega)).mono ?_
   rintro e w3 ⟨rfl, hb3⟩
   have HB3 := qb (HB2.out.trans (hb3.mono HB2.out.size))
   have HRO3 := qb (HRO2.out.now hb3)
   have d4 := (hb3.cell (p := ⟨b1, o1 + j * 5 + 4, none⟩) hbw2).trans HE4.out
   have hnn2 : (((k + ct + 3 : Nat) : Int) + (Pt.cntMs us0 : Int) < 0) = False := by rw [eq_iff_iff, iff_false]; omega
   clear hb3 d3
   go_wp2_with fail
   refine (IHX.out.2 Ao co (k + ct + 3 + Pt.cntMs us0) _ w3 (by omega) HRO3.out (by omega) (by omega)).mono ?_
   rintro e w4 ⟨rfl, hb3⟩
   have HB4 := qb (HB3.out.trans (hb3.mono HB3.out.size))
   have hm : ((k + ct + 3 + Pt.cntMs us0 : Nat) : Int) + (Pt.cntMs vs0 : Int) = (k : Int) + ((ct + (3 + Pt.cntMs us0 + Pt.cntMs vs0) : Nat) : Int) := by omega
   rw [hm]
   rw [<- HCT.out]
   have hm2 : ((k : Int) + (Pt.cntMs (xs.take (j + 1)) : Int) < 0) = False := by rw [eq_iff_iff, iff_false]; omega
   have hm3 : ¬ ((k : Int) + (Pt.cntMs (xs.take (j + 1)) : Int) < 0) := by omega
   clear hb3 d4 hnn2 hm
   go_wp2
   go_roundw
   case rel => exact ⟨j + 1, by omega, by go_num, rfl, HB4.out⟩
   case measure => simp [intOf]; omega
  ·have hjx : xs.take j = xs := List.take_of_length_le (by omega)
   go_wp2
   go_ret
   exact ⟨qA (by rw [hjx]), HB.out⟩
theorem Xi (x : Pt) : HdC x.parts /\ HdC x.other := by
 induction x using Pt.ind with
 | h k t n xs ys ih1 ih2 => exact ⟨kE xs ih1, kE ys ih2⟩
theorem Xj (xs : List Pt) : HdC xs := kE xs (fun x _ => Xi x)
theorem QQ (n : Nat) (A : Option Addr) (c k : Nat) (z : Int) (w : World) (hz : z = (k : Int)) (hr : RdIn w (All w) A (qS (zr k n))) (hk0 : 0 < k) (hkn : k + n <= 4611686018427387904) :
  Calls Tryz.prog 21 #[.slice A n c, .int .i64 z] w fun e w' => e = .returned (.int .i64 ((k : Int) + (n : Int))) /\ Below w.heap.size w w' := by
 subst hz
 exact (Kr n A c k w (hr.rd (fun _ h => h)) hk0 hkn).mono fun _ _ ⟨h1, h2⟩ => ⟨by rw [h1]; exact qA (by omega), h2⟩
set_option maxRecDepth 100000 in
set_option maxHeartbeats 8000000 in
theorem JJ (xs : List Fd) (A : Option Addr) (c k : Nat) (z : Int) (w : World) (hz : z = (k : Int)) (hx : RdF w (All w) A (Fd.mkNs k xs)) (hk0 : 0 < k) (hkn : k + Fd.cntMs xs <= 4611686018427387904) :
  Calls Tryz.prog 56 #[.slice A xs.length c, .int .i64 z] w fun e w' => e = .returned (.int .i64 ((k : Int) + (Fd.cntMs xs : Int))) /\ Below w.heap.size w w' := by
 subst hz
 have HX := qb hx
 have hxl : xs.length <= 4611686018427387904 := by have := Fd.cntMs_len xs; omega
 clear hx
 go_enter Tryz.func56, Tryz.ntmps56
 go_wp2
 go_loopw [1, 5] (fun m i wr => ∃ (j : Nat), j <= xs.length /\ i = .int .i64 j /\ m = .int .i64 ((k : Int) + (Fd.cntMs (xs.take j) : Int)) /\ Below w.heap.size w wr) (fun _ i _ => xs.length - (intOf i).toNat)
 case atStart => exact ⟨0, Nat.zero_le _, rfl, by simp [Fd.cntMs], Below.refl _ _⟩
 case round =>
  obtain ⟨j, hj, rfl, rfl, hb⟩ := hrel
  have HB := qb hb
  clear hb
  by_cases hlt : j < xs.length
  ·obtain ⟨b1, o1, hA1, hb1, nn, tt, hh, is, Ai, ci, hxj, hri, k2, c0, c1, c2, c3⟩ := (HX.out.now HB.out).at2 (k := j) (by rw [Fd.mkNs_len]; exact hlt)
   rw [Fd.mkNs_get k xs j hlt] at hxj
   have HCT := qb (Fd.cntMs_take xs j hlt)
   have hle := Fd.cntMs_take_le xs (j + 1)
   rw [HCT.out] at hle
   generalize xs[j] = x at *
   obtain ⟨nn0, tt0, hh0, is0⟩ := x
   simp only [Fd.cntM] at hle HCT
   rw [Fd.mkN] at hxj
   generalize Fd.cntMs (xs.take j) = ct at *
   injection hxj with q1 q2 q3 q4
   dsimp only at q4
   subst q1 q2 q3 q4 hA1
   rw [ja] at c3
   have H33 : Hid ((((k : Int) + (ct : Int) + 1 + 1) % 3 == 0) = Fd.third (k + ct + 2)) := by
    show _ = _
    unfold Fd.third
    rw [Bool.eq_iff_iff, decide_eq_true_eq, beq_iff_eq]
    omega
   have HC0 := qb c0
   have HC1 := qb c1
   have HC2 := qb c2
   have HC3 := qb c3
   have HRI := qb hri
   have hbw : b1 < wr.heap.size := hb1
   clear hri c0 c1 c2 c3 k2
   go_wp2_with fail
   go_region_held3 (fun w' => w'.cell? ⟨b1, o1 + j * 4, none⟩ = some (sv (qL (k + ct)))) (first | exact HC0.out | exact (hb1.cell (p := ⟨b1, o1 + j * 4, none⟩) hbw).trans HC0.out)
    (first | (go_at_call 57; refine (je (k + ct) _ (by omega) (by omega) (by omega) _).mono ?_; rintro e w1 ⟨rfl, hb1⟩))
   have hbd : Below wr.heap.size wr w1 := (Below.refl _ wr).drew.trans hb1
   have HB1 := qb (HB.out.trans (hbd.mono HB.out.size))
   have HRI1 := qb (HRI.out.keep (fun _ hp => hbd.cell hp) (fun _ h => Nat.lt_of_lt_of_le h hbd.size))
   have hbw1 : b1 < w1.heap.size := Nat.lt_of_lt_of_le hbw hbd.size
   have HD1 := qb ((hbd.cell (p := ⟨b1, o1 + j * 4 + 1, none⟩) hbw).trans HC1.out)
   have HD2 := qb ((hbd.cell (p := ⟨b1, o1 + j * 4 + 2, none⟩) hbw).trans HC2.out)
   have HD3 := qb ((hbd.cell (p := ⟨b1, o1 + j * 4 + 3, none⟩) hbw).trans HC3.out)
   clear hb1 hbd HC0 HC1 HC2 HC3 HRI
   go_wp2_with fail
   go_region_held3 (fun w' => w'.cell? ⟨b1, o1 + j * 4 + 1, none⟩ = some (sv (qL (k + ct + 1)))) (first | exact HD1.out | exact (hb1.cell (p := ⟨b1, o1 + j * 4 + 1, none⟩) hbw1).trans HD1.out)
    (first | (go_at_call 57; refine (je (k + ct + 1) _ (by omega) (by omega) (by omega) _).mono ?_; rintro e w2 ⟨rfl, hb1⟩))
   have hbd : Below w1.heap.size w1 w2 := (Below.refl _ w1).drew.trans hb1
   have HB2 := qb (HB1.out.trans (hbd.mono HB1.out.size))
   have HRI2 := qb (HRI1.out.keep (fun _ hp => hbd.cell hp) (fun _ h => Nat.lt_of_lt_of_le h hbd.size))
   have hbw2 : b1 < w2.heap.size := Nat.lt_of_lt_of_le hbw1 hbd.size
   have d2 := (hbd.cell (p := ⟨b1, o1 + j * 4 + 2, none⟩) hbw1).trans HD2.out
   have d3 := (hbd.cell (p := ⟨b1, o1 + j * 4 + 3, none⟩) hbw1).trans HD3.out
   rw [<- H33.out] at d2
   clear hb1 hbd HD1 HD2 HD3 HRI1
   go_wp2_with fail
   refine (QQ is0.length Ai ci (k + ct + 3) _ w2 (by omega) HRI2.out (by omega) (by omega)).mono ?_
   rintro e w3 ⟨rfl, hb3⟩
   have HB3 := qb (HB2.out.trans (hb3.mono HB2.out.size))
   have hm : ((k + ct + 3 : Nat) : Int) + (is0.length : Int) = (k : Int) + ((ct + (3 + is0.length) : Nat) : Int) := by omega
   rw [hm]
   rw [<- HCT.out]
   have hm2 : ((k : Int) + (Fd.cntMs (xs.take (j + 1)) : Int) < 0) = False := by rw [eq_iff_iff, iff_false]; omega
   have hm3 : ¬ ((k : Int) + (Fd.cntMs (xs.take (j + 1)) : Int) < 0) := by omega
   clear hb3 hm d2 d3
   go_wp2
   go_roundw
   case rel => exact ⟨j + 1, by omega, by go_num, rfl, HB3.out⟩
   case measure => simp [intOf]; omega
  ·have hjx : xs.take j = xs := List.take_of_length_le (by omega)
   go_wp2
   go_ret
   exact ⟨qA (by rw [hjx]), HB.out⟩
set_option maxRecDepth 100000 in
set_option maxHeartbeats 4000000 in
theorem JE (d : Dk) (k : Nat) (z : Int) (v : Value) (w : World) (hz : z = (k : Int)) (h : InD w (All w) (Dk.mkD k d) v) (hk0 : 0 < k) (hkn : k + Dk.cntD d <= 4611686018427387904) :
  Calls Tryz.prog 14 #[v, .int .i64 z] w fun e w' => e = .returned (.int .i64 ((k : Int) + (Dk.cntD d : Int))) /\ Below w.heap.size w w' := by
 subst hz
 obtain ⟨ps, xs⟩ := d
 obtain ⟨Ap, cp, Ad, cd, rfl, hp, -, hf, -⟩ := h
 unfold Dk.mkD at hp hf ⊢
 dsimp only at hp hf ⊢
 rw [Pt.mkNs_len, Fd.mkNs_len]
 unfold Dk.cntD at hkn
 dsimp only at hkn
 have HE : Hid ((Dk.cntD ⟨ps, xs⟩ : Int) = (Pt.cntMs ps : Int) + (Fd.cntMs xs : Int)) := by show _ = _; unfold Dk.cntD; dsimp only; omega
 have hA0 := (Below.refl w.heap.size w).alloc (Nat.le_refl _) (.cells (qx Ap ps.length cp Ad xs.length cd) 30)
 have HX0 := qb (heap_alloc_new w (.cells (qx Ap ps.length cp Ad xs.length cd) 30))
 have HP0 := qb (hp.now hA0)
 have HF0 := qb (hf.now hA0)
 have HB0 := qb hA0
 clear hp hf hA0
 go_enter Tryz.func14, Tryz.ntmps14
 obtain ⟨x0, x1, -⟩ := qr HX0.out
 go_wp2_with fail
 generalize w.alloc (.cells (qx Ap ps.length cp Ad xs.length cd) 30) = w0 at *
 refine (Xj ps Ap cp k _ w0 rfl HP0.out hk0 (by omega)).mono ?_
 rintro e w1 ⟨rfl, hb⟩
 have HB1 := qb (HB0.out.trans (hb.mono HB0.out.size))
 have HF1 := qb (HF0.out.now hb)
 have HX1 := qb (qi HX0.out hb)
 have hnn : ((k : Int) + (Pt.cntMs ps : Int) < 0) = False := by rw [eq_iff_iff, iff_false]; omega
 clear hb x0 x1
 obtain ⟨x0, x1, -⟩ := qr HX1.out
 go_wp2_with fail
 refine (JJ xs Ad cd (k + Pt.cntMs ps) _ w1 (by omega) HF1.out (by omega) (by omega)).mono ?_
 rintro e w2 ⟨rfl, hb⟩
 have HB2 := qb (HB1.out.trans (hb.mono HB1.out.size))
 have hm : ((k + Pt.cntMs ps : Nat) : Int) + (Fd.cntMs xs : Int) = (k : Int) + (Dk.cntD ⟨ps, xs⟩ : Int) := by rw [HE.out]; omega
 rw [hm]
 have hm2 : ((k : Int) + (Dk.cntD ⟨ps, xs⟩ : Int) < 0) = False := by rw [eq_iff_iff, iff_false]; omega
 clear hb hm x0 x1 hnn
 go_wp2
 go_ret
 exact ⟨rfl, HB2.out⟩
end Go.Proofs.YtmboieajfdkllaaGreat
