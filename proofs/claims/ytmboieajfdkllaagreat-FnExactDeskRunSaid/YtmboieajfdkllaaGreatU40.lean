import Derived.Test.YtmboieajfdkllaaGreatU38
import Derived.Deep.RegionHeld3
import Derived.Test.YtmboieajfdkllaaGreatU36
import Derived.Deep.SlicePairs
import Derived.Deep.Fields
set_option maxHeartbeats 8000000
set_option maxRecDepth 100000
open Go.Proofs.Tryz
namespace Go.Proofs.YtmboieajfdkllaaGreat
open Go.RowKit Go.Deep
def HdC (xs : List Pt) : Prop := ∀ (A : Option Addr) (c k : Nat) (z : Int) (w : World), z = (k : Int) -> RdP w (All w) A (Pt.mkNs k xs) -> 0 < k -> k + Pt.cntMs xs <= 4611686018427387904 →
 Calls Tryz.prog 55 #[.slice A xs.length c, .int .i64 z] w fun e w' => e = .returned (.int .i64 ((k : Int) + (Pt.cntMs xs : Int))) /\ Below w.heap.size w w'
theorem kE (xs : List Pt) (ih : ∀ x ∈ xs, HdC x.parts /\ HdC x.other) : HdC xs := by
 intro A c k z w hz hx hk0 hkn
 subst hz
 have IH := qb ih
 have HX := qb hx
 have hxl : xs.length <= 4611686018427387904 := by have := Pt.cntMs_len xs; omega
 clear ih hx
 go_enter func55, ntmps55
 go_wp2
 go_loopw [1, 5] (fun m i wr => ∃ (j : Nat), j <= xs.length /\ i = .int .i64 j /\ m = .int .i64 ((k : Int) + (Pt.cntMs (xs.take j) : Int)) /\ Below w.heap.size w wr) (fun _ i _ => xs.length - (intOf i).toNat)
 case atStart => exact ⟨0, Nat.zero_le _, rfl, by simp [Pt.cntMs], Below.refl _ _⟩
 obtain ⟨j, hj, rfl, rfl, hb⟩ := hrel
 have HB := qb hb
 clear hb
 by_cases hlt : j < xs.length
 ·obtain ⟨b1, o1, hA1, hb1, kd, tt, nn, us, vs, Ap, cp, Ao, co, hxj, k1, k2, hrp, hro, c0, c1, c2, c3, c4⟩ := (HX.out.now HB.out).at2 (k := j) (by rw [Pt.mkNs_len]; exact hlt)
  rw [Pt.mkNs_get k xs j hlt] at hxj
  have HCT := qb (Pt.cntMs_take xs j hlt)
  have hle := Pt.cntMs_take_le xs (j + 1)
  rw [HCT.out] at hle
  have IHX := qb (IH.out xs[j] (List.getElem_mem hlt))
  generalize xs[j] = x at *
  cases x with
  | mk kd0 tt0 nn0 us0 vs0 =>
  simp only [Pt.cntM, Pt.parts, Pt.other] at hle HCT IHX
  rw [Pt.mkN] at hxj
  generalize Pt.cntMs (xs.take j) = ct at *
  injection hxj with q1 q2 q3 q4 q5
  have q1' : kd = (k : Int) + (ct : Int) := by omega
  subst q1' q2 q3 q4 q5 hA1
  rw [Pt.mkNs_len] at c3 c4
  have HC1 := qb c1
  have HC2 := qb c2
  have HC3 := qb c3
  have HC4 := qb c4
  have HRP := qb hrp
  have HRO := qb hro
  have hbw : b1 < wr.heap.size := hb1
  clear hrp hro c1 c2 c3 c4 k1 k2 q1
  go_wp2_with fail
  go_region_held3 (fun w' => w'.cell? ⟨b1, o1 + j * 5 + 1, none⟩ = some (sv (qL (k + ct + 1)))) (first | exact HC1.out | exact (hb1.cell (p := ⟨b1, o1 + j * 5 + 1, none⟩) hbw).trans HC1.out)
   (first | (go_at_call 57; refine (je (k + ct + 1) _ (by omega) (by omega) (by omega) _).mono ?_; rintro e w1 ⟨rfl, hb1⟩))
  have hbd : Below wr.heap.size wr w1 := (Below.refl _ wr).drew.trans hb1
  have HB1 := qb (qa3 HB.out hbd)
  have HRP1 := qb (HRP.out.now hbd)
  have HRO1 := qb (HRO.out.now hbd)
  have hbw1 : b1 < w1.heap.size := Nat.lt_of_lt_of_le hbw hbd.size
  have HD2 := qb ((hbd.cell (p := ⟨b1, o1 + j * 5 + 2, none⟩) hbw).trans HC2.out)
  have HD3 := qb ((hbd.cell (p := ⟨b1, o1 + j * 5 + 3, none⟩) hbw).trans HC3.out)
  have HD4 := qb ((hbd.cell (p := ⟨b1, o1 + j * 5 + 4, none⟩) hbw).trans HC4.out)
  clear hb1 hbd c0 HC1 HC2 HC3 HC4 HRP HRO
  go_wp2_with fail
  go_region_held3 (fun w' => w'.cell? ⟨b1, o1 + j * 5 + 2, none⟩ = some (sv (qL (k + ct + 2)))) (first | exact HD2.out | exact (hb1.cell (p := ⟨b1, o1 + j * 5 + 2, none⟩) hbw1).trans HD2.out)
   (first | (go_at_call 57; refine (je (k + ct + 2) _ (by omega) (by omega) (by omega) _).mono ?_; rintro e w2 ⟨rfl, hb1⟩))
  have hbd : Below w1.heap.size w1 w2 := (Below.refl _ w1).drew.trans hb1
  have HB2 := qb (qa3 HB1.out hbd)
  have HRP2 := qb (HRP1.out.now hbd)
  have HRO2 := qb (HRO1.out.now hbd)
  have hbw2 : b1 < w2.heap.size := Nat.lt_of_lt_of_le hbw1 hbd.size
  have d3 := (hbd.cell (p := ⟨b1, o1 + j * 5 + 3, none⟩) hbw1).trans HD3.out
  have HE4 := qb ((hbd.cell (p := ⟨b1, o1 + j * 5 + 4, none⟩) hbw1).trans HD4.out)
  clear hb1 hbd HD2 HD3 HD4 HRP1 HRO1
  go_wp2_with fail
  refine (IHX.out.1 Ap cp (k + ct + 3) _ w2 (by omega) HRP2.out (by omega) (by omega)).mono ?_
  rintro e w3 ⟨rfl, hb3⟩
  have HB3 := qb (qa3 HB2.out hb3)
  have HRO3 := qb (HRO2.out.now hb3)
  have d4 := (hb3.cell (p := ⟨b1, o1 + j * 5 + 4, none⟩) hbw2).trans HE4.out
  have hnn2 : (((k + ct + 3 : Nat) : Int) + (Pt.cntMs us0 : Int) < 0) = False := by rw [eq_iff_iff, iff_false]; omega
  clear hb3 d3
  go_wp2_with fail
  refine (IHX.out.2 Ao co (k + ct + 3 + Pt.cntMs us0) _ w3 (by omega) HRO3.out (by omega) (by omega)).mono ?_
  rintro e w4 ⟨rfl, hb3⟩
  have HB4 := qb (qa3 HB3.out hb3)
  have hm : ((k + ct + 3 + Pt.cntMs us0 : Nat) : Int) + (Pt.cntMs vs0 : Int) = (k : Int) + ((ct + (3 + Pt.cntMs us0 + Pt.cntMs vs0) : Nat) : Int) := by omega
  rw [hm]
  rw [<- HCT.out]
  have hm2 : ((k : Int) + (Pt.cntMs (xs.take (j + 1)) : Int) < 0) = False := by rw [eq_iff_iff, iff_false]; omega
  have hm3 : ¬ ((k : Int) + (Pt.cntMs (xs.take (j + 1)) : Int) < 0) := by omega
  clear hb3 d4 hnn2 hm
  go_wp2
  go_roundw
  case rel => exact ⟨j + 1, by omega, by go_num, rfl, HB4.out⟩
  case measure => simp [intOf]; omega
 have hjx : xs.take j = xs := List.take_of_length_le (by omega)
 go_wp2
 go_ret
 exact ⟨qA (by rw [hjx]), HB.out⟩
theorem Xi (x : Pt) : HdC x.parts /\ HdC x.other := by
 induction x using Pt.ind with
 | h k t n xs ys ih1 ih2 => exact ⟨kE xs ih1, kE ys ih2⟩
theorem Xj (xs : List Pt) : HdC xs := kE xs (fun x _ => Xi x)
theorem QQ (n : Nat) (A : Option Addr) (c k : Nat) (z : Int) (w : World) (hz : z = (k : Int)) (hr : RdIn w (All w) A (qS (zr k n))) (hk0 : 0 < k) (hkn : k + n <= 4611686018427387904) :
  Calls Tryz.prog 21 #[.slice A n c, .int .i64 z] w fun e w' => e = .returned (.int .i64 ((k : Int) + (n : Int))) /\ Below w.heap.size w w' := by
 subst hz
 exact (Kr n A c k w (hr.rd (fun _ h => h)) hk0 hkn).mono fun _ _ ⟨h1, h2⟩ => ⟨by rw [h1]; exact qA (by omega), h2⟩
theorem JJ (xs : List Fd) (A : Option Addr) (c k : Nat) (z : Int) (w : World) (hz : z = (k : Int)) (hx : RdF w (All w) A (Fd.mkNs k xs)) (hk0 : 0 < k) (hkn : k + Fd.cntMs xs <= 4611686018427387904) :
  Calls Tryz.prog 56 #[.slice A xs.length c, .int .i64 z] w fun e w' => e = .returned (.int .i64 ((k : Int) + (Fd.cntMs xs : Int))) /\ Below w.heap.size w w' := by
 subst hz
 have HX := qb hx
 have hxl : xs.length <= 4611686018427387904 := by have := Fd.cntMs_len xs; omega
 clear hx
 go_enter func56, ntmps56
 go_wp2
 go_loopw [1, 5] (fun m i wr => ∃ (j : Nat), j <= xs.length /\ i = .int .i64 j /\ m = .int .i64 ((k : Int) + (Fd.cntMs (xs.take j) : Int)) /\ Below w.heap.size w wr) (fun _ i _ => xs.length - (intOf i).toNat)
 case atStart => exact ⟨0, Nat.zero_le _, rfl, by simp [Fd.cntMs], Below.refl _ _⟩
 obtain ⟨j, hj, rfl, rfl, hb⟩ := hrel
 have HB := qb hb
 clear hb
 by_cases hlt : j < xs.length
 ·obtain ⟨b1, o1, hA1, hb1, nn, tt, hh, is, Ai, ci, hxj, hri, k2, c0, c1, c2, c3⟩ := (HX.out.now HB.out).at2 (k := j) (by rw [Fd.mkNs_len]; exact hlt)
  rw [Fd.mkNs_get k xs j hlt] at hxj
  have HCT := qb (Fd.cntMs_take xs j hlt)
  have hle := Fd.cntMs_take_le xs (j + 1)
  rw [HCT.out] at hle
  generalize xs[j] = x at *
  obtain ⟨nn0, tt0, hh0, is0⟩ := x
  simp only [Fd.cntM] at hle HCT
  rw [Fd.mkN] at hxj
  generalize Fd.cntMs (xs.take j) = ct at *
  injection hxj with q1 q2 q3 q4
  dsimp only at q4
  subst q1 q2 q3 q4 hA1
  rw [ja] at c3
  have H33 : Hid ((((k : Int) + (ct : Int) + 1 + 1) % 3 == 0) = Fd.third (k + ct + 2)) := by
   show _ = _
   unfold Fd.third
   rw [Bool.eq_iff_iff, decide_eq_true_eq, beq_iff_eq]
   omega
  have HC0 := qb c0
  have HC1 := qb c1
  have HC2 := qb c2
  have HC3 := qb c3
  have HRI := qb hri
  have hbw : b1 < wr.heap.size := hb1
  clear hri c0 c1 c2 c3 k2
  go_wp2_with fail
  go_region_held3 (fun w' => w'.cell? ⟨b1, o1 + j * 4, none⟩ = some (sv (qL (k + ct)))) (first | exact HC0.out | exact (hb1.cell (p := ⟨b1, o1 + j * 4, none⟩) hbw).trans HC0.out)
   (first | (go_at_call 57; refine (je (k + ct) _ (by omega) (by omega) (by omega) _).mono ?_; rintro e w1 ⟨rfl, hb1⟩))
  have hbd : Below wr.heap.size wr w1 := (Below.refl _ wr).drew.trans hb1
  have HB1 := qb (qa3 HB.out hbd)
  have HRI1 := qb (HRI.out.keep (fun _ hp => hbd.cell hp) (fun _ h => Nat.lt_of_lt_of_le h hbd.size))
  have hbw1 : b1 < w1.heap.size := Nat.lt_of_lt_of_le hbw hbd.size
  have HD1 := qb ((hbd.cell (p := ⟨b1, o1 + j * 4 + 1, none⟩) hbw).trans HC1.out)
  have HD2 := qb ((hbd.cell (p := ⟨b1, o1 + j * 4 + 2, none⟩) hbw).trans HC2.out)
  have HD3 := qb ((hbd.cell (p := ⟨b1, o1 + j * 4 + 3, none⟩) hbw).trans HC3.out)
  clear hb1 hbd HC0 HC1 HC2 HC3 HRI
  go_wp2_with fail
  go_region_held3 (fun w' => w'.cell? ⟨b1, o1 + j * 4 + 1, none⟩ = some (sv (qL (k + ct + 1)))) (first | exact HD1.out | exact (hb1.cell (p := ⟨b1, o1 + j * 4 + 1, none⟩) hbw1).trans HD1.out)
   (first | (go_at_call 57; refine (je (k + ct + 1) _ (by omega) (by omega) (by omega) _).mono ?_; rintro e w2 ⟨rfl, hb1⟩))
  have hbd : Below w1.heap.size w1 w2 := (Below.refl _ w1).drew.trans hb1
  have HB2 := qb (qa3 HB1.out hbd)
  have HRI2 := qb (HRI1.out.keep (fun _ hp => hbd.cell hp) (fun _ h => Nat.lt_of_lt_of_le h hbd.size))
  have hbw2 : b1 < w2.heap.size := Nat.lt_of_lt_of_le hbw1 hbd.size
  have d2 := (hbd.cell (p := ⟨b1, o1 + j * 4 + 2, none⟩) hbw1).trans HD2.out
  have d3 := (hbd.cell (p := ⟨b1, o1 + j * 4 + 3, none⟩) hbw1).trans HD3.out
  rw [<- H33.out] at d2
  clear hb1 hbd HD1 HD2 HD3 HRI1
  go_wp2_with fail
  refine (QQ is0.length Ai ci (k + ct + 3) _ w2 (by omega) HRI2.out (by omega) (by omega)).mono ?_
  rintro e w3 ⟨rfl, hb3⟩
  have HB3 := qb (qa3 HB2.out hb3)
  have hm : ((k + ct + 3 : Nat) : Int) + (is0.length : Int) = (k : Int) + ((ct + (3 + is0.length) : Nat) : Int) := by omega
  rw [hm]
  rw [<- HCT.out]
  have hm2 : ((k : Int) + (Fd.cntMs (xs.take (j + 1)) : Int) < 0) = False := by rw [eq_iff_iff, iff_false]; omega
  have hm3 : ¬ ((k : Int) + (Fd.cntMs (xs.take (j + 1)) : Int) < 0) := by omega
  clear hb3 hm d2 d3
  go_wp2
  go_roundw
  case rel => exact ⟨j + 1, by omega, by go_num, rfl, HB3.out⟩
  case measure => simp [intOf]; omega
 have hjx : xs.take j = xs := List.take_of_length_le (by omega)
 go_wp2
 go_ret
 exact ⟨qA (by rw [hjx]), HB.out⟩
theorem JE (d : Dk) (k : Nat) (z : Int) (v : Value) (w : World) (hz : z = (k : Int)) (h : InD w (All w) (Dk.mkD k d) v) (hk0 : 0 < k) (hkn : k + Dk.cntD d <= 4611686018427387904) :
  Calls Tryz.prog 14 #[v, .int .i64 z] w fun e w' => e = .returned (.int .i64 ((k : Int) + (Dk.cntD d : Int))) /\ Below w.heap.size w w' := by
 subst hz
 obtain ⟨ps, xs⟩ := d
 obtain ⟨Ap, cp, Ad, cd, rfl, hp, -, hf, -⟩ := h
 unfold Dk.mkD at hp hf ⊢
 dsimp only at hp hf ⊢
 rw [Pt.mkNs_len, Fd.mkNs_len]
 unfold Dk.cntD at hkn
 dsimp only at hkn
 have HE : Hid ((Dk.cntD ⟨ps, xs⟩ : Int) = (Pt.cntMs ps : Int) + (Fd.cntMs xs : Int)) := by show _ = _; unfold Dk.cntD; dsimp only; omega
 have hA0 := (Below.refl w.heap.size w).alloc (Nat.le_refl _) (.cells (qx Ap ps.length cp Ad xs.length cd) 30)
 have HX0 := qb (heap_alloc_new w (.cells (qx Ap ps.length cp Ad xs.length cd) 30))
 have HP0 := qb (hp.now hA0)
 have HF0 := qb (hf.now hA0)
 have HB0 := qb hA0
 clear hp hf hA0
 go_enter func14, ntmps14
 obtain ⟨x0, x1, -⟩ := qr HX0.out
 go_wp2_with fail
 generalize w.alloc (.cells (qx Ap ps.length cp Ad xs.length cd) 30) = w0 at *
 refine (Xj ps Ap cp k _ w0 rfl HP0.out hk0 (by omega)).mono ?_
 rintro e w1 ⟨rfl, hb⟩
 have HB1 := qb (qa3 HB0.out hb)
 have HF1 := qb (HF0.out.now hb)
 have HX1 := qb (qi HX0.out hb)
 have hnn : ((k : Int) + (Pt.cntMs ps : Int) < 0) = False := by rw [eq_iff_iff, iff_false]; omega
 clear hb x0 x1
 obtain ⟨x0, x1, -⟩ := qr HX1.out
 go_wp2_with fail
 refine (JJ xs Ad cd (k + Pt.cntMs ps) _ w1 (by omega) HF1.out (by omega) (by omega)).mono ?_
 rintro e w2 ⟨rfl, hb⟩
 have HB2 := qb (qa3 HB1.out hb)
 have hm : ((k + Pt.cntMs ps : Nat) : Int) + (Fd.cntMs xs : Int) = (k : Int) + (Dk.cntD ⟨ps, xs⟩ : Int) := by rw [HE.out]; omega
 rw [hm]
 have hm2 : ((k : Int) + (Dk.cntD ⟨ps, xs⟩ : Int) < 0) = False := by rw [eq_iff_iff, iff_false]; omega
 clear hb hm x0 x1 hnn
 go_wp2
 go_ret
 exact ⟨rfl, HB2.out⟩
open Go.ChangeShapes Go.WideShapes
theorem ky {w : World} {a : Addr} {v : Value} (h : w.cell? a = some v) : ∃ b o, a = ⟨b, o, none⟩ /\ b < w.heap.size := by
 obtain ⟨b, o, spot⟩ := a
 have hs : spot = none := World.cell?_spot h
 subst hs
 refine ⟨b, o, rfl, ?_⟩
 rcases Nat.lt_or_ge b w.heap.size with hlt | hge
 ·exact hlt
 simp [World.cell?, Array.getElem?_eq_none hge] at h
section
variable {H : Type} {enc : TypeId × Value -> H} {P : Program} {w : World} {spare : Nat -> Bool} {held : Bool}
instance : Inhabited Pt := ⟨.mk 0 [] [] [] []⟩
instance : Inhabited Fd := ⟨⟨[], [], false, []⟩⟩
theorem Vy {t e : TypeId} {v : Value} {n0 : Nat} {y : DataW H × List MemPlace} (ht : P.underlying t = some (.slice e)) (he : P.underlying e = some .string) (ce : P.cellsOf e = 1)
  (hf : DataW.trod enc P w 0 spare held n0 t [v] = some y) :
  ∃ (A : Option Addr) (c : Nat) (xs : List Tx), v = .slice A xs.length c /\ Rd w w.heap.size A (qS xs) /\ FitS xs /\ xs.length <= c /\ c <= maxLen := by
 rcases open_slice1 ht ce hf with ⟨hcs, _⟩ | ⟨a, len, cap, m, n, V, D, Pl, hcs, _, hl, hm, hmm, _, hx⟩
 ·simp at hcs
  subst hcs
  exact ⟨none, 0, [], rfl, Rd.nil_, (fun x hx => by cases hx), by simp, by simp [maxLen]⟩
 simp at hcs
 subst hcs
 have hlm : len <= m := by rw [hmm]; split <;> omega
 have each : ∀ i, i < len -> ∃ q : Tx, w.cell? (a.add i) = some (sv q) /\ q.length <= maxLen := by
  intro i hi
  obtain ⟨h1, h2⟩ := hx i (by omega)
  obtain ⟨s0, e0, _, l0⟩ := DataW.trod_string he h2
  simp at e0
  obtain ⟨x, rfl⟩ := xa s0
  exact ⟨x, by rw [h1, e0], l0⟩
 obtain ⟨q, hq⟩ := choose_lt each
 have hlen : ((List.range len).map q).length = len := by simp
 refine ⟨some a, cap, (List.range len).map q, by rw [hlen], ?_, ?_, by rw [hlen]; exact hl, hm⟩
 ·intro hne
  have h0 : 0 < len := by
   rcases Nat.eq_zero_or_pos len with h | h
   ·subst h; exact absurd rfl hne
   exact h
  obtain ⟨b, o, rfl, hb⟩ := ky (by simpa [Addr.add] using (hq 0 h0).1)
  refine ⟨b, o, rfl, hb, fun j u hu => ?_⟩
  have hj : j < len := by
   have := (List.getElem?_eq_some_iff.1 hu).1
   simpa using this
  have := (hq j hj).1
  rw [add_plain] at this
  rw [this]
  simp [qS, hj] at hu
  rw [<- hu]
 intro x hx
 obtain ⟨i, hi, rfl⟩ := List.mem_map.1 hx
 exact (hq i (List.mem_range.1 hi)).2
theorem vq {t sl : TypeId} {fuel : Nat} {v : Value} {y : DataW H × List MemPlace} (u4 : P.underlying sl = some (.slice t)) (hC : P.cellsOf t = 5)
  (ih : ∀ n', n' < fuel -> ∀ (cs : List Value) (x : DataW H × List MemPlace), DataW.trod enc P w 0 spare held n' t cs = some x →
   ∃ (nd : Pt) (c0 c1 c2 c3 c4 : Value), cs = [c0, c1, c2, c3, c4] /\ InP w (All w) nd (.agg #[c0, c1, c2, c3, c4]) /\ Pt.Fit nd)
  (g4 : DataW.trod enc P w 0 spare held fuel sl [v] = some y) :
  ∃ (A : Option Addr) (c : Nat) (xs : List Pt), v = .slice A xs.length c /\ RdP w (All w) A xs /\ xs.length <= c /\ c <= maxLen /\ Pt.Fits xs := by
 rcases DataW.trod_slice u4 g4 with ⟨hcs, _⟩ | ⟨a, len, cap, elems, rest, n', hfu2, hcs, _, _, hle, hcm, hel, helem, _, _⟩
 ·simp at hcs
  subst hcs
  exact ⟨none, 0, [], rfl, fun h => absurd rfl h, Nat.le_refl 0, by simp [maxLen], trivial⟩
 simp at hcs
 subst hcs
 have each : ∀ i, i < len -> ∃ q : Pt, ∃ v, (∃ d0 d1 d2 d3 d4, v = Value.agg #[d0, d1, d2, d3, d4] /\ w.cell? (a.add (i * 5)) = some d0 /\ w.cell? (a.add (i * 5 + 1)) = some d1 /\ w.cell? (a.add (i * 5 + 2)) = some d2 /\ w.cell? (a.add (i * 5 + 3)) = some d3 /\ w.cell? (a.add (i * 5 + 4)) = some d4) /\ InP w (All w) q v /\ Pt.Fit q := by
  intro i hi
  have h1 := helem i hi
  rw [List.getElem?_eq_getElem (by omega), Option.bind_eq_some_iff] at h1
  obtain ⟨cs', h2, h3⟩ := h1
  rw [hC] at h2
  obtain ⟨_, hlen5, zz⟩ := World.cells?_some h2
  obtain ⟨nd, c0, c1, c2, c3, c4, rfl, hin, hfit⟩ := ih n' (by omega) cs' _ h3
  have e0 := zz 0 (by omega)
  have e1 := zz 1 (by omega)
  have e2 := zz 2 (by omega)
  have e3 := zz 3 (by omega)
  have e4 := zz 4 (by omega)
  rw [add_add] at e0 e1 e2 e3 e4
  simp at e0 e1 e2 e3 e4
  exact ⟨nd, _, ⟨c0, c1, c2, c3, c4, rfl, e0, e1, e2, e3, e4⟩, hin, hfit⟩
 obtain ⟨q, hq⟩ := choose_lt each
 have hlen : ((List.range len).map q).length = len := by simp
 refine ⟨some a, cap, (List.range len).map q, by rw [hlen], ?_, by rw [hlen]; exact hle, hcm, Pt.fits_all fun x hx => ?_⟩
 ·intro hne
  have h0 : 0 < len := by
   rcases Nat.eq_zero_or_pos len with h | h
   ·subst h; exact absurd rfl hne
   exact h
  obtain ⟨v, ⟨d0, d1, d2, d3, d4, _, p0, _⟩, _⟩ := hq 0 h0
  obtain ⟨b, o, rfl, hb⟩ := ky (by simpa [Addr.add] using p0)
  refine ⟨b, o, rfl, hb, InPs.of_get fun i hi => ?_⟩
  rw [hlen] at hi
  obtain ⟨v, ⟨d0, d1, d2, d3, d4, e, p0, p1, p2, p3, p4⟩, hin, _⟩ := hq i hi
  rw [add_plain] at p0 p1 p2 p3 p4
  refine ⟨v, ⟨d0, d1, d2, d3, d4, e, p0, by rw [Nat.add_assoc]; exact p1, by rw [Nat.add_assoc]; exact p2, by rw [Nat.add_assoc]; exact p3, by rw [Nat.add_assoc]; exact p4⟩, ?_⟩
  simpa using hin
 obtain ⟨i, hi, rfl⟩ := List.mem_map.1 hx
 obtain ⟨_, _, _, h⟩ := hq i (List.mem_range.1 hi)
 exact h
theorem KI {t : TypeId} {f0 f1 f2 f3 f4 : Field} (hs : P.underlying t = some (.struct #[f0, f1, f2, f3, f4])) (hone : oneCellFields P #[f0, f1, f2, f3, f4] = true) (hC : P.cellsOf t = 5)
  (u0 : P.underlying f0.type = some (.int .i64)) (u1 : P.underlying f1.type = some .string) (u2 : P.underlying f2.type = some .string) (u3 : P.underlying f3.type = some (.slice t)) (u4 : P.underlying f4.type = some (.slice t)) :
  ∀ (fuel : Nat) (cs : List Value) (x : DataW H × List MemPlace), DataW.trod enc P w 0 spare held fuel t cs = some x →
   ∃ (nd : Pt) (c0 c1 c2 c3 c4 : Value), cs = [c0, c1, c2, c3, c4] /\ InP w (All w) nd (.agg #[c0, c1, c2, c3, c4]) /\ Pt.Fit nd := by
 intro fuel
 induction fuel using Nat.strongRecOn with
 | _ fuel ih =>
 intro cs x h
 obtain ⟨xs, n, hfu, _, hl, hlen, hf⟩ := DataW.trod_struct hs h
 rw [hC] at hl
 match cs, hl with
 | [v0, v1, v2, v3, v4], _ =>
 obtain ⟨o0, k0⟩ := hone_of hone 0 f0 rfl
 obtain ⟨o1, k1⟩ := hone_of hone 1 f1 rfl
 obtain ⟨o2, k2⟩ := hone_of hone 2 f2 rfl
 obtain ⟨o3, k3⟩ := hone_of hone 3 f3 rfl
 obtain ⟨o4, k4⟩ := hone_of hone 4 f4 rfl
 match xs, hlen with
 | [y0, y1, y2, y3, y4], _ =>
 have g0 : DataW.trod enc P w 0 spare held n f0.type [v0] = some y0 := by simpa [o0, k0] using hf 0 f0 rfl
 have g1 : DataW.trod enc P w 0 spare held n f1.type [v1] = some y1 := by simpa [o1, k1] using hf 1 f1 rfl
 have g2 : DataW.trod enc P w 0 spare held n f2.type [v2] = some y2 := by simpa [o2, k2] using hf 2 f2 rfl
 have g3 : DataW.trod enc P w 0 spare held n f3.type [v3] = some y3 := by simpa [o3, k3] using hf 3 f3 rfl
 have g4 : DataW.trod enc P w 0 spare held n f4.type [v4] = some y4 := by simpa [o4, k4] using hf 4 f4 rfl
 obtain ⟨z0, q0, _, _⟩ := DataW.trod_int u0 g0
 obtain ⟨s1, q1, _, l1⟩ := DataW.trod_string u1 g1
 obtain ⟨s2, q2, _, l2⟩ := DataW.trod_string u2 g2
 obtain ⟨Ap, cp, ps, rfl, hrp, hcp, hmp, hfp⟩ := vq u3 hC (fun n' hn' => ih n' (by omega)) g3
 obtain ⟨Ao, co, os, rfl, hro, hco, hmo, hfo⟩ := vq u4 hC (fun n' hn' => ih n' (by omega)) g4
 simp at q0 q1 q2
 subst q0
 subst q1
 subst q2
 obtain ⟨t1, rfl⟩ := xa s1
 obtain ⟨t2, rfl⟩ := xa s2
 have hz : ∀ t : Tx, (⟨t.toArray⟩ : ByteArray).size = t.length := fun t => by show t.toArray.size = _; simp
 have hz1 := hz t1
 have hz2 := hz t2
 refine ⟨.mk z0 t1 t2 ps os, _, _, _, _, _, rfl, InP.mk hcp hco hrp hro, ?_⟩
 simp only [Pt.Fit]
 exact ⟨by omega, by omega, Nat.le_trans hcp hmp, Nat.le_trans hco hmo, hfp, hfo⟩
theorem KG {t e : TypeId} {f0 f1 f2 f3 : Field} (hs : P.underlying t = some (.struct #[f0, f1, f2, f3])) (hone : oneCellFields P #[f0, f1, f2, f3] = true) (hC : P.cellsOf t = 4)
  (u0 : P.underlying f0.type = some .string) (u1 : P.underlying f1.type = some .string) (u2 : P.underlying f2.type = some .bool) (u3 : P.underlying f3.type = some (.slice e)) (ue : P.underlying e = some .string) (ce : P.cellsOf e = 1)
  (fuel : Nat) (cs : List Value) (x : DataW H × List MemPlace) (h : DataW.trod enc P w 0 spare held fuel t cs = some x) :
   ∃ (nd : Fd) (c0 c1 c2 c3 : Value), cs = [c0, c1, c2, c3] /\ InF w (All w) nd (.agg #[c0, c1, c2, c3]) /\ Fd.Fit nd := by
 obtain ⟨xs, n, hfu, _, hl, hlen, hf⟩ := DataW.trod_struct hs h
 rw [hC] at hl
 match cs, hl with
 | [v0, v1, v2, v3], _ =>
 obtain ⟨o0, k0⟩ := hone_of hone 0 f0 rfl
 obtain ⟨o1, k1⟩ := hone_of hone 1 f1 rfl
 obtain ⟨o2, k2⟩ := hone_of hone 2 f2 rfl
 obtain ⟨o3, k3⟩ := hone_of hone 3 f3 rfl
 match xs, hlen with
 | [y0, y1, y2, y3], _ =>
 have g0 : DataW.trod enc P w 0 spare held n f0.type [v0] = some y0 := by simpa [o0, k0] using hf 0 f0 rfl
 have g1 : DataW.trod enc P w 0 spare held n f1.type [v1] = some y1 := by simpa [o1, k1] using hf 1 f1 rfl
 have g2 : DataW.trod enc P w 0 spare held n f2.type [v2] = some y2 := by simpa [o2, k2] using hf 2 f2 rfl
 have g3 : DataW.trod enc P w 0 spare held n f3.type [v3] = some y3 := by simpa [o3, k3] using hf 3 f3 rfl
 obtain ⟨s0, q0, _, l0⟩ := DataW.trod_string u0 g0
 obtain ⟨s1, q1, _, l1⟩ := DataW.trod_string u1 g1
 obtain ⟨z2, q2, _⟩ := DataW.trod_bool u2 g2
 obtain ⟨An, cn, ns, rfl, hr, hfs, hc, hm⟩ := Vy u3 ue ce g3
 simp at q0 q1 q2
 subst q0
 subst q1
 subst q2
 obtain ⟨t0, rfl⟩ := xa s0
 obtain ⟨t1, rfl⟩ := xa s1
 have hz : ∀ t : Tx, (⟨t.toArray⟩ : ByteArray).size = t.length := fun t => by show t.toArray.size = _; simp
 have hz0 := hz t0
 have hz1 := hz t1
 exact ⟨⟨t0, t1, z2, ns⟩, _, _, _, _, rfl, ⟨An, cn, rfl, RdIn.of hr (fun _ h => h), hc⟩, by show t0.length <= _; omega, by show t1.length <= _; omega, hfs, Nat.le_trans hc hm⟩
theorem KH {t sl e : TypeId} {f0 f1 f2 f3 : Field} {fuel : Nat} {v : Value} {y : DataW H × List MemPlace} (u : P.underlying sl = some (.slice t)) (hs : P.underlying t = some (.struct #[f0, f1, f2, f3])) (hone : oneCellFields P #[f0, f1, f2, f3] = true) (hC : P.cellsOf t = 4)
  (u0 : P.underlying f0.type = some .string) (u1 : P.underlying f1.type = some .string) (u2 : P.underlying f2.type = some .bool) (u3 : P.underlying f3.type = some (.slice e)) (ue : P.underlying e = some .string) (ce : P.cellsOf e = 1)
  (g4 : DataW.trod enc P w 0 spare held fuel sl [v] = some y) :
  ∃ (A : Option Addr) (c : Nat) (xs : List Fd), v = .slice A xs.length c /\ RdF w (All w) A xs /\ xs.length <= c /\ c <= maxLen /\ ∀ x ∈ xs, Fd.Fit x := by
 rcases DataW.trod_slice u g4 with ⟨hcs, _⟩ | ⟨a, len, cap, elems, rest, n', hfu2, hcs, _, _, hle, hcm, hel, helem, _, _⟩
 ·simp at hcs
  subst hcs
  exact ⟨none, 0, [], rfl, fun h => absurd rfl h, Nat.le_refl 0, by simp [maxLen], (fun x hx => by cases hx)⟩
 simp at hcs
 subst hcs
 have each : ∀ i, i < len -> ∃ q : Fd, ∃ v, (∃ d0 d1 d2 d3, v = Value.agg #[d0, d1, d2, d3] /\ w.cell? (a.add (i * 4)) = some d0 /\ w.cell? (a.add (i * 4 + 1)) = some d1 /\ w.cell? (a.add (i * 4 + 2)) = some d2 /\ w.cell? (a.add (i * 4 + 3)) = some d3) /\ InF w (All w) q v /\ Fd.Fit q := by
  intro i hi
  have h1 := helem i hi
  rw [List.getElem?_eq_getElem (by omega), Option.bind_eq_some_iff] at h1
  obtain ⟨cs', h2, h3⟩ := h1
  rw [hC] at h2
  obtain ⟨_, hlen5, zz⟩ := World.cells?_some h2
  obtain ⟨nd, c0, c1, c2, c3, rfl, hin, hfit⟩ := KG hs hone hC u0 u1 u2 u3 ue ce n' cs' _ h3
  have e0 := zz 0 (by omega)
  have e1 := zz 1 (by omega)
  have e2 := zz 2 (by omega)
  have e3 := zz 3 (by omega)
  rw [add_add] at e0 e1 e2 e3
  simp at e0 e1 e2 e3
  exact ⟨nd, _, ⟨c0, c1, c2, c3, rfl, e0, e1, e2, e3⟩, hin, hfit⟩
 obtain ⟨q, hq⟩ := choose_lt each
 have hlen : ((List.range len).map q).length = len := by simp
 refine ⟨some a, cap, (List.range len).map q, by rw [hlen], ?_, by rw [hlen]; exact hle, hcm, fun x hx => ?_⟩
 ·intro hne
  have h0 : 0 < len := by
   rcases Nat.eq_zero_or_pos len with h | h
   ·subst h; exact absurd rfl hne
   exact h
  obtain ⟨v, ⟨d0, d1, d2, d3, _, p0, _⟩, _⟩ := hq 0 h0
  obtain ⟨b, o, rfl, hb⟩ := ky (by simpa [Addr.add] using p0)
  refine ⟨b, o, rfl, hb, fun i hi => ?_⟩
  rw [hlen] at hi
  obtain ⟨v, ⟨d0, d1, d2, d3, e, p0, p1, p2, p3⟩, hin, _⟩ := hq i hi
  rw [add_plain] at p0 p1 p2 p3
  refine ⟨v, ⟨d0, d1, d2, d3, e, p0, by rw [Nat.add_assoc]; exact p1, by rw [Nat.add_assoc]; exact p2, by rw [Nat.add_assoc]; exact p3⟩, ?_⟩
  simpa using hin
 obtain ⟨i, hi, rfl⟩ := List.mem_map.1 hx
 obtain ⟨_, _, _, h⟩ := hq i (List.mem_range.1 hi)
 exact h
theorem KF {t tp tf e : TypeId} {g0 g1 p0 p1 p2 p3 p4 d0 d1 d2 d3 : Field} {v : Value} {d : DataW H} {p : List MemPlace} (hs : P.underlying t = some (.struct #[g0, g1])) (hone : oneCellFields P #[g0, g1] = true) (hC : P.cellsOf t = 2)
  (ug0 : P.underlying g0.type = some (.slice tp)) (ug1 : P.underlying g1.type = some (.slice tf))
  (hsp : P.underlying tp = some (.struct #[p0, p1, p2, p3, p4])) (honep : oneCellFields P #[p0, p1, p2, p3, p4] = true) (hCp : P.cellsOf tp = 5)
  (v0 : P.underlying p0.type = some (.int .i64)) (v1 : P.underlying p1.type = some .string) (v2 : P.underlying p2.type = some .string) (v3 : P.underlying p3.type = some (.slice tp)) (v4 : P.underlying p4.type = some (.slice tp))
  (hsf : P.underlying tf = some (.struct #[d0, d1, d2, d3])) (honef : oneCellFields P #[d0, d1, d2, d3] = true) (hCf : P.cellsOf tf = 4)
  (u0 : P.underlying d0.type = some .string) (u1 : P.underlying d1.type = some .string) (u2 : P.underlying d2.type = some .bool) (u3 : P.underlying d3.type = some (.slice e)) (ue : P.underlying e = some .string) (ce : P.cellsOf e = 1)
  (hv : Value.okWide P w .any 0 t v) (h : DataW.Trod enc P w 0 spare held t v d p) : ∃ x : Dk, InD w (All w) x v /\ Dk.Fit x := by
 obtain ⟨cs, rfl, hsz⟩ := okWide_struct hs hv
 obtain ⟨fuel, hf⟩ := h
 obtain ⟨xs, n, hfu, _, hl, hlen, hff⟩ := DataW.trod_struct hs hf
 rw [hC] at hl
 obtain ⟨o0, k0⟩ := hone_of hone 0 g0 rfl
 obtain ⟨o1, k1⟩ := hone_of hone 1 g1 rfl
 obtain ⟨l⟩ := cs
 change l.length = 2 at hl
 match l, hl with
 | [a0, a1], _ =>
 match xs, hlen with
 | [y0, y1], _ =>
 have h0 : DataW.trod enc P w 0 spare held n g0.type [a0] = some y0 := by simpa [o0, k0, Value.cells] using hff 0 g0 rfl
 have h1 : DataW.trod enc P w 0 spare held n g1.type [a1] = some y1 := by simpa [o1, k1, Value.cells] using hff 1 g1 rfl
 obtain ⟨Ap, cp, ps, rfl, hrp, hcp, hmp, hfp⟩ := vq ug0 hCp (fun n' _ cs x hx => KI hsp honep hCp v0 v1 v2 v3 v4 n' cs x hx) h0
 obtain ⟨Ad, cd, fs, rfl, hrf, hcd, hmd, hfd⟩ := KH ug1 hsf honef hCf u0 u1 u2 u3 ue ce h1
 exact ⟨⟨ps, fs⟩, ⟨Ap, cp, Ad, cd, rfl, hrp, hcp, hrf, hcd⟩, hfp, Nat.le_trans hcp hmp, hfd, Nat.le_trans hcd hmd⟩
end
end Go.Proofs.YtmboieajfdkllaaGreat
