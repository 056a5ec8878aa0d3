/- Marks of nodes: marked as a whole, and held: walks. -/
import Derived.Test.YtdmmnjnbjigdeaaNodeMark
import Derived.Deep.RegionHeld3
namespace Go.Proofs.Ytdmmnjnbjigdeaa
open Go.RowKit

set_option maxRecDepth 100000 in
set_option maxHeartbeats 4000000 in
theorem laws_markNode (a : Nd) (r : Raw) (L : List Nat) (k : Nat) (z : Int) (w : World) (hz : z = (k : Int)) (ht : OwT w a r L) (hnd : L.Nodup) (hk0 : 0 < k) (hkn : k + Nd.cntT a ≤ 4611686018427387904) :
    Calls Try.prog 20 #[r.v, .int .i64 z] w fun e w' => e = .returned (.int .i64 ((k : Int) + (Nd.cntT a : Int))) ∧ OwT w' (Nd.mkTop k a) r L ∧ Chg w w' L := by
  subst hz
  cases a with
  | mk kd nn tt ns xs =>
  have hlt := OwT.lt _ _ _ ht
  rw [OwT] at ht
  obtain ⟨e1, e2, e3, e4, e5, hon, rs3, L3, hoi, hty, rfl⟩ := ht
  obtain ⟨rk, rn, rt, An, rln, cn, Ai, rli, ci⟩ := r
  simp only at e1 e2 e3 e4 e5 hon hoi
  subst e1 e2 e3 e4 e5
  simp only at hnd hlt
  simp only [Nd.cntT] at hkn
  have hyl := hty.len
  have hnd2 := List.nodup_append.1 hnd
  have hA0 := (Below.refl w.heap.size w).alloc (Nat.le_refl _) (.cells (ndCells rk rn rt An ns.length cn Ai xs.length ci) 30)
  have hX0 := heap_alloc_new w (.cells (ndCells rk rn rt An ns.length cn Ai xs.length ci) 30)
  have hC0 := Chg.of_below hA0 []
  have HON := Lib.hid (own_below hon hA0)
  have HOI := Lib.hid (own_below hoi hA0)
  have HTY := Lib.hid (hty.chg hC0 (fun b hb => by cases hb))
  have HX0 := Lib.hid hX0
  have HC0 := Lib.hid (Chg.of_below hA0 (bk An ns.length cn ++ (bk Ai xs.length ci ++ L3)))
  have hs0 : (w.alloc (.cells (ndCells rk rn rt An ns.length cn Ai xs.length ci) 30)).heap.size = w.heap.size + 1 := by simp
  have HLT := Lib.hid hlt
  clear hon hoi hty hA0 hX0 hC0 hlt
  go_enter Try.func20, Try.ntmps20
  obtain ⟨⟨x0, x1, x2, x3, x4⟩, -⟩ := box_five HX0.out
  go_wp2_with fail
  generalize w.alloc (.cells (ndCells rk rn rt An ns.length cn Ai xs.length ci) 30) = w0 at *
  refine (laws_markStringS_at ns 0 An cn k _ w0 rfl HON.out hk0 (by omega)).mono ?_
  rintro e w1 ⟨rfl, hon, hg⟩
  have hcc := Chg.of_grown hg (L := bk An ns.length cn) (fun b hb => bk_mem.2 hb)
  have hd : ∀ b, b ∈ bk An ns.length cn → b ∉ bk Ai xs.length ci ∧ b ∉ L3 := fun b hb => ⟨fun e => hnd2.2.2 b hb b (List.mem_append.2 (.inl e)) rfl, fun e => hnd2.2.2 b hb b (List.mem_append.2 (.inr e)) rfl⟩
  have HC1 := Lib.hid (HC0.out.trans hcc (fun b hb => .inl (List.mem_append.2 (.inl hb))))
  have HOI1 := Lib.hid (own_chg HOI.out hcc (fun b hb => by rw [hyl]; exact (hd b hb).1))
  have HTY1 := Lib.hid (HTY.out.chg hcc (fun b hb => (hd b hb).2))
  have HON1 := Lib.hid hon
  have hX1 := (hcc.block w.heap.size (by omega) (fun e => by have := HLT.out _ (List.mem_append.2 (.inl e)); omega)).trans HX0.out
  clear hon hg hcc HC0 HON HOI HTY HX0 x0 x1 x2 x3 x4
  obtain ⟨⟨x0, x1, x2, x3, x4⟩, -⟩ := box_five hX1
  clear hX1
  go_wp2_with fail
  have HMC := laws_markNodeS_all (.mk rk rn rt ns xs)
  refine (HMC rs3 Ai ci (k + ns.length) _ L3 w1 (by omega) HOI1.out HTY1.out (by rw [hyl]; exact hnd2.2.1) (by omega) (by simp only [Nd.inside]; omega)).mono ?_
  simp only [Nd.inside]
  rintro e w2 ⟨rfl, rs4, hl4, hoi2, hty2, hcd⟩
  rw [hyl] at hcd
  have HC2 := Lib.hid (HC1.out.trans hcd (fun b hb => .inl (List.mem_append.2 (.inr hb))))
  have HON2 := Lib.hid (own_chg HON1.out hcd (fun b hb e => by rw [marksS_length] at e; exact hnd2.2.2 b e b hb rfl))
  have HOI2 := Lib.hid hoi2
  have HTY2 := Lib.hid hty2
  clear hoi2 hty2 hcd x0 x1 x2 x3 x4
  go_wp2
  go_ret
  refine ⟨ret_int (by simp only [Nd.cntT]; omega), ?_, HC2.out⟩
  have hw := OwT.mk (k := rk) (n := rn) (t := rt) (L := bk An ns.length cn ++ (bk Ai xs.length ci ++ L3)) HON2.out HOI2.out HTY2.out (by rw [marksS_length, Nd.mkNs_len])
  rw [marksS_length, Nd.mkNs_len] at hw
  rw [Nd.mkTop]
  exact hw
def HdC (xs : List Nd) : Prop := ∀ (A : Option Addr) (c k : Nat) (z : Int) (w : World), z = (k : Int) → RdN w (All w) A (Nd.mkNs k xs) → 0 < k → k + Nd.cntMs xs ≤ 4611686018427387904 →
  Calls Try.prog 42 #[.slice A xs.length c, .int .i64 z] w fun e w' => e = .returned (.int .i64 ((k : Int) + (Nd.cntMs xs : Int))) ∧ Below w.heap.size w w'
theorem laws_heldStringS_at (n : Nat) (A : Option Addr) (c k : Nat) (z : Int) (w : World) (hz : z = (k : Int)) (hr : RdIn w (All w) A (scells (marksS k n))) (hk0 : 0 < k) (hkn : k + n ≤ 4611686018427387904) :
    Calls Try.prog 41 #[.slice A n c, .int .i64 z] w fun e w' => e = .returned (.int .i64 ((k : Int) + (n : Int))) ∧ Below w.heap.size w w' := by
  subst hz
  exact (laws_heldStringS n A c k w (hr.rd (fun _ h => h)) hk0 hkn).mono fun _ _ ⟨h1, h2⟩ => ⟨by rw [h1]; exact ret_int (by omega), h2⟩
set_option maxRecDepth 100000 in
set_option maxHeartbeats 8000000 in
theorem laws_heldNodeS (xs : List Nd) (ih : ∀ x ∈ xs, HdC x.inside) : HdC xs := by
  intro A c k z w hz hx hk0 hkn
  subst hz
  have IH := Lib.hid ih
  have HX := Lib.hid hx
  have hxl : xs.length ≤ 4611686018427387904 := by have := Nd.cntMs_len xs; omega
  clear ih hx
  go_enter Try.func42, Try.ntmps42
  go_wp2
  go_loopw [1, 5] (fun m i wr => ∃ (j : Nat), j ≤ xs.length ∧ i = .int .i64 j ∧ m = .int .i64 ((k : Int) + (Nd.cntMs (xs.take j) : Int)) ∧ Below w.heap.size w wr) (fun _ i _ => xs.length - (intOf i).toNat)
  case atStart => exact ⟨0, Nat.zero_le _, rfl, by simp [Nd.cntMs], Below.refl _ _⟩
  case round =>
    obtain ⟨j, hj, rfl, rfl, hb⟩ := hrel
    have HB := Lib.hid hb
    clear hb
    by_cases hlt : j < xs.length
    · obtain ⟨b1, o1, hA1, hb1, kd, nn, tt, An, ln, cn, Ai, li, ci, hin, c0, c1, c2, c3, c4⟩ := (HX.out.now HB.out).at (k := j) (by rw [Nd.mkNs_len]; exact hlt)
      rw [Nd.mkNs_get k xs j hlt] at hin
      have HCT := Lib.hid (Nd.cntMs_take xs j hlt)
      have hle := Nd.cntMs_take_le xs (j + 1)
      rw [HCT.out] at hle
      have IHX := Lib.hid (IH.out xs[j] (List.getElem_mem hlt))
      generalize xs[j] = x at *
      cases x with
      | mk kd2 nn2 tt2 ns ys =>
      simp only [Nd.cntM, Nd.inside, Nd.mkN] at hle HCT IHX hin
      generalize Nd.cntMs (xs.take j) = ct at *
      obtain ⟨An2, cn2, Ai2, ci2, e, hrn, -, -, hri⟩ := hin.parts
      injection e with e
      simp only [Array.mk.injEq, List.cons.injEq, Value.int.injEq, Value.slice.injEq, and_true, true_and] at e
      obtain ⟨e1, e2, e3, ⟨e4, e5, e6⟩, e7, e8, e9⟩ := e
      rw [marksS_length] at e5
      rw [Nd.mkNs_len] at e8
      have e1' : kd = (k : Int) + (ct : Int) := by omega
      have e2' : nn = (k : Int) + (ct : Int) + 1 := by omega
      have e3' : tt = markOf (k + ct + 2) := by simpa using e3
      clear e1 e2 e3 hin
      subst e1' e2' e3' e4 e5 e6 e7 e8 e9 hA1
      have HC2 := Lib.hid c2
      have HC3 := Lib.hid c3
      have HC4 := Lib.hid c4
      have HRN := Lib.hid hrn
      have HRI := Lib.hid hri
      have hbw : b1 < wr.heap.size := hb1
      clear hrn hri c2 c3 c4
      go_wp2_with fail
      go_region_held3 (fun w' => w'.cell? ⟨b1, o1 + j * 5 + 2, none⟩ = some (sv (markOf (k + ct + 2)))) (first | exact HC2.out | exact (hb1.cell (p := ⟨b1, o1 + j * 5 + 2, none⟩) hbw).trans HC2.out)
        (first | (go_at_call 52; refine (laws_markText_at (k + ct + 2) _ (by omega) (by omega) (by omega) _).mono ?_; rintro e w1 ⟨rfl, hb1⟩))
      have hbd : Below wr.heap.size wr w1 := (Below.refl _ wr).drew.trans hb1
      have HB1 := Lib.hid (HB.out.trans (hbd.mono HB.out.size))
      have HRN1 := Lib.hid (HRN.out.now hbd)
      have HRI1 := Lib.hid (HRI.out.now hbd)
      have hbw1 : b1 < w1.heap.size := Nat.lt_of_lt_of_le hbw hbd.size
      have d3 := (hbd.cell (p := ⟨b1, o1 + j * 5 + 3, none⟩) hbw).trans HC3.out
      have HD4 := Lib.hid ((hbd.cell (p := ⟨b1, o1 + j * 5 + 4, none⟩) hbw).trans HC4.out)
      clear hb1 hbd c0 c1 HC2 HC3 HC4
      go_wp2_with fail
      refine (laws_heldStringS_at ns.length An cn (k + ct + 3) _ w1 (by omega) HRN1.out (by omega) (by omega)).mono ?_
      rintro e w2 ⟨rfl, hb2⟩
      have HB2 := Lib.hid (HB1.out.trans (hb2.mono HB1.out.size))
      have HRI2 := Lib.hid (HRI1.out.now hb2)
      have d4 := (hb2.cell (p := ⟨b1, o1 + j * 5 + 4, none⟩) hbw1).trans HD4.out
      have hnn : ((k : Int) + (ct : Int) + 3 + (ns.length : Int) < 0) = False := by rw [eq_iff_iff, iff_false]; omega
      have hnn2 : (((k + ct + 3 : Nat) : Int) + (ns.length : Int) < 0) = False := by rw [eq_iff_iff, iff_false]; omega
      clear hb2 d3
      go_wp2_with fail
      refine (IHX.out Ai ci (k + ct + 3 + ns.length) _ w2 (by omega) HRI2.out (by omega) (by omega)).mono ?_
      rintro e w3 ⟨rfl, hb3⟩
      have HB3 := Lib.hid (HB2.out.trans (hb3.mono HB2.out.size))
      have hm : ((k + ct + 3 + ns.length : Nat) : Int) + (Nd.cntMs ys : Int) = (k : Int) + ((ct + (3 + ns.length + Nd.cntMs ys) : Nat) : Int) := by omega
      rw [hm]
      have hm2 : ((k : Int) + ((ct + (3 + ns.length + Nd.cntMs ys) : Nat) : Int) < 0) = False := by rw [eq_iff_iff, iff_false]; omega
      rw [← HCT.out] at hm2 ⊢
      have hm3 : ¬ ((k : Int) + (Nd.cntMs (xs.take (j + 1)) : Int) < 0) := by omega
      clear hb3 d4 hnn hnn2 hm
      go_wp2
      go_roundw
      case rel => exact ⟨j + 1, by omega, by go_num, rfl, HB3.out⟩
      case measure => simp [intOf]; omega
    · have hjx : xs.take j = xs := List.take_of_length_le (by omega)
      go_wp2
      go_ret
      exact ⟨ret_int (by rw [hjx]), HB.out⟩
theorem laws_heldNodeS_all (x : Nd) : HdC x.inside := by
  induction x using Nd.ind with
  | h k n t ns xs ih => exact laws_heldNodeS xs ih
set_option maxRecDepth 100000 in
set_option maxHeartbeats 4000000 in
theorem laws_heldNode (a : Nd) (v : Value) (k : Nat) (z : Int) (w : World) (hz : z = (k : Int)) (hv : InN w (All w) (Nd.mkTop k a) v) (hk0 : 0 < k) (hkn : k + Nd.cntT a ≤ 4611686018427387904) :
    Calls Try.prog 21 #[v, .int .i64 z] w fun e w' => e = .returned (.int .i64 ((k : Int) + (Nd.cntT a : Int))) ∧ Below w.heap.size w w' := by
  subst hz
  cases a with
  | mk kd nn tt ns xs =>
  rw [Nd.mkTop] at hv
  obtain ⟨An, cn, Ai, ci, rfl, hrn, -, -, hri⟩ := hv.parts
  rw [marksS_length, Nd.mkNs_len] at *
  simp only [Nd.cntT] at hkn
  have hA0 := (Below.refl w.heap.size w).alloc (Nat.le_refl _) (.cells (ndCells kd nn tt An ns.length cn Ai xs.length ci) 30)
  have HX0 := Lib.hid (heap_alloc_new w (.cells (ndCells kd nn tt An ns.length cn Ai xs.length ci) 30))
  have HRN := Lib.hid (hrn.now hA0)
  have HRI := Lib.hid (hri.now hA0)
  have HB0 := Lib.hid hA0
  have hs0 : (w.alloc (.cells (ndCells kd nn tt An ns.length cn Ai xs.length ci) 30)).heap.size = w.heap.size + 1 := by simp
  clear hv hrn hri hA0
  go_enter Try.func21, Try.ntmps21
  obtain ⟨⟨x0, x1, x2, x3, x4⟩, -⟩ := box_five HX0.out
  go_wp2_with fail
  generalize w.alloc (.cells (ndCells kd nn tt An ns.length cn Ai xs.length ci) 30) = w0 at *
  refine (laws_heldStringS_at ns.length An cn k _ w0 rfl HRN.out hk0 (by omega)).mono ?_
  rintro e w1 ⟨rfl, hb⟩
  have HB1 := Lib.hid (HB0.out.trans (hb.mono HB0.out.size))
  have HRI1 := Lib.hid (HRI.out.now hb)
  obtain ⟨⟨y0, y1, y2, y3, y4⟩, -⟩ := box_five (bx_keep HX0.out hb)
  have hnn : ((k : Int) + (ns.length : Int) < 0) = False := by rw [eq_iff_iff, iff_false]; omega
  clear hb x0 x1 x2 x3 x4
  go_wp2_with fail
  have HMC := laws_heldNodeS_all (.mk kd nn tt ns xs)
  refine (HMC Ai ci (k + ns.length) _ w1 (by omega) HRI1.out (by omega) (by simp only [Nd.inside]; omega)).mono ?_
  simp only [Nd.inside]
  rintro e w2 ⟨rfl, hb⟩
  have HB2 := Lib.hid (HB1.out.trans (hb.mono HB1.out.size))
  have hm : ((k + ns.length : Nat) : Int) + (Nd.cntMs xs : Int) = (k : Int) + ((ns.length + Nd.cntMs xs : Nat) : Int) := by omega
  rw [hm]
  generalize hq : ns.length + Nd.cntMs xs = q at *
  have hm2 : ((k : Int) + (q : Int) < 0) = False := by rw [eq_iff_iff, iff_false]; omega
  clear hb hm hnn y0 y1 y2 y3 y4
  go_wp2
  go_ret
  exact ⟨ret_int (by simp only [Nd.cntT]; omega), HB2.out⟩
end Go.Proofs.Ytdmmnjnbjigdeaa
