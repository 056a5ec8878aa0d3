/- For every code: the drawn desk's answer to fill is the text of FillSafe of its parts and its data, or empty, or no, and the answer to check is none exactly if there is such a text: the law FnDeskFill holds. No conditions. -/
import Derived.Test.YtmboieajfdkllaaGreatU45
import Derived.Test.YtmboieajfdkllaaGreatU34
import Derived.Test.YtmboieajfdkllaaGreatU35
import Derived.Test.YtmboieajfdkllaaGreatU41
import Derived.Test.YtmboieajfdkllaaGreatU26
import Derived.Test.YtmboieajfdkllaaGreatU37
import Derived.Test.YtmboieajfdkllaaGreatU03
import Derived.Test.YtmboieajfdkllaaGreatU01
import Derived.Test.YtmboieajfdkllaaGreatU02
import Derived.Deep.SlicePairs
import Derived.Deep.Fields
set_option maxHeartbeats 16000000
set_option maxRecDepth 100000
open Go.Proofs.Tryz
namespace Go.Proofs.YtmboieajfdkllaaGreat
open Go.RowKit Go.ChangeShapes Go.WideShapes Go.ChangeAt Go.Joins Go.Deep
theorem LnS.split {w w' : World} {r : Dk × Tx} {e : Ending} (h : LnS w r e w') : ∃ A c A2 c2, e = .returned (.tuple #[dkV A r.1.parts.length c A2 r.1.data.length c2, sv r.2]) /\ InD w' (All w') r.1 (dkV A r.1.parts.length c A2 r.1.data.length c2) /\ Below w.heap.size w w' := by
 obtain ⟨v, rfl, hi, hb⟩ := h
 have h2 := hi.toAll
 obtain ⟨A, c, A2, c2, rfl, _⟩ := id h2
 exact ⟨A, c, A2, c2, rfl, h2, hb⟩
theorem InD.both {w : World} {S : Nat -> Prop} {x : Dk} {A1 A2 : Option Addr} {l1 c1 l2 c2 : Nat} (h : InD w S x (dkV A1 l1 c1 A2 l2 c2)) : RdP w S A1 x.parts /\ RdF w S A2 x.data /\ x.data.length <= c2 := by
 obtain ⟨Ap, cp, Ad, cd, e, h1, h2, h3, h4⟩ := h
 injection e with e
 simp only [Array.mk.injEq, List.cons.injEq, and_true, Value.slice.injEq] at e
 obtain ⟨⟨e1, e2, e3⟩, e4, e5, e6⟩ := e
 subst e1 e4 e6
 exact ⟨h1, h3, h4⟩
theorem Wu (bs : Tx) (A : Option Addr) (c : Nat) (w : World) (hr : Rd w w.heap.size A (Yk bs)) (hc : bs.length <= c) (hm : bs.length <= maxLen) (hM : Hm w) :
  Calls Tryz.prog 6 #[.slice A bs.length c] w fun e w' => e = .returned (.bool true) /\ Below w.heap.size w w' := by
 unfold maxLen at hm
 by_cases h : 1048576 < bs.length
 ·go_enter func6, ntmps6
  go_wp2
  go_ret
  exact ⟨rfl, Below.refl _ _⟩
 have HD := qb (Wh bs A c w hr hc (by omega))
 have HM := qb hM
 clear hr hM
 go_enter func6, ntmps6
 go_wp2_with fail
 refine HD.out.mono ?_
 rintro e w1 ⟨A1, c1, A2, c2, x, t, rfl, hin, hsz, htl, hb1⟩
 have hA0 := (Below.refl w1.heap.size w1).alloc (Nat.le_refl _) (.cells (qx A1 x.parts.length c1 A2 x.data.length c2) 30)
 have HX2 := qb (heap_alloc_new w1 (.cells (qx A1 x.parts.length c1 A2 x.data.length c2) 30))
 have HU2 := qb (hin.now hA0)
 have HB2 := qb (qa3 hb1 hA0)
 have hZ : Dk.size x <= 1048576 := by omega
 have HIM := qb (fun w3 t (ht : t.length <= 1048576) (hu : InD w3 (All w3) x (dkV A1 x.parts.length c1 A2 x.data.length c2)) hm => (QR x _ t w3 hu hZ ht hm).mono (R' := fun e w' => ∃ A c A2 c2, e = .returned (.tuple #[dkV A (Dk.line x t).1.parts.length c A2 (Dk.line x t).1.data.length c2, sv (Dk.line x t).2]) /\ InD w' (All w') (Dk.line x t).1 (dkV A (Dk.line x t).1.parts.length c A2 (Dk.line x t).1.data.length c2) /\ Below w3.heap.size w3 w') (fun e w' h => h.toS.split))
 have HSP := qb (fun w3 t (ht : t.length <= 1048576) (hu : InD w3 (All w3) x (dkV A1 x.parts.length c1 A2 x.data.length c2)) => (Xv x _ t w3 hu hZ ht).mono (R' := fun e w' => ∃ A c A2 c2, e = .returned (.tuple #[dkV A (Dk.line x t).1.parts.length c A2 (Dk.line x t).1.data.length c2, sv (Dk.line x t).2]) /\ InD w' (All w') (Dk.line x t).1 (dkV A (Dk.line x t).1.parts.length c A2 (Dk.line x t).1.data.length c2) /\ Below w3.heap.size w3 w') (fun e w' h => h.split))
 have HSV := qb (fun w3 (hu : InD w3 (All w3) x (dkV A1 x.parts.length c1 A2 x.data.length c2)) => VE x _ w3 hu hZ)
 have HLI := qb (HIM.out _ t (by omega) HU2.out (HM.out.below HB2.out))
 have HLS := qb (fun w3 hu => HSP.out w3 t (by omega) hu)
 have hRS : Dk.size (Dk.line x t).1 <= 1048576 := by have := Dk.line_size x t; omega
 have hZp : x.parts.length + Pt.sizes x.parts <= 1048576 := by unfold Dk.size at hZ; omega
 have hZd : x.data.length + Fd.sizes x.data <= 1048576 := by unfold Dk.size at hZ; omega
 have HFS := qb (fun w3 (hu : InD w3 (All w3) x (dkV A1 x.parts.length c1 A2 x.data.length c2)) hm => XO x.parts A1 c1 x.data A2 c2 w3 hu.both.1 hZp hu.both.2.1 hZd hu.both.2.2 hm)
 have hNW := qb (HIM.out)
 generalize Dk.line x t = r at *
 obtain ⟨rd, ra⟩ := r
 dsimp only at hRS HLI HLS
 have hrr : (ra != ra) = false := by simp
 have hz2 : w1.heap.size < (w1.alloc (.cells (qx A1 x.parts.length c1 A2 x.data.length c2) 30)).heap.size := by simp
 clear hb1 HD hin hA0 hsz htl
 go_upto_region 4 with fail
 generalize w1.alloc (.cells (qx A1 x.parts.length c1 A2 x.data.length c2) 30) = w2 at *
 obtain ⟨y0, y1, -⟩ := qr HX2.out
 go_wp2_with fail
 refine HLI.out.mono ?_
 rintro e w3 ⟨A3, c3, A4, c4, rfl, hi3, hb⟩
 have hA3 := (Below.refl w3.heap.size w3).alloc (Nat.le_refl _) (.cells (qx A3 rd.parts.length c3 A4 rd.data.length c4) 30)
 have HW3 := qb (qa3 hb hA3)
 have HX3 := qb (heap_alloc_new w3 (.cells (qx A3 rd.parts.length c3 A4 rd.data.length c4) 30))
 have HI3 := qb (hi3.now hA3)
 have hz3 : w3.heap.size < (w3.alloc (.cells (qx A3 rd.parts.length c3 A4 rd.data.length c4) 30)).heap.size := by simp
 have hzz : w2.heap.size <= w3.heap.size := hb.size
 have HLS3 := qb (HLS.out _ (HU2.out.now HW3.out))
 clear hi3 hb hA3 HLI y0 y1
 obtain ⟨y0, y1, -⟩ := qr (qi HX2.out HW3.out)
 go_wp2_with fail
 generalize w3.alloc (.cells (qx A3 rd.parts.length c3 A4 rd.data.length c4) 30) = W3 at *
 refine HLS3.out.mono ?_
 rintro e w4 ⟨A5, c5, A6, c6, rfl, hi4, hb⟩
 have hA4 := (Below.refl w4.heap.size w4).alloc (Nat.le_refl _) (.cells (qx A5 rd.parts.length c5 A6 rd.data.length c6) 30)
 have HW34 := qb (qa3 hb hA4)
 have HW4 := qb (qa3 HW3.out HW34.out)
 have HX4 := qb (qi HX3.out HW34.out)
 have HSD := qb (Ys rd _ _ _ (HI3.out.now HW34.out) (hi4.now hA4) hRS)
 obtain ⟨q0, q1, -⟩ := qr (heap_alloc_new w4 (.cells (qx A5 rd.parts.length c5 A6 rd.data.length c6) 30))
 obtain ⟨p0, p1, -⟩ := qr HX4.out
 clear hi4 hb hA4 HLS3 HLS y0 y1
 go_wp2_with fail
 generalize w4.alloc (.cells (qx A5 rd.parts.length c5 A6 rd.data.length c6) 30) = W4 at *
 refine HSD.out.mono ?_
 rintro e w5 ⟨rfl, hb⟩
 have HW5 := qb (qa3 HW4.out hb)
 have HW35 := qb (qa3 HW34.out hb)
 have HSV5 := qb (HSV.out w5 (HU2.out.now HW5.out))
 clear hb HSD q0 q1 p0 p1 HX4 HW34 HW4
 obtain ⟨y0, y1, -⟩ := qr (qi HX2.out HW5.out)
 go_wp2_with fail
 refine HSV5.out.mono ?_
 rintro e w6 ⟨rfl, hb⟩
 have HW6 := qb (qa3 HW5.out hb)
 have HW36 := qb (qa3 HW35.out hb)
 have HB6 := qb (qa3 HB2.out HW6.out)
 obtain ⟨p0, p1, p2, p3⟩ := qr (qi HX3.out HW36.out)
 clear hb HSV5 y0 y1 HW5 HW35
 rcases hv : Dk.valid x with _ | _
 ·have HAL := qb (YT w6)
  go_wp2_with fail
  refine HAL.out.mono ?_
  rintro e w7 ⟨rfl, hb⟩
  have HB7 := qb (qa3 HB6.out hb)
  clear hb
  go_wp2
  go_ret
  exact ⟨rfl, HB7.out⟩
 have hlf : Dk.line x [102, 105, 108, 108] = (x, if (zs x.parts x.data).2 = true then orE (zs x.parts x.data).1 else [110, 111]) := by
  unfold Dk.line
  rw [if_pos hv]
  exact Dk.say_fill rfl
 have hlc : Dk.line x [99, 104, 101, 99, 107] = (x, jv (Pt.fault x.parts)) := by
  unfold Dk.line
  rw [if_pos hv]
  exact Dk.say_check rfl rfl rfl
 have hok : (zs x.parts x.data).2 = decide (Pt.fault x.parts = 0) := by
  have h1 : Pt.valid x.parts = true /\ Fd.valid x.data = true := by unfold Dk.valid at hv; rw [Bool.and_eq_true] at hv; exact hv
  rw [<- Pt.safe_fault h1.1]
  unfold zs
  rw [h1.2, Bool.and_true]
  split
  ·next h => rw [h]
  next h => exact (by simpa using h : Pt.safe x.parts = false).symm
 have hfn : (jv (Pt.fault x.parts) == [110, 111, 110, 101]) = decide (Pt.fault x.parts = 0) := by
  unfold jv
  split
  ·next h => simp [h]
  next h =>
  rw [decide_eq_false h]
  repeat' split
  all_goals decide
 have hHN := HIM.out w6 [102, 105, 108, 108] (by decide) (HU2.out.now HW6.out) (HM.out.below HB6.out)
 rw [hlf] at hHN
 have HHN := qb hHN
 have hHC := fun w9 hu hm => HIM.out w9 [99, 104, 101, 99, 107] (by decide) hu hm
 simp only [hlc] at hHC
 have HHC := qb hHC
 generalize jv (Pt.fault x.parts) = fn at *
 generalize zs x.parts x.data = so at *
 obtain ⟨sx, sb⟩ := so
 dsimp only at hok HFS HHN
 obtain ⟨ans, hans⟩ : ∃ ans, (if sb = true then orE sx else [110, 111]) = ans := ⟨_, rfl⟩
 rw [hans] at HHN
 have HOK := qb hok
 have HFN := qb hfn
 have HANS := qb hans
 clear hok hfn hans
 obtain ⟨y0, y1, -⟩ := qr (qi HX2.out HW6.out)
 clear hHN hHC hlf hlc HIM hNW HSP hZp hZd
 go_wp2_with fail
 refine HHN.out.mono ?_
 rintro e w7 ⟨A7, c7, A8, c8, rfl, -, hb⟩
 have hA7 := (Below.refl w7.heap.size w7).alloc (Nat.le_refl _) (.cells (qx A7 x.parts.length c7 A8 x.data.length c8) 30)
 have HW67 := qb (qa3 hb hA7)
 have HW7 := qb (qa3 HW6.out HW67.out)
 have HB7 := qb (qa3 HB6.out HW67.out)
 have HFS7 := qb (HFS.out _ (HU2.out.now HW7.out) (HM.out.below HB7.out))
 clear hb hA7 y0 y1 HHN p0 p1 p2 p3 HW36 HB6 HW6 HFS
 obtain ⟨y0, y1, -⟩ := qr (qi HX2.out HW7.out)
 go_wp2_with fail
 generalize w7.alloc (.cells (qx A7 x.parts.length c7 A8 x.data.length c8) 30) = W7 at *
 refine HFS7.out.mono ?_
 rintro e w8 ⟨rfl, hb⟩
 have HW8 := qb (qa3 HW7.out hb)
 have HB8 := qb (qa3 HB7.out hb)
 have HHC8 := qb (HHC.out w8 (HU2.out.now HW8.out) (HM.out.below HB8.out))
 clear hb HFS7 y0 y1 HHC
 obtain ⟨y0, y1, -⟩ := qr (qi HX2.out HW8.out)
 go_wp2_with fail
 refine HHC8.out.mono ?_
 rintro e w9 ⟨A9, c9, A10, c10, rfl, -, hb⟩
 have hA9 := (Below.refl w9.heap.size w9).alloc (Nat.le_refl _) (.cells (qx A9 x.parts.length c9 A10 x.data.length c10) 30)
 have HB9 := qb (HB8.out.trans ((qa3 hb hA9).mono HB8.out.size))
 clear hb hA9 HHC8 y0 y1
 go_upto_region 13 with fail
 generalize w9.alloc (.cells (qx A9 x.parts.length c9 A10 x.data.length c10) 30) = W9 at *
 cases sb
 ·have hf : (fn == [110, 111, 110, 101]) = false := by rw [HFN.out, <- HOK.out]
  have hans := HANS.out
  clear HOK HFN HANS
  rw [if_neg (by decide)] at hans
  subst hans
  go_wp2
  go_ret
  exact ⟨rfl, HB9.out⟩
 have hf : (fn == [110, 111, 110, 101]) = true := by rw [HFN.out, <- HOK.out]
 have hans := HANS.out
 clear HOK HFN HANS
 rw [if_pos rfl] at hans
 subst hans
 cases sx with
 | nil =>
  rw [show orE [] = [101, 109, 112, 116, 121] from rfl]
  go_wp2
  go_ret
  exact ⟨rfl, HB9.out⟩
 | cons a0 l0 =>
  rw [show orE (a0 :: l0) = a0 :: l0 from rfl]
  go_wp2
  go_ret
  exact ⟨rfl, HB9.out⟩
theorem fnDeskFill_lifted (os : Os) (started : os.Started) (H : Type) (enc : TypeId × Value -> H) :
  ReturnsInHanded {} Tryz.checked os 6 .any (Rows.fnDeskFillSpec.pre6 enc Tryz.prog Tryz.f6 Rows.fnDeskFillRow.domain false)
   (Rows.fnDeskFillSpec.post enc Tryz.prog Tryz.f6 false true false false) := by
 refine VC (C := Tryz.checked) Tryz.own started (by kernel_rfl) func6
  (ChangeSpec.witness6 (enc := enc) (C := Tryz.checked) false ⟨#[], #[.slice none 0 0], []⟩ 8 (by kernel_rfl) (by kernel_rfl) (by kernel_rfl) (by kernel_rfl)) ?_
 intro W base args ds gs before hval0 hW _ hsh _
 have hval : ∀ (j : Nat) t v, Tryz.f6.params[j]? = some t -> args[j]? = some v -> Value.okWide Tryz.prog W .any base t v := hval0
 have hW' := hW
 obtain ⟨p, q, hA0, hV, rfl, _, _⟩ := hW
 have hA : DataW.TrodAll enc Tryz.prog W 0 (fun _ => true) true Tryz.f6.params.toList args.toList ds p := hA0
 rw [Tryz.params6] at hA hval
 obtain ⟨v0, d0, rfl, rfl, h0⟩ := trodAll_one hA
 obtain ⟨rfl, rfl⟩ := trodVars_none hV
 obtain ⟨A, c, bs, rfl, hr, hlc, hcm⟩ := YV underlying44 underlying5 (by kernel_rfl) (hval 0 _ v0 rfl rfl) h0
 refine (Wu bs A c W hr hlc (Nat.le_trans hlc hcm) (KW hsh)).mono fun e W' ⟨he, hw⟩ => ?_
 subst he
 exact ⟨_, rfl, VK hW' rfl rfl (by kernel_rfl) underlying4 Tryz.laidOut (of_decide_eq_true (by kernel_rfl)) hw⟩
theorem fnDeskFill_holds : Rows.FnDeskFillSaid :=
 OpenClaim.holds_of_wide 6 Tryz.f6 rfl rfl rfl rfl rfl rfl rfl ⟨rfl, rfl, rfl, rfl, rfl⟩ rfl rfl rfl rfl rfl (by kernel_rfl) func6 (by kernel_rfl)
  (of_decide_eq_true (by kernel_rfl)) (by unfold Func.isWrapper; first | (rw [if_pos (by decide +kernel)]; kernel_rfl) | (rw [if_neg (by decide +kernel)]; exact ⟨rfl, rfl⟩))
  (fun os started H enc _ => fnDeskFill_lifted os started H enc)
#print axioms fnDeskFill_holds
end Go.Proofs.YtmboieajfdkllaaGreat
