/- For every code: the drawn desk answers the drawn line as the reference's does, stays valid, answers an unknown line by what, and is changed by no line but the first four ones: the law FnDeskLine holds. No conditions. -/
import Derived.Test.YtmboieajfdkllaaGreatU45
import Derived.Test.YtmboieajfdkllaaGreatU34
import Derived.Test.YtmboieajfdkllaaGreatU35
import Derived.Test.YtmboieajfdkllaaGreatU41
import Derived.Test.YtmboieajfdkllaaGreatU37
import Derived.Test.YtmboieajfdkllaaGreatU03
import Derived.Test.YtmboieajfdkllaaGreatU01
import Derived.Test.YtmboieajfdkllaaGreatU02
import Derived.Deep.SlicePairs
import Derived.Deep.Fields
set_option maxHeartbeats 16000000
set_option maxRecDepth 100000
open Go.Proofs.Tryz
namespace Go.Proofs.YtmboieajfdkllaaGreat
open Go.RowKit Go.ChangeShapes Go.WideShapes Go.ChangeAt Go.Joins Go.Deep
theorem LnS.split {w w' : World} {r : Dk × Tx} {e : Ending} (h : LnS w r e w') : ∃ A c A2 c2, e = .returned (.tuple #[dkV A r.1.parts.length c A2 r.1.data.length c2, sv r.2]) /\ InD w' (All w') r.1 (dkV A r.1.parts.length c A2 r.1.data.length c2) /\ Below w.heap.size w w' := by
 obtain ⟨v, rfl, hi, hb⟩ := h
 have h2 := hi.toAll
 obtain ⟨A, c, A2, c2, rfl, _⟩ := id h2
 exact ⟨A, c, A2, c2, rfl, h2, hb⟩
theorem Wv (bs : Tx) (A : Option Addr) (c : Nat) (w : World) (hr : Rd w w.heap.size A (Yk bs)) (hc : bs.length <= c) (hm : bs.length <= maxLen) (hM : Hm w) :
  Calls Tryz.prog 7 #[.slice A bs.length c] w fun e w' => e = .returned (.bool true) /\ Below w.heap.size w w' := by
 unfold maxLen at hm
 by_cases h : 1048576 < bs.length
 ·go_enter func7, ntmps7
  go_wp2
  go_ret
  exact ⟨rfl, Below.refl _ _⟩
 have HD := qb (Wh bs A c w hr hc (by omega))
 have HM := qb hM
 clear hr hM
 go_enter func7, ntmps7
 go_wp2_with fail
 refine HD.out.mono ?_
 rintro e w1 ⟨A1, c1, A2, c2, x, t, rfl, hin, hsz, htl, hb1⟩
 have hA0 := (Below.refl w1.heap.size w1).alloc (Nat.le_refl _) (.cells (qx A1 x.parts.length c1 A2 x.data.length c2) 30)
 have HX2 := qb (heap_alloc_new w1 (.cells (qx A1 x.parts.length c1 A2 x.data.length c2) 30))
 have HU2 := qb (hin.now hA0)
 have HB2 := qb (qa3 hb1 hA0)
 have hZ : Dk.size x <= 1048576 := by omega
 have HIM := qb (fun w3 t (ht : t.length <= 1048576) (hu : InD w3 (All w3) x (dkV A1 x.parts.length c1 A2 x.data.length c2)) hm => (QR x _ t w3 hu hZ ht hm).mono (R' := fun e w' => ∃ A c A2 c2, e = .returned (.tuple #[dkV A (Dk.line x t).1.parts.length c A2 (Dk.line x t).1.data.length c2, sv (Dk.line x t).2]) /\ InD w' (All w') (Dk.line x t).1 (dkV A (Dk.line x t).1.parts.length c A2 (Dk.line x t).1.data.length c2) /\ Below w3.heap.size w3 w') (fun e w' h => h.toS.split))
 have HSP := qb (fun w3 t (ht : t.length <= 1048576) (hu : InD w3 (All w3) x (dkV A1 x.parts.length c1 A2 x.data.length c2)) => (Xv x _ t w3 hu hZ ht).mono (R' := fun e w' => ∃ A c A2 c2, e = .returned (.tuple #[dkV A (Dk.line x t).1.parts.length c A2 (Dk.line x t).1.data.length c2, sv (Dk.line x t).2]) /\ InD w' (All w') (Dk.line x t).1 (dkV A (Dk.line x t).1.parts.length c A2 (Dk.line x t).1.data.length c2) /\ Below w3.heap.size w3 w') (fun e w' h => h.split))
 have HSV := qb (fun w3 (hu : InD w3 (All w3) x (dkV A1 x.parts.length c1 A2 x.data.length c2)) => VE x _ w3 hu hZ)
 have HLI := qb (HIM.out _ t (by omega) HU2.out (HM.out.below HB2.out))
 have HLS := qb (fun w3 hu => HSP.out w3 t (by omega) hu)
 have hRS : Dk.size (Dk.line x t).1 <= 1048576 := by have := Dk.line_size x t; omega
 have HRV := qb (Dk.line_valid x t)
 have HRI : Hid (Dk.valid x = false -> Dk.line x t = (⟨[], []⟩, [])) := fun h => by unfold Dk.line; rw [h]; rfl
 have HRA : Hid (Dk.valid x = true -> ((Dk.line x t).2 != []) = true) := fun h => by
  unfold Dk.line
  rw [if_pos h, bne_iff_ne]
  exact Dk.say_ne x t
 have HRS : Hid (Dk.valid x = true -> (t == [102, 105, 108, 108]) = true \/ (t == [112, 108, 97, 105, 110]) = true \/ (t == [99, 104, 101, 99, 107]) = true \/ ((Dk.line x t).2 == [110, 111]) = true \/ ((Dk.line x t).2 == [119, 104, 97, 116]) = true -> (Dk.line x t).1 = x) := fun h => by
  unfold Dk.line
  rw [if_pos h]
  intro h2
  simp only [beq_iff_eq] at h2
  exact Dk.say_same x t h2
 have hNW := qb (HIM.out)
 generalize Dk.line x t = r at *
 obtain ⟨rd, ra⟩ := r
 dsimp only at hRS HRV HRI HRA HRS HLI HLS
 have hrr : (ra != ra) = false := by simp
 have hz2 : w1.heap.size < (w1.alloc (.cells (qx A1 x.parts.length c1 A2 x.data.length c2) 30)).heap.size := by simp
 clear hb1 HD hin hA0 hsz htl
 go_upto_region 4 with fail
 generalize w1.alloc (.cells (qx A1 x.parts.length c1 A2 x.data.length c2) 30) = w2 at *
 obtain ⟨y0, y1, -⟩ := qr HX2.out
 go_wp2_with fail
 refine HLI.out.mono ?_
 rintro e w3 ⟨A3, c3, A4, c4, rfl, hi3, hb⟩
 have hA3 := (Below.refl w3.heap.size w3).alloc (Nat.le_refl _) (.cells (qx A3 rd.parts.length c3 A4 rd.data.length c4) 30)
 have HW3 := qb (qa3 hb hA3)
 have HX3 := qb (heap_alloc_new w3 (.cells (qx A3 rd.parts.length c3 A4 rd.data.length c4) 30))
 have HI3 := qb (hi3.now hA3)
 have hz3 : w3.heap.size < (w3.alloc (.cells (qx A3 rd.parts.length c3 A4 rd.data.length c4) 30)).heap.size := by simp
 have hzz : w2.heap.size <= w3.heap.size := hb.size
 have HLS3 := qb (HLS.out _ (HU2.out.now HW3.out))
 clear hi3 hb hA3 HLI y0 y1
 obtain ⟨y0, y1, -⟩ := qr (qi HX2.out HW3.out)
 go_wp2_with fail
 generalize w3.alloc (.cells (qx A3 rd.parts.length c3 A4 rd.data.length c4) 30) = W3 at *
 refine HLS3.out.mono ?_
 rintro e w4 ⟨A5, c5, A6, c6, rfl, hi4, hb⟩
 have hA4 := (Below.refl w4.heap.size w4).alloc (Nat.le_refl _) (.cells (qx A5 rd.parts.length c5 A6 rd.data.length c6) 30)
 have HW34 := qb (qa3 hb hA4)
 have HW4 := qb (qa3 HW3.out HW34.out)
 have HX4 := qb (qi HX3.out HW34.out)
 have HSD := qb (Ys rd _ _ _ (HI3.out.now HW34.out) (hi4.now hA4) hRS)
 obtain ⟨q0, q1, -⟩ := qr (heap_alloc_new w4 (.cells (qx A5 rd.parts.length c5 A6 rd.data.length c6) 30))
 obtain ⟨p0, p1, -⟩ := qr HX4.out
 clear hi4 hb hA4 HLS3 HLS y0 y1
 go_wp2_with fail
 generalize w4.alloc (.cells (qx A5 rd.parts.length c5 A6 rd.data.length c6) 30) = W4 at *
 refine HSD.out.mono ?_
 rintro e w5 ⟨rfl, hb⟩
 have HW5 := qb (qa3 HW4.out hb)
 have HW35 := qb (qa3 HW34.out hb)
 have HSV5 := qb (HSV.out w5 (HU2.out.now HW5.out))
 clear hb HSD q0 q1 p0 p1 HX4 HW34 HW4
 obtain ⟨y0, y1, -⟩ := qr (qi HX2.out HW5.out)
 go_wp2_with fail
 refine HSV5.out.mono ?_
 rintro e w6 ⟨rfl, hb⟩
 have HW6 := qb (qa3 HW5.out hb)
 have HW36 := qb (qa3 HW35.out hb)
 have HB6 := qb (qa3 HB2.out HW6.out)
 obtain ⟨p0, p1, p2, p3⟩ := qr (qi HX3.out HW36.out)
 clear hb HSV5 y0 y1 HW5 HW35
 rcases hv : Dk.valid x with _ | _
 ·have hri := HRI.out hv
  injection hri with h1 h2
  subst h1 h2
  have HAL := qb (YT w6)
  clear HRS HRA HRV HRI
  go_wp2_with fail
  refine HAL.out.mono ?_
  rintro e w7 ⟨rfl, hb⟩
  have HB7 := qb (qa3 HB6.out hb)
  clear hb
  go_wp2
  go_ret
  exact ⟨rfl, HB7.out⟩
 have hra := HRA.out hv
 have hrs := HRS.out hv
 have HRS2 := qb hrs
 have hln : Dk.line x [110, 111, 116, 104, 105, 110, 103] = (x, [119, 104, 97, 116]) := by
  unfold Dk.line
  rw [if_pos hv]
  exact Dk.say_nothing x
 have hHN := HIM.out w6 [110, 111, 116, 104, 105, 110, 103] (by decide) (HU2.out.now HW6.out) (HM.out.below HB6.out)
 rw [hln] at hHN
 have HHN := qb hHN
 obtain ⟨y0, y1, -⟩ := qr (qi HX2.out HW6.out)
 clear hHN hln HIM hNW HSP HRS HRA HRI hrs
 go_wp2_with fail
 refine HHN.out.mono ?_
 rintro e w7 ⟨A7, c7, A8, c8, rfl, hi7, hb⟩
 dsimp only at hi7 ⊢
 have hA7 := (Below.refl w7.heap.size w7).alloc (Nat.le_refl _) (.cells (qx A7 x.parts.length c7 A8 x.data.length c8) 30)
 have HW67 := qb (qa3 hb hA7)
 have HX7 := qb (heap_alloc_new w7 (.cells (qx A7 x.parts.length c7 A8 x.data.length c8) 30))
 have HI7 := qb (hi7.now hA7)
 have HW7 := qb (qa3 HW6.out HW67.out)
 have HW37 := qb (qa3 HW36.out HW67.out)
 have HB7 := qb (qa3 HB6.out HW67.out)
 clear hi7 hb hA7 y0 y1 HHN p0 p1 p2 p3 HW36 HB6 HW6
 go_upto_region 11 with fail
 generalize w7.alloc (.cells (qx A7 x.parts.length c7 A8 x.data.length c8) 30) = W7 at *
 go_cut [11] (fun s wx => ∃ bo : Bool, s = .bool bo /\ (bo = true -> rd = x) /\ W7 = wx)
 case first =>
  cases f1 : (t == [102, 105, 108, 108])
  case true =>
   go_wp2
   go_meet
   case rel => exact ⟨true, rfl, fun _ => HRS2.out (.inl f1), rfl⟩
  cases f2 : (t == [112, 108, 97, 105, 110])
  case true =>
   go_wp2
   go_meet
   case rel => exact ⟨true, rfl, fun _ => HRS2.out (.inr (.inl f2)), rfl⟩
  cases f3 : (t == [99, 104, 101, 99, 107])
  case true =>
   go_wp2
   go_meet
   case rel => exact ⟨true, rfl, fun _ => HRS2.out (.inr (.inr (.inl f3))), rfl⟩
  cases f4 : (ra == [110, 111])
  case true =>
   go_wp2
   go_meet
   case rel => exact ⟨true, rfl, fun _ => HRS2.out (.inr (.inr (.inr (.inl f4)))), rfl⟩
  cases f5 : (ra == [119, 104, 97, 116])
  case true =>
   go_wp2
   go_meet
   case rel => exact ⟨true, rfl, fun _ => HRS2.out (.inr (.inr (.inr (.inr f5)))), rfl⟩
  go_wp2
  go_meet
  case rel => exact ⟨false, rfl, (fun h => by cases h), rfl⟩
 obtain ⟨bo, rfl, hbo, rfl⟩ := hcut
 obtain ⟨a0, rt, rfl⟩ : ∃ a0 rt, ra = a0 :: rt := by
  cases ra with
  | nil => exact absurd hra (by decide)
  | cons a l => exact ⟨a, l, rfl⟩
 have HBO := qb hbo
 have HDV := qb (VD rd _ W7 (HI3.out.now HW37.out) hRS (HM.out.below HB7.out))
 rw [HRV.out] at HDV
 obtain ⟨y0, y1, -⟩ := qr (qi HX3.out HW37.out)
 clear hbo HRV HRS2
 go_wp2_with fail
 refine HDV.out.mono ?_
 rintro e w8 ⟨rfl, hb⟩
 have HW8 := qb (qa3 HW7.out hb)
 have HW38 := qb (qa3 HW37.out hb)
 have HSD8 := qb (Ys x _ _ w8 (HI7.out.now hb) (HU2.out.now HW8.out) hZ)
 have HB8 := qb (qa3 HB7.out hb)
 obtain ⟨q0, q1, -⟩ := qr (qi HX7.out hb)
 obtain ⟨p0, p1, -⟩ := qr (qi HX2.out HW8.out)
 clear hb HDV y0 y1
 go_wp2_with fail
 refine HSD8.out.mono ?_
 rintro e w9 ⟨rfl, hb⟩
 have HB9 := qb (qa3 HB8.out hb)
 have HW9 := qb (qa3 HW8.out hb)
 have HW39 := qb (qa3 HW38.out hb)
 clear hb HSD8 q0 q1 p0 p1
 cases bo
 ·go_wp2
  go_ret
  exact ⟨rfl, HB9.out⟩
 have hrd := HBO.out rfl
 subst hrd
 have HSD9 := qb (Ys rd _ _ w9 (HI3.out.now HW39.out) (HU2.out.now HW9.out) hZ)
 obtain ⟨q0, q1, -⟩ := qr (qi HX3.out HW39.out)
 obtain ⟨p0, p1, -⟩ := qr (qi HX2.out HW9.out)
 go_wp2_with fail
 refine HSD9.out.mono ?_
 rintro e w10 ⟨rfl, hb⟩
 have HB10 := qb (qa3 HB9.out hb)
 clear hb
 go_wp2
 go_ret
 exact ⟨rfl, HB10.out⟩
theorem fnDeskLine_lifted (os : Os) (started : os.Started) (H : Type) (enc : TypeId × Value -> H) :
  ReturnsInHanded {} Tryz.checked os 7 .any (Rows.fnDeskLineSpec.pre6 enc Tryz.prog Tryz.f7 Rows.fnDeskLineRow.domain false)
   (Rows.fnDeskLineSpec.post enc Tryz.prog Tryz.f7 false true false false) := by
 refine VC (C := Tryz.checked) Tryz.own started (by kernel_rfl) func7
  (ChangeSpec.witness6 (enc := enc) (C := Tryz.checked) false ⟨#[], #[.slice none 0 0], []⟩ 8 (by kernel_rfl) (by kernel_rfl) (by kernel_rfl) (by kernel_rfl)) ?_
 intro W base args ds gs before hval0 hW _ hsh _
 have hval : ∀ (j : Nat) t v, Tryz.f7.params[j]? = some t -> args[j]? = some v -> Value.okWide Tryz.prog W .any base t v := hval0
 have hW' := hW
 obtain ⟨p, q, hA0, hV, rfl, _, _⟩ := hW
 have hA : DataW.TrodAll enc Tryz.prog W 0 (fun _ => true) true Tryz.f7.params.toList args.toList ds p := hA0
 rw [Tryz.params7] at hA hval
 obtain ⟨v0, d0, rfl, rfl, h0⟩ := trodAll_one hA
 obtain ⟨rfl, rfl⟩ := trodVars_none hV
 obtain ⟨A, c, bs, rfl, hr, hlc, hcm⟩ := YV underlying44 underlying5 (by kernel_rfl) (hval 0 _ v0 rfl rfl) h0
 refine (Wv bs A c W hr hlc (Nat.le_trans hlc hcm) (KW hsh)).mono fun e W' ⟨he, hw⟩ => ?_
 subst he
 exact ⟨_, rfl, VK hW' rfl rfl (by kernel_rfl) underlying4 Tryz.laidOut (of_decide_eq_true (by kernel_rfl)) hw⟩
theorem fnDeskLine_holds : Rows.FnDeskLineSaid :=
 OpenClaim.holds_of_wide 7 Tryz.f7 rfl rfl rfl rfl rfl rfl rfl ⟨rfl, rfl, rfl, rfl, rfl⟩ rfl rfl rfl rfl rfl (by kernel_rfl) func7 (by kernel_rfl)
  (of_decide_eq_true (by kernel_rfl)) (by unfold Func.isWrapper; first | (rw [if_pos (by decide +kernel)]; kernel_rfl) | (rw [if_neg (by decide +kernel)]; exact ⟨rfl, rfl⟩))
  (fun os started H enc _ => fnDeskLine_lifted os started H enc)
#print axioms fnDeskLine_holds
end Go.Proofs.YtmboieajfdkllaaGreat
