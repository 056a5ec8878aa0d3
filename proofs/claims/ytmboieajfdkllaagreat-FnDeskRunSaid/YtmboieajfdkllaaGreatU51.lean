/- For every code: the drawn desk's session is the reference's; of a desk that is not valid, or of too many lines, there is nothing; else two parts of the lines lead to the same desk, with all answers, one for every line: the law FnDeskRun holds. No conditions. -/
import Derived.Test.YtmboieajfdkllaaGreatU46
import Derived.Test.YtmboieajfdkllaaGreatU47
import Derived.Test.YtmboieajfdkllaaGreatU41
import Derived.Test.YtmboieajfdkllaaGreatU06
import Derived.Test.YtmboieajfdkllaaGreatU37
import Derived.Test.YtmboieajfdkllaaGreatU03
import Derived.Test.YtmboieajfdkllaaGreatU01
import Derived.Test.YtmboieajfdkllaaGreatU02
import Derived.Deep.SlicePairs
import Derived.Deep.Fields
set_option maxHeartbeats 16000000
set_option maxRecDepth 100000
open Go.Proofs.Tryz
namespace Go.Proofs.YtmboieajfdkllaaGreat
open Go.RowKit Go.ChangeShapes Go.WideShapes Go.ChangeAt Go.Joins Go.Deep
def RnR (w : World) (r : Dk × List Tx) (e : Ending) (w' : World) : Prop := ∃ A c A2 c2 As cs, e = .returned (.tuple #[dkV A r.1.parts.length c A2 r.1.data.length c2, .slice As (List.length r.2) cs]) /\ InD w' (Rg w.heap.size w') r.1 (dkV A r.1.parts.length c A2 r.1.data.length c2) /\ OwnS w' w.heap.size As cs r.2 /\ Below w.heap.size w w'
theorem RnI.toR {w w' : World} {r : Dk × List Tx} {e : Ending} (h : RnI w r e w') : RnR w r e w' := by
 obtain ⟨Ap, cp, rs, Ad, cd, fs, A, c, B, E, rfl, hB, hd, ho, _, hb⟩ := h
 have h2 := hd.ow.inR hB
 obtain ⟨A1, c1, A2, c2, e, _⟩ := id h2
 rw [e] at h2 ⊢
 exact ⟨A1, c1, A2, c2, A, c, rfl, h2, ho, hb⟩
theorem RnS.toA {w w' : World} {r : Dk × List Tx} {e : Ending} (h : RnS w r e w') : ∃ A c A2 c2 As cs, e = .returned (.tuple #[dkV A r.1.parts.length c A2 r.1.data.length c2, .slice As (List.length r.2) cs]) /\ InD w' (All w') r.1 (dkV A r.1.parts.length c A2 r.1.data.length c2) /\ OwnS w' w.heap.size As cs r.2 /\ Below w.heap.size w w' := by
 obtain ⟨v, A, c, rfl, hi, ho, hb⟩ := h
 obtain ⟨A1, c1, A2, c2, rfl, _⟩ := id hi
 exact ⟨A1, c1, A2, c2, A, c, rfl, hi, ho, hb⟩
theorem Yl {w w' : World} {B : Nat} {A : Option Addr} {xs : List Value} (h : Rd w B A xs) (hb : Below B w w') (hB : B <= w.heap.size) : Rd w' w'.heap.size A xs := (h.below hb).more (Nat.le_trans hB hb.size)
theorem WH {w : World} {base c : Nat} {A : Option Addr} {xs : List Tx} (h : OwnS w base A c xs) : (A = none /\ c = 0 /\ xs = []) \/ ∃ g, A = some ⟨g, 0, none⟩ /\ xs.length <= c := by
 rcases h.2 with ⟨e, h2⟩ | ⟨g, cap, cur, e, _, _, h1, _⟩
 ·injection e with e1 e2 e3
  exact .inl ⟨e1, e3, List.eq_nil_of_length_eq_zero h2⟩
 injection e with e1 e2 e3
 subst e3
 exact .inr ⟨g, e1, h1⟩
theorem WK {w : World} {B : Nat} {A : Option Addr} {xs : List Tx} (k : Nat) (h : Rd w B A (qS xs)) : Rd w B A (qS (xs.take k)) := by
 have e : qS xs = qS (xs.take k) ++ qS (xs.drop k) := by rw [YB, YB, YB, <- List.map_append, List.take_append_drop]
 rw [e] at h
 exact h.front
theorem WJ {w : World} {B b o : Nat} {xs : List Tx} (k : Nat) (h : Rd w B (some ⟨b, o, none⟩) (qS xs)) : Rd w B (some ⟨b, o + k, none⟩) (qS (xs.drop k)) := fun hne => by
 have e9 : qS (xs.drop k) = (qS xs).drop k := by rw [YB, YB, List.map_drop]
 rw [e9] at hne ⊢
 obtain ⟨b', o', e, hb, hc⟩ := h (fun e => hne (by rw [e]; simp))
 simp only [Option.some.injEq, Addr.mk.injEq, and_true] at e
 obtain ⟨rfl, rfl⟩ := e
 refine ⟨b, o + k, rfl, hb, fun j u hu => ?_⟩
 rw [List.getElem?_drop] at hu
 rw [Nat.add_assoc]
 exact hc _ _ hu
theorem Wp {P : Program} {ops : Array Oper} {rest : List Oper} {o : Oper} {a : Act} {Q : Exit -> Act -> World -> Prop} {W : World} (hw : Region.wanted o (yielded ops a.tmps) = true)
  (h : wpList P ops Q ({ o with guard := none } :: rest) a W) : wpList P ops Q (o :: rest) a W := by
 unfold wpList at *
 rw [if_pos hw]
 rw [if_pos (vv rfl _)] at h
 exact h
def RnB (w wx : World) (r : Dk × List Tx) (p a : Value) : Prop := ∃ (b : Nat) (A7 : Option Addr) (c7 : Nat) (A8 : Option Addr) (c8 : Nat) (A9 : Option Addr) (c9 : Nat), p = .pointer (some ⟨b, 0, none⟩) /\ a = .slice A9 (List.length r.2) c9 /\ w.heap.size <= b /\ wx.heap[b]? = some (.cells (qx A7 r.1.parts.length c7 A8 r.1.data.length c8) 30 (0, 0)) /\ InD wx (All wx) r.1 (dkV A7 r.1.parts.length c7 A8 r.1.data.length c8) /\ OwnS wx w.heap.size A9 c9 r.2 /\ Below w.heap.size w wx
theorem Wd {w wa w8 : World} {r : Dk × List Tx} {A7 A8 A9 : Option Addr} {c7 c8 c9 : Nat} (hs : wa.heap.size = w.heap.size + 1) (hwa : Below w.heap.size w wa) (hq : w8.heap[w.heap.size]? = some (.cells #[.slice none 0 0, .slice none 0 0] 30 (0, 0))) (hi : InD w8 (Rg wa.heap.size w8) r.1 (dkV A7 r.1.parts.length c7 A8 r.1.data.length c8)) (ho : OwnS w8 wa.heap.size A9 c9 r.2) (hb : Below wa.heap.size wa w8) :
  RnB w ((w8.setCell ⟨w.heap.size, 0, none⟩ (.slice A7 r.1.parts.length c7)).setCell ⟨w.heap.size, 1, none⟩ (.slice A8 r.1.data.length c8)) r (.pointer (some ⟨w.heap.size, 0, none⟩)) (.slice A9 (List.length r.2) c9) := by
 have hk : ∀ j, j ≠ w.heap.size -> ((w8.setCell ⟨w.heap.size, 0, none⟩ (.slice A7 r.1.parts.length c7)).setCell ⟨w.heap.size, 1, none⟩ (.slice A8 r.1.data.length c8)).heap[j]? = w8.heap[j]? := fun j hj => (Below.heap_setCell _ _ _ _ (by show j ≠ w.heap.size; exact hj)).trans (Below.heap_setCell _ _ _ _ (by show j ≠ w.heap.size; exact hj))
 refine ⟨w.heap.size, A7, c7, A8, c8, A9, c9, rfl, rfl, Nat.le_refl _, VQ hq, InD.keep (fun p hp => World.cell?_of_block (hk _ (by have := hp.1; omega))) (fun k hk => ?_) _ _ hi, zC (zt ho (fun g hg => hk g (by have := (ho.lt g hg).1; omega))) (by omega), ((qa3 hwa hb).setCell (Nat.le_refl _) _).setCell (Nat.le_refl _) _⟩
 have := hk.2
 simpa [World.setCell] using this
theorem We {w wa w8 : World} {r : Dk × List Tx} {A7 A8 A9 : Option Addr} {c7 c8 c9 : Nat} (hwa : Below w.heap.size w wa) (hi : InD w8 (Rg wa.heap.size w8) r.1 (dkV A7 r.1.parts.length c7 A8 r.1.data.length c8)) (ho : OwnS w8 wa.heap.size A9 c9 r.2) (hb : Below wa.heap.size wa w8) :
  RnB w (w8.alloc (.cells (qx A7 r.1.parts.length c7 A8 r.1.data.length c8) 30)) r (.pointer (some ⟨w8.heap.size, 0, none⟩)) (.slice A9 (List.length r.2) c9) := by
 have hA := (Below.refl w8.heap.size w8).alloc (Nat.le_refl _) (.cells (qx A7 r.1.parts.length c7 A8 r.1.data.length c8) 30)
 have hb8 := qa3 hwa hb
 exact ⟨w8.heap.size, A7, c7, A8, c8, A9, c9, rfl, rfl, hb8.size, heap_alloc_new _ _, hi.toAll.now hA, zC (jy ho hA) hwa.size, hb8.trans (hA.mono hb8.size)⟩
theorem Ww (bs : Tx) (A : Option Addr) (c : Nat) (w : World) (hr : Rd w w.heap.size A (Yk bs)) (hc : bs.length <= c) (hm : bs.length <= maxLen) (hM : Hm w) :
  Calls Tryz.prog 5 #[.slice A bs.length c] w fun e w' => e = .returned (.bool true) /\ Below w.heap.size w w' := by
 unfold maxLen at hm
 by_cases h : 1048576 < bs.length
 ·go_enter func5, ntmps5
  go_wp2
  go_ret
  exact ⟨rfl, Below.refl _ _⟩
 have HD := qb (WM bs A c w hr hc (by omega))
 have HM := qb hM
 clear hr hM
 go_enter func5, ntmps5
 go_wp2_with fail
 refine HD.out.mono ?_
 rintro e w1 ⟨A1, c1, A2, c2, x, As, cs, ls, rfl, hin, hsz, hos, hll, hsh, hb1⟩
 have hA0 := (Below.refl w1.heap.size w1).alloc (Nat.le_refl _) (.cells (qx A1 x.parts.length c1 A2 x.data.length c2) 30)
 have HX2 := qb (heap_alloc_new w1 (.cells (qx A1 x.parts.length c1 A2 x.data.length c2) 30))
 have HU2 := qb (hin.now hA0)
 have HR2 := qb (Rd.of_own (jy hos hA0))
 have HB2 := qb (qa3 hb1 hA0)
 have HOS := qb (WH hos)
 have HSH : Hid (∀ t ∈ ls, t.length <= 1048576) := fun t ht => by have := hsh t ht; omega
 have hZ : Dk.size x <= 1048576 := by omega
 have HIM := qb (fun w3 d u ls A c (hu : InD w3 (All w3) d u) (hz : Dk.size d <= 1048576) (hs : ∀ t ∈ ls, t.length <= 1048576) (hr : Rd w3 w3.heap.size A (qS ls)) (hl : ls.length <= 21) hm => (VV d u ls A c w3 hu hz hs hr (by omega) hm).mono (R' := RnR w3 (Dk.runOf d ls)) (fun e w' h => h.toR))
 have HLI := qb (HIM.out _ x _ ls As cs HU2.out hZ HSH.out HR2.out hll (HM.out.below HB2.out))
 have HLS := qb (fun w3 (hu : InD w3 (All w3) x (dkV A1 x.parts.length c1 A2 x.data.length c2)) (hr : Rd w3 w3.heap.size As (qS ls)) => (VX x _ ls As cs w3 hu hZ HSH.out hr (by omega)).mono (R' := _) (fun e w' h => h.toA))
 have HSV := qb (fun w3 (hu : InD w3 (All w3) x (dkV A1 x.parts.length c1 A2 x.data.length c2)) => VE x _ w3 hu hZ)
 have hRS : Dk.size (Dk.runOf x ls).1 <= 1048576 := by have := Dk.runOf_size x ls; omega
 have hRL := Dk.runOf_len x ls
 have HRI : Hid (¬ (Dk.valid x = true /\ ls.length <= 20) -> Dk.runOf x ls = (⟨[], []⟩, [])) := fun h => by unfold Dk.runOf; rw [if_neg h]; rfl
 have HRV : Hid (Dk.valid x = true -> ls.length <= 20 -> Dk.runOf x ls = Dk.run x ls) := fun h1 h2 => by unfold Dk.runOf; rw [if_pos ⟨h1, h2⟩]
 generalize Dk.runOf x ls = r at *
 obtain ⟨rd, ra⟩ := r
 dsimp only at hRS hRL HRI HRV HLS
 clear hb1 HD hin hA0 hsz hos hsh
 have HLS2 := qb HLS.out
 go_upto_region 4 with fail
 generalize w1.alloc (.cells (qx A1 x.parts.length c1 A2 x.data.length c2) 30) = w2 at *
 obtain ⟨y0, y1, -⟩ := qr HX2.out
 go_wp2_with fail
 refine HLI.out.mono ?_
 rintro e w3 ⟨A3, c3, A4, c4, A31, c31, rfl, hi3, ho3, hb⟩
 dsimp only at hi3 ho3 ⊢
 have hA3 := (Below.refl w3.heap.size w3).alloc (Nat.le_refl _) (.cells (qx A3 rd.parts.length c3 A4 rd.data.length c4) 30)
 have HW3 := qb (qa3 hb hA3)
 have HX3 := qb (heap_alloc_new w3 (.cells (qx A3 rd.parts.length c3 A4 rd.data.length c4) 30))
 have HI3 := qb (hi3.toAll.now hA3)
 have HT3 := qb (Rd.of_own (jy ho3 hA3))
 have HLS3 := qb (HLS.out _ (HU2.out.now HW3.out) (Yl HR2.out HW3.out (Nat.le_refl _)))
 clear hi3 ho3 hb hA3 HLI y0 y1
 obtain ⟨y0, y1, -⟩ := qr (qi HX2.out HW3.out)
 go_wp2_with fail
 generalize w3.alloc (.cells (qx A3 rd.parts.length c3 A4 rd.data.length c4) 30) = W3 at *
 refine HLS3.out.mono ?_
 rintro e w4 ⟨A5, c5, A6, c6, A51, c51, rfl, hi4, ho4, hb⟩
 dsimp only at hi4 ho4 ⊢
 have hA4 := (Below.refl w4.heap.size w4).alloc (Nat.le_refl _) (.cells (qx A5 rd.parts.length c5 A6 rd.data.length c6) 30)
 have HW34 := qb (qa3 hb hA4)
 have HW4 := qb (qa3 HW3.out HW34.out)
 have HX4 := qb (qi HX3.out HW34.out)
 have HT4 := qb (Rd.of_own (jy ho4 hA4))
 have HSD := qb (Ys rd _ _ _ (HI3.out.now HW34.out) (hi4.now hA4) hRS)
 obtain ⟨q0, q1, -⟩ := qr (heap_alloc_new w4 (.cells (qx A5 rd.parts.length c5 A6 rd.data.length c6) 30))
 obtain ⟨p0, p1, -⟩ := qr HX4.out
 clear hi4 ho4 hb hA4 HLS3 HLS HLS2 y0 y1
 go_wp2_with fail
 generalize w4.alloc (.cells (qx A5 rd.parts.length c5 A6 rd.data.length c6) 30) = W4 at *
 refine HSD.out.mono ?_
 rintro e w5 ⟨rfl, hb⟩
 have HW5 := qb (qa3 HW4.out hb)
 have HW35 := qb (qa3 HW34.out hb)
 have hst := YU ra ra A31 A51 c31 c51 w5 (Yl HT3.out HW35.out (Nat.le_refl _)) (Yl HT4.out hb (Nat.le_refl _)) (by unfold maxLen; omega)
 rw [beq_self_eq_true] at hst
 have HST := qb hst
 clear hb HSD q0 q1 p0 p1 HX4 HW34 HW4 hst HT4
 go_wp2_with fail
 refine HST.out.mono ?_
 rintro e w5b ⟨rfl, hb⟩
 have HW5b := qb (qa3 HW5.out hb)
 have HW35b := qb (qa3 HW35.out hb)
 have HSV5 := qb (HSV.out w5b (HU2.out.now HW5b.out))
 clear hb HST HW5 HW35
 obtain ⟨y0, y1, -⟩ := qr (qi HX2.out HW5b.out)
 go_wp2_with fail
 refine HSV5.out.mono ?_
 rintro e w6 ⟨rfl, hb⟩
 have HW6 := qb (qa3 HW5b.out hb)
 have HW36 := qb (qa3 HW35b.out hb)
 have HB6 := qb (qa3 HB2.out HW6.out)
 obtain ⟨p0, p1, p2, p3⟩ := qr (qi HX3.out HW36.out)
 clear hb HSV5 y0 y1 HW5b HW35b
 by_cases hgo : Dk.valid x = true /\ ls.length <= 20
 case neg =>
  have hri := HRI.out hgo
  injection hri with h1 h2
  subst h1 h2
  have HAL := qb (YT w6)
  have hcs : Dk.valid x = false \/ (Dk.valid x = true /\ ls.length = 21) := by
   cases hv : Dk.valid x
   ·exact .inl rfl
   exact .inr ⟨rfl, by have : ¬ ls.length <= 20 := fun h => hgo ⟨hv, h⟩; omega⟩
  clear HRI HRV hgo
  rcases hcs with hv | ⟨hv, hl⟩
  ·rw [hv]
   go_wp2_with fail
   refine HAL.out.mono ?_
   rintro e w7 ⟨rfl, hb⟩
   have HB7 := qb (qa3 HB6.out hb)
   clear hb
   go_wp2
   go_ret
   exact ⟨rfl, HB7.out⟩
  rw [hv]
  go_wp2_with fail
  refine HAL.out.mono ?_
  rintro e w7 ⟨rfl, hb⟩
  have HB7 := qb (qa3 HB6.out hb)
  clear hb
  go_wp2
  go_ret
  exact ⟨rfl, HB7.out⟩
 obtain ⟨hv, hl20⟩ := hgo
 rw [hv]
 have hrr := HRV.out hv hl20
 obtain ⟨k, hk⟩ : ∃ k, ls.length / 2 = k := ⟨_, rfl⟩
 have hkl : k <= ls.length := by omega
 have hki : (ls.length : Int) / 2 = (k : Int) := by omega
 have hap : Dk.run x ls = ((Dk.run (Dk.run x (ls.take k)).1 (ls.drop k)).1, (Dk.run x (ls.take k)).2 ++ (Dk.run (Dk.run x (ls.take k)).1 (ls.drop k)).2) := by rw [<- Dk.run_append, List.take_append_drop]
 have hyv : Dk.valid (Dk.run x (ls.take k)).1 = true := Dk.run_valid hv _
 have hyl : (Dk.run x (ls.take k)).2.length = k := by rw [Dk.run_len, List.length_take]; omega
 have hzl : (Dk.run (Dk.run x (ls.take k)).1 (ls.drop k)).2.length = ls.length - k := by rw [Dk.run_len, List.length_drop]
 have hral : ra.length = ls.length := by
  have h := Dk.run_len x ls
  rw [<- hrr] at h
  exact h
 have HC1 : Hid (∀ w9 c, Below w6.heap.size w6 w9 -> Calls Tryz.prog 18 #[dkV A1 x.parts.length c1 A2 x.data.length c2, .slice As k c] w9 (RnR w9 (Dk.run x (ls.take k)))) := qb (fun w9 c hb => by
  have h := HIM.out w9 x _ (ls.take k) As c (HU2.out.now (qa3 HW6.out hb)) hZ (fun t ht => HSH.out t (List.mem_of_mem_take ht)) (WK k (Yl HR2.out (qa3 HW6.out hb) (Nat.le_refl _))) (by rw [List.length_take]; omega) (HM.out.below (qa3 HB6.out hb))
  rw [List.length_take, Nat.min_eq_left hkl, show Dk.runOf x (ls.take k) = Dk.run x (ls.take k) from by unfold Dk.runOf; rw [if_pos ⟨hv, by rw [List.length_take]; omega⟩]] at h
  exact h)
 generalize Dk.run x (ls.take k) = y at *
 obtain ⟨yd, ya⟩ := y
 dsimp only at hap hyv hyl hzl
 have hys : Dk.size yd <= 1048576 := by have := Dk.valid_size hyv; omega
 have HC2 : Hid (∀ w9 u A c, Below w6.heap.size w6 w9 -> InD w9 (All w9) yd u -> Rd w9 w9.heap.size A (qS (ls.drop k)) -> Calls Tryz.prog 18 #[u, .slice A (ls.length - k) c] w9 (RnR w9 (Dk.run yd (ls.drop k)))) := qb (fun w9 u A c hb hu hr => by
  have h := HIM.out w9 yd u (ls.drop k) A c hu hys (fun t ht => HSH.out t (List.mem_of_mem_drop ht)) hr (by rw [List.length_drop]; omega) (HM.out.below (qa3 HB6.out hb))
  rw [List.length_drop, show Dk.runOf yd (ls.drop k) = Dk.run yd (ls.drop k) from by unfold Dk.runOf; rw [if_pos ⟨hyv, by rw [List.length_drop]; omega⟩]] at h
  exact h)
 generalize Dk.run yd (ls.drop k) = z at *
 obtain ⟨zd, za⟩ := z
 dsimp only at hap hzl
 rw [hap] at hrr
 injection hrr with h1 h2
 subst h1
 have HRA := qb h2
 have hyk : ya.length <= 21 := by omega
 have hzk : za.length <= 21 := by omega
 have hq9 : ((ra.length : Int) == (ls.length : Int)) = true := by rw [hral]; simp
 have HX6 := qb (qi HX2.out HW6.out)
 have HR6 := qb (Yl HR2.out HW6.out (Nat.le_refl _))
 clear h2 hap hyl hzl HIM HSV HRI HRV hral HSH
 have hkc : As = none \/ k <= cs := by
  rcases HOS.out with ⟨e, -⟩ | ⟨g, -, h⟩
  ·exact .inl e
  exact .inr (by omega)
 have hcase : (As = none /\ cs = 0 /\ Hid (ls = []) /\ k = 0) \/ (∃ g, As = some ⟨g, 0, none⟩ /\ cs = 0 /\ Hid (ls = []) /\ k = 0) \/ (∃ g, As = some ⟨g, 0, none⟩ /\ k < cs) := by
  rcases HOS.out with ⟨e, h1, h2⟩ | ⟨g, e, h⟩
  ·exact .inl ⟨e, h1, qb h2, by rw [h2] at hkl; simpa using hkl⟩
  rcases Nat.lt_or_ge k cs with h1 | h1
  ·exact .inr (.inr ⟨g, e, h1⟩)
  have h0 : ls.length = 0 := by omega
  exact .inr (.inl ⟨g, e, by omega, qb (List.eq_nil_of_length_eq_zero h0), by omega⟩)
 clear hkc hk
 rcases hcase with ⟨rfl, rfl, HL0, rfl⟩ | ⟨g, rfl, rfl, HL0, rfl⟩ | ⟨g, rfl, hkc⟩
 all_goals
  go_upto_region 11 with fail
  have HQ9 := qb hq9
  have HV := qb hv
  clear hki hq9 hv hyv HOS HR2
  go_cut [10, 11] from 67 to 74 (fun p a wx => RnB w6 wx (yd, ya) p a)
  case first =>
   have hBa := (Below.refl w6.heap.size w6).alloc (Nat.le_refl _) (.cells #[.slice none 0 0, .slice none 0 0] 30)
   have HBa := qb hBa
   obtain ⟨d0, d1, -⟩ := qr HX6.out
   obtain ⟨e0, e1, -⟩ := qr (qi HX6.out hBa)
   clear hBa
   go_region_with (go_at_call 18; refine (HC1.out _ _ (by first | exact (Below.refl _ _).drew | exact HBa.out.drew | exact (Below.refl _ _).drew.alloc (Nat.le_refl _) _)).mono ?_; rintro e w8 ⟨A7, c7, A8, c8, A9, c9, rfl, hi8, ho8, hb8⟩; dsimp only at hi8 ho8; (try (have hq8 := (hb8.block w6.heap.size (by simp)).trans (heap_alloc_new w6 (.cells #[.slice none 0 0, .slice none 0 0] 30)); obtain ⟨f0, f1, f2, f3⟩ := qr hq8)); have HI8 := qb hi8; have HO8 := qb ho8; have HB8 := qb hb8; clear hi8 ho8 hb8)
   all_goals
    go_wp2_with fail
    go_meet
   all_goals first
    | (case rel => (have hq9 := hq8; exact Wd (r := (yd, ya)) (by simp) HBa.out.drew hq9 HI8.out HO8.out HB8.out))
    | (case rel => exact We (r := (yd, ya)) (Below.refl _ _).drew HI8.out HO8.out HB8.out)
  obtain ⟨b7, A7, c7, A8, c8, A9, c9, rfl, rfl, hb7, hq7, hi7, ho7, hb77⟩ := hcut
  dsimp only at hq7 hi7 ho7
  rename World => w7
  have HQ7 := qb hq7
  have HI7 := qb hi7
  have HO7 := qb ho7
  have HB7 := qb hb77
  have HC3 := qb (fun w9 A c (hb : Below w7.heap.size w7 w9) hr => HC2.out w9 _ A c (qa3 HB7.out hb) (HI7.out.now hb) hr)
  try have HRK : Hid (Rd w7 w7.heap.size (some ⟨g, k, none⟩) (qS (ls.drop k))) := qb (by
   have h := WJ k (Yl HR6.out HB7.out (Nat.le_refl _))
   rw [Nat.zero_add] at h
   exact h)
  clear hq7 hi7 ho7 hb77 HC1 HC2 HX6
  go_upto_region 12 with fail
  go_cut [12, 13] from 75 to 82 (fun p a wx => RnB w7 wx (rd, za) p a)
  case first =>
   have hBa := (Below.refl w7.heap.size w7).alloc (Nat.le_refl _) (.cells #[.slice none 0 0, .slice none 0 0] 30)
   have HBa := qb hBa
   obtain ⟨d0, d1, -⟩ := qr HQ7.out
   obtain ⟨e0, e1, -⟩ := qr (qi HQ7.out hBa)
   clear hBa
   go_region_with (go_at_call 18; refine (HC3.out _ _ _ (by first | exact (Below.refl _ _).drew | exact HBa.out.drew | exact (Below.refl _ _).drew.alloc (Nat.le_refl _) _) (by first | exact fun h => absurd (by rw [HL0.out]; rfl) h | exact Yl HRK.out (by first | exact (Below.refl _ _).drew | exact HBa.out.drew | exact (Below.refl _ _).drew.alloc (Nat.le_refl _) _) (Nat.le_refl _))).mono ?_; rintro e w8 ⟨A17, c17, A18, c18, A19, c19, rfl, hi8, ho8, hb8⟩; dsimp only at hi8 ho8; (try (have hq8 := (hb8.block w7.heap.size (by simp)).trans (heap_alloc_new w7 (.cells #[.slice none 0 0, .slice none 0 0] 30)); obtain ⟨f0, f1, f2, f3⟩ := qr hq8)); have HI8 := qb hi8; have HO8 := qb ho8; have HB8 := qb hb8; clear hi8 ho8 hb8)
   all_goals
    go_wp2_with fail
    go_meet
   all_goals first
    | (case rel => (have hq9 := hq8; exact Wd (r := (rd, za)) (by simp) HBa.out.drew hq9 HI8.out HO8.out HB8.out))
    | (case rel => exact We (r := (rd, za)) (Below.refl _ _).drew HI8.out HO8.out HB8.out)
  obtain ⟨b8, A17, c17, A18, c18, A19, c19, rfl, rfl, hb8, hq8, hi8, ho8, hb88⟩ := hcut
  dsimp only at hq8 hi8 ho8
  rename World => w8
  have HB68 := qb (qa3 HB7.out hb88)
  have HB38 := qb (qa3 HW36.out HB68.out)
  have HSD8 := qb (Ys rd _ _ w8 hi8 (HI3.out.now HB38.out) hRS)
  have HZ8 := qb (Rd.of_own ho8)
  have HY8 := qb (Yl (Rd.of_own HO7.out) hb88 (Nat.le_refl _))
  obtain ⟨d0, d1, -⟩ := qr hq8
  obtain ⟨e0, e1, -⟩ := qr (qi HX3.out HB38.out)
  clear hq8 hi8 ho8 hb88 HC3 HQ7 HI7 HO7
  go_wp2_with fail
  refine HSD8.out.mono ?_
  rintro e w9 ⟨rfl, hb9⟩
  have hBE := (Below.refl w9.heap.size w9).alloc (Nat.le_refl _) (.cells #[] 9)
  have HB9 := qb hb9
  have HBE := qb hBE
  have HE := qb (xF w9 w9.heap.size (Nat.le_refl _))
  have HYE := qb (RdIn.of (S := All (w9.alloc (.cells #[] 9))) (Yl HY8.out (qa3 hb9 hBE) (Nat.le_refl _)) (fun _ h => h))
  have HZ9 := qb (Yl HZ8.out hb9 (Nat.le_refl _))
  clear hb9 hBE d0 d1 e0 e1
  go_wp2_with (first
   | (at_builtin; refine Wp (by rfl) ?_; refine vr rfl _ _ rfl w9.heap.size (some ⟨w9.heap.size, 0, none⟩) 0 [] (by rfl) HE.out A9 c9 ya (by rfl) HYE.out (fun _ h => h) (by simp; omega) (by simp) ?_; intro A20 c20 w10 ho10 hg10; have HB10 := qb (HBE.out.trans (zo hg10 (by simp) (fun g hg => by simp [Value.ownBlock] at hg; omega))); have HO10 : Hid (OwnS w10 w9.heap.size A20 c20 ya) := qb ho10; have HZ10 := qb (RdIn.of (S := All w10) (Yl HZ9.out HB10.out (Nat.le_refl _)) (fun _ h => h)); clear ho10 hg10)
   | (at_builtin; refine Wp (by rfl) ?_; refine vr rfl _ _ rfl w9.heap.size A20 c20 ya (by rfl) HO10.out A19 c19 za (by rfl) HZ10.out (fun _ h => h) (by omega) HB10.out.size ?_; intro A21 c21 w11 ho11 hg11; have HB11 := qb (HB10.out.trans (zo hg11 HB10.out.size (fun g hg => (HO10.out.lt g hg).1))); have HO11 := qb ho11; clear ho11 hg11))
  have HB811 := qb (qa3 HB9.out HB11.out)
  have HB311 := qb (qa3 HB38.out HB811.out)
  have hst := YU (ya ++ za) ra A21 A31 c21 c31 w11 (Rd.of_own HO11.out) (Yl HT3.out HB311.out (Nat.le_refl _)) (by unfold maxLen; simp; omega)
  rw [show (ya ++ za == ra) = true from by rw [HRA.out]; simp, List.length_append] at hst
  have HST := qb hst
  clear hst
  refine HST.out.mono ?_
  rintro e w12 ⟨rfl, hb12⟩
  have HB611 := qb (qa3 HB68.out HB811.out)
  have HB612 := qb (qa3 HB611.out hb12)
  have HB12 := qb (qa3 HB6.out HB612.out)
  clear hb12
  have hq9 := HQ9.out
  go_wp2
  go_ret
  exact ⟨rfl, HB12.out⟩
theorem fnDeskRun_lifted (os : Os) (started : os.Started) (H : Type) (enc : TypeId × Value -> H) :
  ReturnsInHanded {} Tryz.checked os 5 .any (Rows.fnDeskRunSpec.pre6 enc Tryz.prog Tryz.f5 Rows.fnDeskRunRow.domain false)
   (Rows.fnDeskRunSpec.post enc Tryz.prog Tryz.f5 false true false false) := by
 refine VC (C := Tryz.checked) Tryz.own started (by kernel_rfl) func5
  (ChangeSpec.witness6 (enc := enc) (C := Tryz.checked) false ⟨#[], #[.slice none 0 0], []⟩ 8 (by kernel_rfl) (by kernel_rfl) (by kernel_rfl) (by kernel_rfl)) ?_
 intro W base args ds gs before hval0 hW _ hsh _
 have hval : ∀ (j : Nat) t v, Tryz.f5.params[j]? = some t -> args[j]? = some v -> Value.okWide Tryz.prog W .any base t v := hval0
 have hW' := hW
 obtain ⟨p, q, hA0, hV, rfl, _, _⟩ := hW
 have hA : DataW.TrodAll enc Tryz.prog W 0 (fun _ => true) true Tryz.f5.params.toList args.toList ds p := hA0
 rw [Tryz.params5] at hA hval
 obtain ⟨v0, d0, rfl, rfl, h0⟩ := trodAll_one hA
 obtain ⟨rfl, rfl⟩ := trodVars_none hV
 obtain ⟨A, c, bs, rfl, hr, hlc, hcm⟩ := YV underlying44 underlying5 (by kernel_rfl) (hval 0 _ v0 rfl rfl) h0
 refine (Ww bs A c W hr hlc (Nat.le_trans hlc hcm) (KW hsh)).mono fun e W' ⟨he, hw⟩ => ?_
 subst he
 exact ⟨_, rfl, VK hW' rfl rfl (by kernel_rfl) underlying4 Tryz.laidOut (of_decide_eq_true (by kernel_rfl)) hw⟩
theorem fnDeskRun_holds : Rows.FnDeskRunSaid :=
 OpenClaim.holds_of_wide 5 Tryz.f5 rfl rfl rfl rfl rfl rfl rfl ⟨rfl, rfl, rfl, rfl, rfl⟩ rfl rfl rfl rfl rfl (by kernel_rfl) func5 (by kernel_rfl)
  (of_decide_eq_true (by kernel_rfl)) (by unfold Func.isWrapper; first | (rw [if_pos (by decide +kernel)]; kernel_rfl) | (rw [if_neg (by decide +kernel)]; exact ⟨rfl, rfl⟩))
  (fun os started H enc _ => fnDeskRun_lifted os started H enc)
#print axioms fnDeskRun_holds
end Go.Proofs.YtmboieajfdkllaaGreat
