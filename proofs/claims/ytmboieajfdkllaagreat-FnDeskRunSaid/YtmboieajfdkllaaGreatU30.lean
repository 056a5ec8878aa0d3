import Derived.Test.YtmboieajfdkllaaGreatU04
import Derived.Test.YtmboieajfdkllaaGreatU02
import Derived.Test.YtmboieajfdkllaaGreatU09
import Derived.Test.YtmboieajfdkllaaGreatU25
set_option maxHeartbeats 16000000
set_option maxRecDepth 100000
open Go.Proofs.Tryz
namespace Go.Proofs.YtmboieajfdkllaaGreat
open Go.RowKit Go.Deep
def RiP (w w' : World) (e : Ending) : Option (List Pt × Tx × Tx) -> Prop
 | none => ∃ t, e = .returned (.tuple #[.slice none 0 0, sv t, sv badW])
 | some r => ∃ A c rs, e = .returned (.tuple #[.slice A (List.length rs) c, sv r.2.1, sv r.2.2]) /\ PLx w' w.heap.size A c rs r.1
def RiC (d : Nat) : Prop := ∀ (q : Nat) (s : Tx) (n : Nat) (w : World), q + d = 3 -> s.length < n -> s.length <= 1048576 -> Hm w →
  Calls Tryz.prog 95 #[sv s, .int .i64 (q : Int)] w fun e w' => RiP w w' e (Pt.rd false d n s []) /\ Below w.heap.size w w'
theorem ZZ (d : Nat) (ih : ∀ d', d = d' + 1 -> RiC d') : RiC d := by
 intro qd s n w hqd hn hs hm
 have IH := qb ih
 have HM := qb hm
 obtain ⟨r, hr⟩ : ∃ r, r = Pt.rd false d n s [] := ⟨_, rfl⟩
 rw [<- hr]
 have HR := qb hr.symm
 clear ih hm hr
 go_enter func95, ntmps95
 go_wp2
 go_loopw [0, 7] (fun m o wr => ∃ (s' : Tx) (acc : List Pt) (rs : List Raw) (A : Option Addr) (c k : Nat), m = sv s' /\ o = .slice A rs.length c /\ PLx wr w.heap.size A c rs acc /\ s'.length < k /\ Pt.rd false d k s' acc = r /\ Pt.sz acc + s'.length <= s.length /\ Below w.heap.size w wr) (fun m _ _ => xi m)
 case atStart => exact ⟨s, [], [], _, 0, n, rfl, rfl, PLx.empty w, hn, HR.out, by simp [Pt.sz, Pt.sizes], (Below.refl _ _).alloc (Nat.le_refl _) _⟩
 obtain ⟨s', acc, rs, A, c, k, rfl, rfl, hP, hk, hrd, hsz, hb⟩ := hrel
 have HB := qb hb
 have HP := qb hP
 have hsl : s'.length <= 1048576 := by omega
 have hrl : rs.length <= 1048576 := by have := hP.len; unfold Pt.sz at hsz; omega
 have HMr := qb (HM.out.below hb)
 obtain ⟨k, rfl⟩ : ∃ k', k = k' + 1 := ⟨k - 1, by omega⟩
 clear hP hb
 by_cases hs0 : s' = []
 ·subst hs0
  rw [Pt.rd_nil] at hrd
  have HE := qb hrd.symm
  clear hrd
  go_wp2
  refine bodyPost_ret (v := .tuple #[.slice A rs.length c, sv [], sv []]) (by simp [results, results95, go_sem, *]) rfl ⟨?_, HB.out⟩
  rw [HE.out]
  exact ⟨A, c, rs, rfl, HP.out⟩
 have hs1 : List.isEmpty s' = false := by cases s' with | nil => exact absurd rfl hs0 | cons => rfl
 have hs2 : (s' == []) = false := by simpa using hs0
 have HIX := qb (yg s' 123 hsl wr HMr.out)
 cases hc : cut2 123 s' with
 | none =>
  rw [Pt.rd_last false d k acc hs0 hc] at hrd
  have HE := qb hrd.symm
  rw [hc] at HIX
  dsimp only at HIX
  have HA := qb ((Below.refl wr.heap.size wr).alloc (Nat.le_refl _) (.cells #[.int .i64 1, sv s', sv [], .slice none 0 0, .slice none 0 0] 115))
  have HRW := qb (zH (us := [zR s']) (heap_alloc_new wr (.cells #[.int .i64 1, sv s', sv [], .slice none 0 0, .slice none 0 0] 115)) rfl)
  have HP2 := qb (HP.out.keep HA.out)
  clear hrd hc hs0
  go_wp2_with fail
  refine HIX.out.mono ?_
  rintro e w1 ⟨rfl, rfl⟩
  go_wp2_with (at_builtin; refine zD rfl _ _ rfl w.heap.size A c rs [zR s'] (by rfl) HP2.out.own wr.heap.size 0 1 (by rfl) HRW.out (by simp) (by first | omega | (simp; done)) (by have := HB.out.size; simp; omega) ?_; intro A3 c3 w3 ho3 hg3 hbk3; have HN3 := qb (ju (x := Pt.txt s') HB.out HP.out HA.out (vf 1 s' []) ho3 hg3 hbk3); clear ho3 hg3 hbk3)
  refine bodyPost_ret (v := .tuple #[.slice A3 (rs ++ [zR s']).length c3, sv [], sv []]) (by simp [results, results95, go_sem, *]) rfl ⟨?_, HN3.out.2⟩
  rw [HE.out]
  exact ⟨A3, c3, _, rfl, HN3.out.1⟩
 | some pq =>
  obtain ⟨p, q⟩ := pq
  rw [hc] at HIX
  dsimp only at HIX
  have hcl := jk hc
  have hce := jb hc
  obtain ⟨a, ha⟩ : ∃ a, a = p.length := ⟨_, rfl⟩
  have hT1 : s'.take a = p := by rw [hce, ha]; simp
  have hT2 : s'.drop a = 123 :: 123 :: q := by rw [hce, ha]; simp
  rw [<- ha] at HIX hcl
  have hcl1 : a + q.length + 2 <= s'.length := by omega
  have hcl0 : s'.length <= a + q.length + 2 := by omega
  clear hcl
  have HPL := qb (show a = p.length from ha)
  have HPA := qb (show p = [] ↔ a = 0 by rw [ha]; exact List.length_eq_zero_iff.symm)
  obtain ⟨acc1, hacc⟩ : ∃ acc1, acc1 = (if p = [] then acc else acc ++ [Pt.txt p]) := ⟨_, rfl⟩
  have HACC := qb hacc
  have HSA := qb (Pt.sz_text p acc)
  rw [<- hacc, <- ha] at HSA
  have HCE := qb hce
  have HC := qb hc
  have HRD := qb hrd
  have HS0 := qb hs0
  clear hce ha hacc hc hrd hs0
  go_wp2_with fail
  refine HIX.out.mono ?_
  rintro e w1 ⟨rfl, rfl⟩
  go_upto_if 27 with fail
  go_cut [7] (fun v wx => ∃ (A8 : Option Addr) (c8 : Nat) (rs8 : List Raw), v = .slice A8 (List.length rs8) c8 /\ PLx wx w.heap.size A8 c8 rs8 acc1 /\ Below w.heap.size w wx /\ wr.heap.size <= wx.heap.size)
  case first =>
   by_cases ha0 : a = 0
   ·rw [show decide (0 < a) = false from decide_eq_false (by omega)]
    have HAE : Hid (acc1 = acc) := by show _ = _; rw [HACC.out, if_pos (HPA.out.2 ha0)]
    clear ha0
    go_wp2
    go_meet
    case rel => exact ⟨A, c, rs, rfl, by rw [HAE.out]; exact HP.out, HB.out, Nat.le_refl _⟩
   rw [show decide (0 < a) = true from decide_eq_true (by omega)]
   have HAE : Hid (acc1 = acc ++ [Pt.txt p]) := by show _ = _; rw [HACC.out, if_neg (fun e => ha0 (HPA.out.1 e))]
   have HA := qb ((Below.refl wr.heap.size wr).alloc (Nat.le_refl _) (.cells #[.int .i64 1, sv p, sv [], .slice none 0 0, .slice none 0 0] 115))
   have HRW := qb (zH (us := [zR p]) (heap_alloc_new wr (.cells #[.int .i64 1, sv p, sv [], .slice none 0 0, .slice none 0 0] 115)) rfl)
   have HP2 := qb (HP.out.keep HA.out)
   have hal : a <= s'.length := by omega
   clear ha0
   go_wp2_with (at_builtin; refine zD rfl _ _ rfl w.heap.size A c rs [zR p] (by rfl) HP2.out.own wr.heap.size 0 1 (by rfl) HRW.out (by simp) (by first | omega | (simp; done)) (by have := HB.out.size; simp; omega) ?_; intro A3 c3 w3 ho3 hg3 hbk3; have HN3 := qb (ju (x := Pt.txt p) HB.out HP.out HA.out (vf 1 p []) ho3 hg3 hbk3); have HZ3 := qb hg3.size; clear ho3 hg3 hbk3)
   go_meet
   case rel => exact ⟨A3, c3, rs ++ [zR p], by simp, by rw [HAE.out]; exact HN3.out.1, HN3.out.2, by have := HZ3.out; simp at this; omega⟩
  obtain ⟨A8, c8, rs8, rfl, hp8, hb8, hz8⟩ := hcut
  rename World => wx
  have HP8 := qb hp8
  have HB8 := qb hb8
  have HM8 := qb (HM.out.below hb8)
  have hsq : (123 :: 123 :: q).length <= 1048576 := by simp only [List.length_cons]; omega
  have HIX2 := qb (yg (123 :: 123 :: q) 125 hsq wx HM8.out)
  rw [Jn] at HIX2
  clear hp8 hb8 hsq
  have hal : a <= s'.length := by omega
  cases hc2 : cut2 125 q with
  | none =>
   rw [hc2] at HIX2
   simp only [Option.map_none] at HIX2
   have HE : Hid (r = none) := by show _ = _; rw [<- HRD.out, Pt.rd_open false d k acc HS0.out HC.out hc2]
   clear hc2
   go_wp2_with fail
   refine HIX2.out.mono ?_
   rintro e w1 ⟨rfl, rfl⟩
   go_wp2
   refine bodyPost_ret (v := .tuple #[.slice none 0 0, sv s', sv badW]) (by simp [results, results95, go_sem, badW, *]) rfl ⟨?_, HB8.out⟩
   rw [HE.out]
   exact ⟨s', rfl⟩
  | some wq =>
   obtain ⟨wd, s2⟩ := wq
   rw [hc2] at HIX2
   have hcl2 := jk hc2
   have hce2 := jb hc2
   obtain ⟨e0, he0⟩ : ∃ e0, e0 = wd.length + 2 := ⟨_, rfl⟩
   have hl0 : ((123 :: 123 :: wd : Tx).length : Int) = (e0 : Int) := by rw [he0]; rfl
   simp only [Option.map_some] at HIX2
   rw [hl0] at HIX2
   have hT3 : List.drop (a + 2) (List.take (a + e0) s') = wd := by rw [HCE.out, hce2]; exact tk_word p wd s2 a e0 HPL.out he0
   have hT4 : List.drop (a + e0 + 2) s' = s2 := by rw [HCE.out, hce2]; exact dr_rest p wd s2 a e0 HPL.out he0
   have hae : a + e0 + 2 <= s'.length := by omega
   have h2l : s2.length + e0 + 2 + a <= s'.length := by omega
   have he2 : 2 <= e0 := by omega
   have HWD := qb (show wd.length + 2 = e0 from he0.symm)
   have HC2 := qb hc2
   clear hcl2 hce2 he0 hc2 hl0
   go_wp2_with fail
   refine HIX2.out.mono ?_
   rintro e w1 ⟨rfl, rfl⟩
   go_upto_region 14 with fail
   have hz0 : ¬ (false = true /\ d = 0) := by simp
   by_cases hw1 : wd = Pt.endW
   ·have hq1 : (wd == [101, 110, 100]) = true := by rw [hw1]; rfl
    have HE : Hid (r = some (acc1, s2, wd)) := by show _ = _; rw [<- HRD.out, Pt.rd_stop false d k acc HS0.out HC.out HC2.out hz0 (Or.inl hw1), HACC.out]
    clear hw1
    go_wp2
    refine bodyPost_ret (v := .tuple #[.slice A8 rs8.length c8, sv s2, sv wd]) (by simp [results, results95, go_sem, *]) rfl ⟨?_, HB8.out⟩
    rw [HE.out]
    exact ⟨A8, c8, rs8, rfl, HP8.out⟩
   have hq1 : (wd == [101, 110, 100]) = false := by simpa using hw1
   by_cases hw2 : wd = Pt.elseW
   ·have hq2 : (wd == [101, 108, 115, 101]) = true := by rw [hw2]; rfl
    have HE : Hid (r = some (acc1, s2, wd)) := by show _ = _; rw [<- HRD.out, Pt.rd_stop false d k acc HS0.out HC.out HC2.out hz0 (Or.inr hw2), HACC.out]
    clear hw1 hw2
    go_wp2
    refine bodyPost_ret (v := .tuple #[.slice A8 rs8.length c8, sv s2, sv wd]) (by simp [results, results95, go_sem, *]) rfl ⟨?_, HB8.out⟩
    rw [HE.out]
    exact ⟨A8, c8, rs8, rfl, HP8.out⟩
   have hq2 : (wd == [101, 108, 115, 101]) = false := by simpa using hw2
   have HW := qb (show ¬ (wd = Pt.endW \/ wd = Pt.elseW) from fun h => h.elim hw1 hw2)
   have HPE := qb (yh wd Pt.eachW wx)
   have HPI := qb (yh wd Pt.ifW wx)
   clear hw1 hw2
   cases hpe : Pt.eachW.isPrefixOf wd
   case true =>
    have hpre : Pt.pre false Pt.eachW wd = true := by rw [xB, hpe]
    have h5 := xD hpre
    have hgo := Pt.rd_each false d k acc HS0.out HC.out HC2.out hz0 HW.out hpre
    rw [HRD.out, <- HACC.out] at hgo
    rw [hpe] at HPE
    simp only [List.length_cons, List.length_nil] at h5
    obtain ⟨nm, hnm⟩ : ∃ nm, List.drop 5 wd = nm := ⟨_, rfl⟩
    have hnl : nm.length + 5 = wd.length := by rw [<- hnm, List.length_drop]; omega
    rw [hnm] at hgo
    have hwl := HWD.out
    clear hpe hpre
    go_wp2_with fail
    refine HPE.out.mono ?_
    rintro e w1 ⟨rfl, rfl⟩
    by_cases hd0 : d = 0
    ·rw [if_pos hd0] at hgo
     have HE : Hid (r = none) := hgo
     have hq3 : 3 <= qd := by omega
     clear hgo hd0
     go_wp2
     refine bodyPost_ret (v := .tuple #[.slice none 0 0, sv s2, sv badW]) (by simp [results, results95, go_sem, badW, *]) rfl ⟨?_, HB8.out⟩
     rw [HE.out]
     exact ⟨s2, rfl⟩
    rw [if_neg hd0] at hgo
    obtain ⟨d', rfl⟩ : ∃ d', d = d' + 1 := ⟨d - 1, by omega⟩
    rw [Nat.add_sub_cancel] at hgo
    have HGO := qb hgo.symm
    have hq3 : ¬ 3 <= qd := by omega
    clear hgo hd0
    have HC1 : Hid (∀ w5, Hm w5 -> Calls Tryz.prog 95 #[sv s2, .int .i64 ((qd : Int) + 1)] w5 fun e w' => RiP w5 w' e (Pt.rd false d' k s2 []) /\ Below w5.heap.size w5 w') := fun w5 hm5 => by
     have h := IH.out d' rfl (qd + 1) s2 k w5 (by omega) (by omega) (by omega) hm5
     rwa [show ((qd + 1 : Nat) : Int) = (qd : Int) + 1 by omega] at h
    have HSI := qb (fun xs s3 st (h : Pt.rd false d' k s2 [] = some (xs, s3, st)) => Pt.rd_size false k d' s2 [] h)
    have HXA := qb (heap_alloc_new wx (.cells #[.int .i64 4, sv [], sv nm, .slice none 0 0, .slice none 0 0] 115))
    have HBA := qb ((Below.refl wx.heap.size wx).alloc (Nat.le_refl _) (.cells #[.int .i64 4, sv [], sv nm, .slice none 0 0, .slice none 0 0] 115))
    have HMA := qb (HM8.out.below HBA.out)
    have hsa1 : wx.heap.size + 1 <= (wx.alloc (.cells #[.int .i64 4, sv [], sv nm, .slice none 0 0, .slice none 0 0] 115)).heap.size := by simp
    have hsa2 : (wx.alloc (.cells #[.int .i64 4, sv [], sv nm, .slice none 0 0, .slice none 0 0] 115)).heap.size <= wx.heap.size + 1 := by simp
    go_upto_region 28 with fail
    generalize wx.alloc (.cells #[.int .i64 4, sv [], sv nm, .slice none 0 0, .slice none 0 0] 115) = wa at *
    go_wp2_with fail
    refine (HC1.out wa HMA.out).mono ?_
    rintro e w5 ⟨hr1, hb5⟩
    have HB5 := qb (qa3 HBA.out hb5)
    have HX5 := qb (qi HXA.out hb5)
    have hz5 := hb5.size
    have HM5 := qb (HMA.out.below hb5)
    obtain ⟨⟨f0, f1, f2, f3, f4⟩, g0, g1, g2, g3, g4⟩ := qI HX5.out
    have hzx : wx.heap.size < w5.heap.size := by omega
    clear hb5
    generalize hrr : Pt.rd false d' k s2 [] = r1 at *
    obtain _ | ⟨xs, s3, st⟩ := r1
    ·obtain ⟨t5, rfl⟩ := hr1
     have HE : Hid (r = none) := HGO.out.symm
     have HBs := qb (HB8.out.trans ((HB5.out.setCell (p := ⟨wx.heap.size, 3, none⟩) (Nat.le_refl _) (.slice none 0 0)).mono HB8.out.size))
     clear hrr
     go_wp2
     refine bodyPost_ret (v := .tuple #[.slice none 0 0, sv t5, sv badW]) (by simp [results, results95, go_sem, badW, *]) rfl ⟨?_, HBs.out⟩
     rw [HE.out]
     exact ⟨t5, rfl⟩
    obtain ⟨A5, c5, rs5, rfl, hp5⟩ := hr1
    dsimp only at hp5 ⊢
    have HP5 := qb hp5
    have HS5 := qb (HSI.out xs s3 st rfl)
    have HGG := qb HGO.out
    dsimp only at HGG
    have HKS : Hid (∀ j, j ≠ wx.heap.size -> (w5.setCell ⟨wx.heap.size, 3, none⟩ (.slice A5 rs5.length c5)).heap[j]? = w5.heap[j]?) := fun j hj => Below.heap_setCell _ _ _ _ hj
    have hss1 : w5.heap.size <= (w5.setCell ⟨wx.heap.size, 3, none⟩ (.slice A5 rs5.length c5)).heap.size := by simp [World.setCell]
    have hss2 : (w5.setCell ⟨wx.heap.size, 3, none⟩ (.slice A5 rs5.length c5)).heap.size <= w5.heap.size := by simp [World.setCell]
    have HXs := qb (jN HX5.out (.slice A5 rs5.length c5))
    have HBs := qb (HB5.out.setCell (p := ⟨wx.heap.size, 3, none⟩) (Nat.le_refl _) (.slice A5 rs5.length c5))
    have HL5 := qb hp5.len
    have HC5 := qb hp5.cap
    clear hp5 hrr HX5 HGO HC1
    by_cases hse : st = Pt.endW
    ·rw [if_pos hse] at HGG
     have hs31 : Pt.sz xs + s3.length + 2 <= s2.length := by have h1 := HS5.out.2.1 (by rw [hse]; simp); have h0 : Pt.sz [] = 0 := rfl; omega
     have HGF := qb HGG.out
     subst hse
     go_upto_region 31 with fail
     generalize w5.setCell ⟨wx.heap.size, 3, none⟩ (.slice A5 rs5.length c5) = ws at *
     have HBT := HBs
     have HXT := HXs
     have HKT : Hid (∀ j, wa.heap.size <= j -> j < w5.heap.size -> ws.heap[j]? = w5.heap[j]?) := fun j h1 h2 => HKS.out j (by omega)
     clear f0 f1 f2 f3 f4 g0 g1 g2 g3 g4
     have HKW : Hid (∀ j, j < ws.heap.size -> (ws.alloc (.cells #[.int .i64 4, sv [], sv nm, .slice A5 rs5.length c5, .slice none 0 0] 115)).heap[j]? = ws.heap[j]?) := fun j hj => heap_alloc_old ws _ hj
     have hsw1 : ws.heap.size + 1 <= (ws.alloc (.cells #[.int .i64 4, sv [], sv nm, .slice A5 rs5.length c5, .slice none 0 0] 115)).heap.size := by simp
     have HBW := qb (HBT.out.alloc HBT.out.size (.cells #[.int .i64 4, sv [], sv nm, .slice A5 rs5.length c5, .slice none 0 0] 115))
     have HRW := qb (zH (us := [⟨4, [], nm, A5, rs5.length, c5, none, 0, 0⟩]) (heap_alloc_new ws (.cells #[.int .i64 4, sv [], sv nm, .slice A5 rs5.length c5, .slice none 0 0] 115)) rfl)
     have HP9 := qb (HP8.out.keep HBW.out)
     have HIN : Hid (InX (ws.alloc (.cells #[.int .i64 4, sv [], sv nm, .slice A5 rs5.length c5, .slice none 0 0] 115)) wx.heap.size (.mk 4 [] nm xs []) ⟨4, [], nm, A5, rs5.length, c5, none, 0, 0⟩) := ZB HP5.out (fun j h1 h2 => (HKW.out j (by omega)).trans (HKT.out j (by omega) (by omega))) (by omega)
     obtain ⟨⟨b0, b1, b2, b3, b4⟩, -⟩ := qI HXT.out
     have hr8 : rs8.length <= 1048580 := by have := HP8.out.len; have := HSA.out; have := xC acc1; omega
     have hwz : w.heap.size <= ws.heap.size := by have := HB8.out.size; have := HBT.out.size; omega
     go_wp2_with (at_builtin; refine zD rfl _ _ rfl w.heap.size A8 c8 rs8 [⟨4, [], nm, A5, rs5.length, c5, none, 0, 0⟩] (by rfl) HP9.out.own ws.heap.size 0 1 (by rfl) HRW.out (by simp) (by first | omega | (simp; done)) (by simp; omega) ?_; intro A3 c3 w3 ho3 hg3 hbk3; have HN3 := qb (ju HB8.out HP8.out HBW.out HIN.out ho3 hg3 hbk3); clear ho3 hg3 hbk3)
     go_roundw
     case rel => exact ⟨_, acc1 ++ [.mk 4 [] nm xs []], rs8 ++ [⟨4, [], nm, A5, rs5.length, c5, none, 0, 0⟩], A3, c3, k, rfl, by simp, HN3.out.1, by omega, HGF.out, by rw [Pt.sz_snoc]; have := HSA.out; have h0 : Pt.sz [] = 0 := rfl; have h1 : Pt.sz xs = xs.length + Pt.sizes xs := rfl; skip; have _hz9 : Pt.sizes [] = 0 := rfl; simp only [Pt.size, List.length_nil]; omega, HN3.out.2⟩
     case measure => simp [xi, ByteArray.size]; omega
    rw [if_neg hse] at HGG
    have HE : Hid (r = none) := HGG.out.symm
    have hq5 : (st == [101, 110, 100]) = false := by simpa using hse
    have HBz := qb (qa3 HB8.out HBs.out)
    clear hse
    by_cases hsl : st = Pt.elseW
    ·have hq6 : (st == [101, 108, 115, 101]) = true := by rw [hsl]; rfl
     clear hsl
     go_wp2
     refine bodyPost_ret (v := .tuple #[.slice none 0 0, sv s3, sv badW]) (by simp [results, results95, go_sem, badW, *]) rfl ⟨?_, HBz.out⟩
     rw [HE.out]
     exact ⟨s3, rfl⟩
    have hq6 : (st == [101, 108, 115, 101]) = false := by simpa using hsl
    clear hsl
    go_wp2
    refine bodyPost_ret (v := .tuple #[.slice none 0 0, sv s3, sv badW]) (by simp [results, results95, go_sem, badW, *]) rfl ⟨?_, HBz.out⟩
    rw [HE.out]
    exact ⟨s3, rfl⟩
   have hpre : ¬ Pt.pre false Pt.eachW wd = true := by rw [xB, hpe]; simp
   rw [hpe] at HPE
   cases hpi : Pt.ifW.isPrefixOf wd
   case true =>
    have hpre2 : Pt.pre false Pt.ifW wd = true := by rw [xB, hpi]
    have h5 := xD hpre2
    have hgo := Pt.rd_if false d k acc HS0.out HC.out HC2.out hz0 HW.out hpre hpre2
    rw [HRD.out, <- HACC.out] at hgo
    rw [hpi] at HPI
    simp only [List.length_cons, List.length_nil] at h5
    obtain ⟨nm, hnm⟩ : ∃ nm, List.drop 3 wd = nm := ⟨_, rfl⟩
    have hnl : nm.length + 3 = wd.length := by rw [<- hnm, List.length_drop]; omega
    rw [hnm] at hgo
    have hwl := HWD.out
    clear hpe hpre hpi hpre2
    go_wp2_with fail
    refine HPE.out.mono ?_
    rintro e w1 ⟨rfl, rfl⟩
    go_wp2_with fail
    refine HPI.out.mono ?_
    rintro e w1 ⟨rfl, rfl⟩
    by_cases hd0 : d = 0
    ·rw [if_pos hd0] at hgo
     have HE : Hid (r = none) := hgo
     have hq3 : 3 <= qd := by omega
     clear hgo hd0
     go_wp2
     refine bodyPost_ret (v := .tuple #[.slice none 0 0, sv s2, sv badW]) (by simp [results, results95, go_sem, badW, *]) rfl ⟨?_, HB8.out⟩
     rw [HE.out]
     exact ⟨s2, rfl⟩
    rw [if_neg hd0] at hgo
    obtain ⟨d', rfl⟩ : ∃ d', d = d' + 1 := ⟨d - 1, by omega⟩
    rw [Nat.add_sub_cancel] at hgo
    have HGO := qb hgo.symm
    have hq3 : ¬ 3 <= qd := by omega
    clear hgo hd0
    have HC1 : Hid (∀ w5, Hm w5 -> Calls Tryz.prog 95 #[sv s2, .int .i64 ((qd : Int) + 1)] w5 fun e w' => RiP w5 w' e (Pt.rd false d' k s2 []) /\ Below w5.heap.size w5 w') := fun w5 hm5 => by
     have h := IH.out d' rfl (qd + 1) s2 k w5 (by omega) (by omega) (by omega) hm5
     rwa [show ((qd + 1 : Nat) : Int) = (qd : Int) + 1 by omega] at h
    have HSI := qb (fun xs s3 st (h : Pt.rd false d' k s2 [] = some (xs, s3, st)) => Pt.rd_size false k d' s2 [] h)
    have HXA := qb (heap_alloc_new wx (.cells #[.int .i64 3, sv [], sv nm, .slice none 0 0, .slice none 0 0] 115))
    have HBA := qb ((Below.refl wx.heap.size wx).alloc (Nat.le_refl _) (.cells #[.int .i64 3, sv [], sv nm, .slice none 0 0, .slice none 0 0] 115))
    have HMA := qb (HM8.out.below HBA.out)
    have hsa1 : wx.heap.size + 1 <= (wx.alloc (.cells #[.int .i64 3, sv [], sv nm, .slice none 0 0, .slice none 0 0] 115)).heap.size := by simp
    have hsa2 : (wx.alloc (.cells #[.int .i64 3, sv [], sv nm, .slice none 0 0, .slice none 0 0] 115)).heap.size <= wx.heap.size + 1 := by simp
    go_upto_region 28 with fail
    generalize wx.alloc (.cells #[.int .i64 3, sv [], sv nm, .slice none 0 0, .slice none 0 0] 115) = wa at *
    go_wp2_with fail
    refine (HC1.out wa HMA.out).mono ?_
    rintro e w5 ⟨hr1, hb5⟩
    have HB5 := qb (qa3 HBA.out hb5)
    have HX5 := qb (qi HXA.out hb5)
    have hz5 := hb5.size
    have HM5 := qb (HMA.out.below hb5)
    obtain ⟨⟨f0, f1, f2, f3, f4⟩, g0, g1, g2, g3, g4⟩ := qI HX5.out
    have hzx : wx.heap.size < w5.heap.size := by omega
    clear hb5
    generalize hrr : Pt.rd false d' k s2 [] = r1 at *
    obtain _ | ⟨xs, s3, st⟩ := r1
    ·obtain ⟨t5, rfl⟩ := hr1
     have HE : Hid (r = none) := HGO.out.symm
     have HBs := qb (HB8.out.trans ((HB5.out.setCell (p := ⟨wx.heap.size, 3, none⟩) (Nat.le_refl _) (.slice none 0 0)).mono HB8.out.size))
     clear hrr
     go_wp2
     refine bodyPost_ret (v := .tuple #[.slice none 0 0, sv t5, sv badW]) (by simp [results, results95, go_sem, badW, *]) rfl ⟨?_, HBs.out⟩
     rw [HE.out]
     exact ⟨t5, rfl⟩
    obtain ⟨A5, c5, rs5, rfl, hp5⟩ := hr1
    dsimp only at hp5 ⊢
    have HP5 := qb hp5
    have HS5 := qb (HSI.out xs s3 st rfl)
    have HGG := qb HGO.out
    dsimp only at HGG
    have HKS : Hid (∀ j, j ≠ wx.heap.size -> (w5.setCell ⟨wx.heap.size, 3, none⟩ (.slice A5 rs5.length c5)).heap[j]? = w5.heap[j]?) := fun j hj => Below.heap_setCell _ _ _ _ hj
    have hss1 : w5.heap.size <= (w5.setCell ⟨wx.heap.size, 3, none⟩ (.slice A5 rs5.length c5)).heap.size := by simp [World.setCell]
    have hss2 : (w5.setCell ⟨wx.heap.size, 3, none⟩ (.slice A5 rs5.length c5)).heap.size <= w5.heap.size := by simp [World.setCell]
    have HXs := qb (jN HX5.out (.slice A5 rs5.length c5))
    have HBs := qb (HB5.out.setCell (p := ⟨wx.heap.size, 3, none⟩) (Nat.le_refl _) (.slice A5 rs5.length c5))
    have HL5 := qb hp5.len
    have HC5 := qb hp5.cap
    clear hp5 hrr HX5 HGO HC1
    by_cases hse : st = Pt.endW
    ·rw [if_pos hse] at HGG
     have hs31 : Pt.sz xs + s3.length + 2 <= s2.length := by have h1 := HS5.out.2.1 (by rw [hse]; simp); have h0 : Pt.sz [] = 0 := rfl; omega
     have HGF := qb HGG.out
     subst hse
     go_upto_region 31 with fail
     generalize w5.setCell ⟨wx.heap.size, 3, none⟩ (.slice A5 rs5.length c5) = ws at *
     have HBT := HBs
     have HXT := HXs
     have HKT : Hid (∀ j, wa.heap.size <= j -> j < w5.heap.size -> ws.heap[j]? = w5.heap[j]?) := fun j h1 h2 => HKS.out j (by omega)
     clear f0 f1 f2 f3 f4 g0 g1 g2 g3 g4
     have HKW : Hid (∀ j, j < ws.heap.size -> (ws.alloc (.cells #[.int .i64 3, sv [], sv nm, .slice A5 rs5.length c5, .slice none 0 0] 115)).heap[j]? = ws.heap[j]?) := fun j hj => heap_alloc_old ws _ hj
     have hsw1 : ws.heap.size + 1 <= (ws.alloc (.cells #[.int .i64 3, sv [], sv nm, .slice A5 rs5.length c5, .slice none 0 0] 115)).heap.size := by simp
     have HBW := qb (HBT.out.alloc HBT.out.size (.cells #[.int .i64 3, sv [], sv nm, .slice A5 rs5.length c5, .slice none 0 0] 115))
     have HRW := qb (zH (us := [⟨3, [], nm, A5, rs5.length, c5, none, 0, 0⟩]) (heap_alloc_new ws (.cells #[.int .i64 3, sv [], sv nm, .slice A5 rs5.length c5, .slice none 0 0] 115)) rfl)
     have HP9 := qb (HP8.out.keep HBW.out)
     have HIN : Hid (InX (ws.alloc (.cells #[.int .i64 3, sv [], sv nm, .slice A5 rs5.length c5, .slice none 0 0] 115)) wx.heap.size (.mk 3 [] nm xs []) ⟨3, [], nm, A5, rs5.length, c5, none, 0, 0⟩) := ZB HP5.out (fun j h1 h2 => (HKW.out j (by omega)).trans (HKT.out j (by omega) (by omega))) (by omega)
     obtain ⟨⟨b0, b1, b2, b3, b4⟩, -⟩ := qI HXT.out
     have hr8 : rs8.length <= 1048580 := by have := HP8.out.len; have := HSA.out; have := xC acc1; omega
     have hwz : w.heap.size <= ws.heap.size := by have := HB8.out.size; have := HBT.out.size; omega
     go_wp2_with (at_builtin; refine zD rfl _ _ rfl w.heap.size A8 c8 rs8 [⟨3, [], nm, A5, rs5.length, c5, none, 0, 0⟩] (by rfl) HP9.out.own ws.heap.size 0 1 (by rfl) HRW.out (by simp) (by first | omega | (simp; done)) (by simp; omega) ?_; intro A3 c3 w3 ho3 hg3 hbk3; have HN3 := qb (ju HB8.out HP8.out HBW.out HIN.out ho3 hg3 hbk3); clear ho3 hg3 hbk3)
     go_roundw
     case rel => exact ⟨_, acc1 ++ [.mk 3 [] nm xs []], rs8 ++ [⟨3, [], nm, A5, rs5.length, c5, none, 0, 0⟩], A3, c3, k, rfl, by simp, HN3.out.1, by omega, HGF.out, by rw [Pt.sz_snoc]; have := HSA.out; have h0 : Pt.sz [] = 0 := rfl; have h1 : Pt.sz xs = xs.length + Pt.sizes xs := rfl; skip; have _hz9 : Pt.sizes [] = 0 := rfl; simp only [Pt.size, List.length_nil]; omega, HN3.out.2⟩
     case measure => simp [xi, ByteArray.size]; omega
    rw [if_neg hse] at HGG
    by_cases hsl : st = Pt.elseW
    ·rw [if_pos hsl] at HGG
     have hs31 : Pt.sz xs + s3.length + 2 <= s2.length := by have h1 := HS5.out.2.1 (by rw [hsl]; simp); have h0 : Pt.sz [] = 0 := rfl; omega
     subst hsl
     clear hse
     have HC1 : Hid (∀ w5, Hm w5 -> Calls Tryz.prog 95 #[sv s3, .int .i64 ((qd : Int) + 1)] w5 fun e w' => RiP w5 w' e (Pt.rd false d' k s3 []) /\ Below w5.heap.size w5 w') := fun w5 hm5 => by
      have h := IH.out d' rfl (qd + 1) s3 k w5 (by omega) (by omega) (by omega) hm5
      rwa [show ((qd + 1 : Nat) : Int) = (qd : Int) + 1 by omega] at h
     have HSI2 := qb (fun ys s4 su (h : Pt.rd false d' k s3 [] = some (ys, s4, su)) => Pt.rd_size false k d' s3 [] h)
     have HMs := qb (HM8.out.below HBs.out)
     go_upto_region 30 with fail
     generalize w5.setCell ⟨wx.heap.size, 3, none⟩ (.slice A5 rs5.length c5) = ws at *
     clear f0 f1 f2 f3 f4 g0 g1 g2 g3 g4
     go_wp2_with fail
     refine (HC1.out ws HMs.out).mono ?_
     rintro e w6 ⟨hr2, hb6⟩
     have HB6 := qb (qa3 HBs.out hb6)
     have HX6 := qb (qi HXs.out hb6)
     have hz6 := hb6.size
     have HK6 := qb (fun j (h : j < ws.heap.size) => hb6.block j h)
     obtain ⟨⟨f0, f1, f2, f3, f4⟩, g0, g1, g2, g3, g4⟩ := qI HX6.out
     have hzx6 : wx.heap.size < w6.heap.size := by omega
     clear hb6
     generalize hrr : Pt.rd false d' k s3 [] = r2 at *
     obtain _ | ⟨ys, s4, su⟩ := r2
     ·obtain ⟨t6, rfl⟩ := hr2
      have HE : Hid (r = none) := HGG.out.symm
      have HBz := qb (HB8.out.trans ((HB6.out.setCell (p := ⟨wx.heap.size, 4, none⟩) (Nat.le_refl _) (.slice none 0 0)).mono HB8.out.size))
      clear hrr
      go_wp2
      refine bodyPost_ret (v := .tuple #[.slice none 0 0, sv t6, sv badW]) (by simp [results, results95, go_sem, badW, *]) rfl ⟨?_, HBz.out⟩
      rw [HE.out]
      exact ⟨t6, rfl⟩
     obtain ⟨A6, c6, rs6, rfl, hp6⟩ := hr2
     dsimp only at hp6 ⊢
     have HP6 := qb hp6
     have HS6 := qb (HSI2.out ys s4 su rfl)
     have HGH := qb HGG.out
     dsimp only at HGH
     have HKU : Hid (∀ j, j ≠ wx.heap.size -> (w6.setCell ⟨wx.heap.size, 4, none⟩ (.slice A6 rs6.length c6)).heap[j]? = w6.heap[j]?) := fun j hj => Below.heap_setCell _ _ _ _ hj
     have hst1 : w6.heap.size <= (w6.setCell ⟨wx.heap.size, 4, none⟩ (.slice A6 rs6.length c6)).heap.size := by simp [World.setCell]
     have HXT := qb (xj HX6.out (.slice A6 rs6.length c6))
     have HBT := qb (HB6.out.setCell (p := ⟨wx.heap.size, 4, none⟩) (Nat.le_refl _) (.slice A6 rs6.length c6))
     have HL6 := qb hp6.len
     have HC6 := qb hp6.cap
     clear hp6 hrr HX6 HGG HC1
     by_cases hue : su = Pt.endW
     ·rw [if_pos hue] at HGH
      have hs41 : Pt.sz ys + s4.length + 2 <= s3.length := by have h1 := HS6.out.2.1 (by rw [hue]; simp); have h0 : Pt.sz [] = 0 := rfl; omega
      have HGF := qb HGH.out
      subst hue
      go_upto_region 31 with fail
      generalize w6.setCell ⟨wx.heap.size, 4, none⟩ (.slice A6 rs6.length c6) = wt at *
      have HKT : Hid (∀ j, wa.heap.size <= j -> j < w5.heap.size -> wt.heap[j]? = w5.heap[j]?) := fun j h1 h2 => (HKU.out j (by omega)).trans ((HK6.out j (by omega)).trans (HKS.out j (by omega)))
      have HKV : Hid (∀ j, ws.heap.size <= j -> j < w6.heap.size -> wt.heap[j]? = w6.heap[j]?) := fun j h1 h2 => HKU.out j (by omega)
      clear f0 f1 f2 f3 f4 g0 g1 g2 g3 g4
      have HKW : Hid (∀ j, j < wt.heap.size -> (wt.alloc (.cells #[.int .i64 3, sv [], sv nm, .slice A5 rs5.length c5, .slice A6 rs6.length c6] 115)).heap[j]? = wt.heap[j]?) := fun j hj => heap_alloc_old wt _ hj
      have hsw1 : wt.heap.size + 1 <= (wt.alloc (.cells #[.int .i64 3, sv [], sv nm, .slice A5 rs5.length c5, .slice A6 rs6.length c6] 115)).heap.size := by simp
      have HBW := qb (HBT.out.alloc HBT.out.size (.cells #[.int .i64 3, sv [], sv nm, .slice A5 rs5.length c5, .slice A6 rs6.length c6] 115))
      have HRW := qb (zH (us := [⟨3, [], nm, A5, rs5.length, c5, A6, rs6.length, c6⟩]) (heap_alloc_new wt (.cells #[.int .i64 3, sv [], sv nm, .slice A5 rs5.length c5, .slice A6 rs6.length c6] 115)) rfl)
      have HP9 := qb (HP8.out.keep HBW.out)
      have HIN : Hid (InX (wt.alloc (.cells #[.int .i64 3, sv [], sv nm, .slice A5 rs5.length c5, .slice A6 rs6.length c6] 115)) wx.heap.size (.mk 3 [] nm xs ys) ⟨3, [], nm, A5, rs5.length, c5, A6, rs6.length, c6⟩) := vg HP5.out (fun j h1 h2 => (HKW.out j (by omega)).trans (HKT.out j (by omega) (by omega))) HP6.out (fun j h1 h2 => (HKW.out j (by omega)).trans (HKV.out j h1 h2)) (by omega) (by omega) (by omega)
      obtain ⟨⟨b0, b1, b2, b3, b4⟩, -⟩ := qI HXT.out
      have hr8 : rs8.length <= 1048580 := by have := HP8.out.len; have := HSA.out; have := xC acc1; omega
      have hwz : w.heap.size <= wt.heap.size := by have := HB8.out.size; have := HBT.out.size; omega
      go_wp2_with (at_builtin; refine zD rfl _ _ rfl w.heap.size A8 c8 rs8 [⟨3, [], nm, A5, rs5.length, c5, A6, rs6.length, c6⟩] (by rfl) HP9.out.own wt.heap.size 0 1 (by rfl) HRW.out (by simp) (by first | omega | (simp; done)) (by simp; omega) ?_; intro A3 c3 w3 ho3 hg3 hbk3; have HN3 := qb (ju HB8.out HP8.out HBW.out HIN.out ho3 hg3 hbk3); clear ho3 hg3 hbk3)
      go_roundw
      case rel => exact ⟨_, acc1 ++ [.mk 3 [] nm xs ys], rs8 ++ [⟨3, [], nm, A5, rs5.length, c5, A6, rs6.length, c6⟩], A3, c3, k, rfl, by simp, HN3.out.1, by omega, HGF.out, by rw [Pt.sz_snoc]; have := HSA.out; have h0 : Pt.sz [] = 0 := rfl; have h1 : Pt.sz xs = xs.length + Pt.sizes xs := rfl; have h2 : Pt.sz ys = ys.length + Pt.sizes ys := rfl; have _hz9 : Pt.sizes [] = 0 := rfl; simp only [Pt.size, List.length_nil]; omega, HN3.out.2⟩
      case measure => simp [xi, ByteArray.size]; omega
     rw [if_neg hue] at HGH
     have HE : Hid (r = none) := HGH.out.symm
     have hq5 : (su == [101, 110, 100]) = false := by simpa using hue
     have HBz := qb (qa3 HB8.out HBT.out)
     clear hue
     go_wp2
     refine bodyPost_ret (v := .tuple #[.slice none 0 0, sv s4, sv badW]) (by simp [results, results95, go_sem, badW, *]) rfl ⟨?_, HBz.out⟩
     rw [HE.out]
     exact ⟨s4, rfl⟩
    rw [if_neg hsl] at HGG
    have HE : Hid (r = none) := HGG.out.symm
    have hq5 : (st == [101, 110, 100]) = false := by simpa using hse
    have hq6 : (st == [101, 108, 115, 101]) = false := by simpa using hsl
    have HBz := qb (qa3 HB8.out HBs.out)
    clear hsl hse
    go_wp2
    refine bodyPost_ret (v := .tuple #[.slice none 0 0, sv s3, sv badW]) (by simp [results, results95, go_sem, badW, *]) rfl ⟨?_, HBz.out⟩
    rw [HE.out]
    exact ⟨s3, rfl⟩
   have hpre2 : ¬ Pt.pre false Pt.ifW wd = true := by rw [xB, hpi]; simp
   have hgo := Pt.rd_hole false d k acc HS0.out HC.out HC2.out hz0 HW.out hpre hpre2
   rw [HRD.out, <- HACC.out] at hgo
   have HGF := qb hgo.symm
   rw [hpi] at HPI
   have hwl := HWD.out
   have HBW := qb ((Below.refl wx.heap.size wx).alloc (Nat.le_refl _) (.cells #[.int .i64 2, sv [], sv wd, .slice none 0 0, .slice none 0 0] 115))
   have HRW := qb (zH (us := [⟨2, [], wd, none, 0, 0, none, 0, 0⟩]) (heap_alloc_new wx (.cells #[.int .i64 2, sv [], sv wd, .slice none 0 0, .slice none 0 0] 115)) rfl)
   have HP9 := qb (HP8.out.keep HBW.out)
   have hr8 : rs8.length <= 1048580 := by have := HP8.out.len; have := HSA.out; have := xC acc1; omega
   have hwz : w.heap.size <= wx.heap.size := HB8.out.size
   clear hpe hpre hpi hpre2 hgo
   go_wp2_with fail
   refine HPE.out.mono ?_
   rintro e w1 ⟨rfl, rfl⟩
   go_wp2_with fail
   refine HPI.out.mono ?_
   rintro e w1 ⟨rfl, rfl⟩
   go_wp2_with (at_builtin; refine zD rfl _ _ rfl w.heap.size A8 c8 rs8 [⟨2, [], wd, none, 0, 0, none, 0, 0⟩] (by rfl) HP9.out.own wx.heap.size 0 1 (by rfl) HRW.out (by simp) (by first | omega | (simp; done)) (by simp; omega) ?_; intro A3 c3 w3 ho3 hg3 hbk3; have HN3 := qb (ju (x := Pt.hole wd) HB8.out HP8.out HBW.out (vf 2 [] wd) ho3 hg3 hbk3); clear ho3 hg3 hbk3)
   go_roundw
   case rel => exact ⟨_, acc1 ++ [Pt.hole wd], rs8 ++ [⟨2, [], wd, none, 0, 0, none, 0, 0⟩], A3, c3, k, rfl, by simp, HN3.out.1, by omega, HGF.out, by rw [Pt.sz_snoc]; have := HSA.out; simp only [Pt.hole, Pt.size, List.length_nil, Pt.sizes]; omega, HN3.out.2⟩
   case measure => simp [xi, ByteArray.size]; omega
theorem KQ (d : Nat) : RiC d := by
 induction d with
 | zero => exact ZZ 0 fun d' h => by omega
 | succ d ih => exact ZZ (d + 1) fun d' h => by obtain rfl : d = d' := (by omega); exact ih
def RtP (w w' : World) (e : Ending) : Option (List Pt) -> Prop
 | none => ∃ A l c, e = .returned (.tuple #[.slice A l c, .bool false])
 | some L => ∃ A c rs, e = .returned (.tuple #[.slice A (List.length rs) c, .bool true]) /\ PLx w' w.heap.size A c rs L
def rtOf (s : Tx) : Option (List Pt × Tx × Tx) -> Option (List Pt)
 | none => none
 | some x => if (x.2.2 == [] && (Pt.valid x.1 && Pt.wr x.1 == s)) = true then some x.1 else none
theorem yj {z : Bool} {s : Tx} {r : Option (List Pt × Tx × Tx)} (h : Pt.rd z (3 + z.toNat) (s.length + 1) s [] = r) : Pt.readT z s = rtOf s r := by
 subst h
 unfold Pt.readT rtOf
 cases Pt.rd z (3 + z.toNat) (s.length + 1) s [] with
 | none => rfl
 | some x => obtain ⟨L, t, st⟩ := x; rfl
theorem yk {s : Tx} {L : List Pt} {t st : Tx} : rtOf s (some (L, t, st)) = if (st == [] && (Pt.valid L && Pt.wr L == s)) = true then some L else none := rfl
theorem PLs.all {w : World} {B c : Nat} {A : Option Addr} {rs : List Raw} {xs : List Pt} (h : PLs w B A c rs xs) : RdP w (All w) A xs := h.rd.keep (fun _ _ => rfl) (fun _ hj => hj.2)
theorem Jq (s : Tx) (w : World) (hs : s.length <= 1048575) (hm : Hm w) :
  Calls Tryz.prog 48 #[sv s] w fun e w' => RtP w w' e (Pt.readT false s) /\ Below w.heap.size w w' := by
 have HRD : Hid (Calls Tryz.prog 95 #[sv s, .int .i64 0] w fun e w' => RiP w w' e (Pt.rd false 3 (s.length + 1) s []) /\ Below w.heap.size w w') := KQ 3 0 s (s.length + 1) w rfl (Nat.lt_succ_self _) (by omega) hm
 obtain ⟨r, hr⟩ : ∃ r, r = Pt.rd false 3 (s.length + 1) s [] := ⟨_, rfl⟩
 have HRT := qb (yj (z := false) hr.symm)
 have HSZ := qb (fun L t st (e : r = some (L, t, st)) => Pt.rd_size false (s.length + 1) 3 s [] (hr.symm.trans e))
 have HM := qb hm
 rw [<- hr] at HRD
 clear hr hm
 generalize Pt.readT false s = T at *
 go_enter func48, ntmps48
 go_wp2_with fail
 refine HRD.out.mono ?_
 rintro e w1 ⟨hr1, hb⟩
 have HB1 := qb hb
 have HM1 := qb (HM.out.below hb)
 clear hb
 obtain _ | ⟨L, t, st⟩ := r
 ·obtain ⟨t5, rfl⟩ := hr1
  have HE : Hid (T = none) := HRT.out
  by_cases ht : t5 = []
  ·have hq : (t5 == []) = true := by rw [ht]; rfl
   have hq2 : List.isEmpty t5 = true := by rw [ht]; rfl
   clear ht
   go_wp2
   refine bodyPost_ret (v := .tuple #[.slice none 0 0, .bool false]) (by simp [results, results48, go_sem, *]) rfl ⟨?_, HB1.out⟩
   rw [HE.out]
   exact ⟨none, 0, 0, rfl⟩
  have hq : (t5 == []) = false := by simpa using ht
  have hq2 : List.isEmpty t5 = false := by cases t5 with | nil => exact absurd rfl ht | cons => rfl
  clear ht
  go_wp2
  refine bodyPost_ret (v := .tuple #[.slice none 0 0, .bool false]) (by simp [results, results48, go_sem, *]) rfl ⟨?_, HB1.out⟩
  rw [HE.out]
  exact ⟨none, 0, 0, rfl⟩
 obtain ⟨A, c, rs, rfl, hp⟩ := hr1
 dsimp only at hp
 obtain ⟨z1, z2, z3⟩ := HSZ.out L t st rfl
 have HP := qb hp
 have hlp := hp.len
 have hrt2 := HRT.out
 rw [yk] at hrt2
 have HRT2 := qb hrt2
 clear hrt2
 clear hp HRT HSZ HRD
 by_cases hst : st = []
 case neg =>
  have hq3 : (st == []) = false := by simpa using hst
  have hq4 : List.isEmpty st = false := by cases st with | nil => exact absurd rfl hst | cons => rfl
  have HE : Hid (T = none) := by show _ = _; rw [HRT2.out, hq3, Bool.false_and, if_neg (by simp)]
  clear hst hlp
  by_cases ht : t = []
  ·have hq : (t == []) = true := by rw [ht]; rfl
   have hq2 : List.isEmpty t = true := by rw [ht]; rfl
   clear ht
   go_wp2
   refine bodyPost_ret (v := .tuple #[.slice none 0 0, .bool false]) (by simp [results, results48, go_sem, *]) rfl ⟨?_, HB1.out⟩
   rw [HE.out]
   exact ⟨none, 0, 0, rfl⟩
  have hq : (t == []) = false := by simpa using ht
  have hq2 : List.isEmpty t = false := by cases t with | nil => exact absurd rfl ht | cons => rfl
  clear ht
  go_wp2
  refine bodyPost_ret (v := .tuple #[.slice none 0 0, .bool false]) (by simp [results, results48, go_sem, *]) rfl ⟨?_, HB1.out⟩
  rw [HE.out]
  exact ⟨none, 0, 0, rfl⟩
 subst hst
 obtain rfl := z3 rfl
 have hLs : L.length + Pt.sizes L <= 1048576 := by unfold Pt.sz at z1; simp only [List.length_nil, Pt.sizes] at z1; omega
 rw [show (([] : Tx) == []) = true from rfl, Bool.true_and] at HRT2
 have HPV := qb (xv L A c w1 HP.out.all hLs HM1.out)
 rw [<- hlp] at HPV
 have HLP := qb hlp
 have HVO := qb (zK (xs := L))
 clear hlp z1 z2 z3
 go_wp2_with fail
 refine HPV.out.mono ?_
 rintro e w2 ⟨rfl, hb⟩
 have HB2 := qb (qa3 HB1.out hb)
 have HP2 := qb (HP.out.keep hb)
 clear hb
 cases hv : Pt.valid L
 ·rw [hv, Bool.false_and, if_neg (by simp)] at HRT2
  have HE := qb HRT2.out
  go_wp2
  refine bodyPost_ret (v := .tuple #[.slice none 0 0, .bool false]) (by simp [results, results48, go_sem, *]) rfl ⟨?_, HB2.out⟩
  rw [HE.out]
  exact ⟨none, 0, 0, rfl⟩
 rw [hv, Bool.true_and] at HRT2
 have HTW := qb (Vc 3 L false A c w2 (zK hv) HP2.out.all hLs)
 rw [<- HLP.out] at HTW
 clear hv HVO
 go_wp2_with fail
 refine HTW.out.mono ?_
 rintro e w3 ⟨rfl, hb⟩
 have HB3 := qb (qa3 HB2.out hb)
 have HP3 := qb (HP2.out.keep hb)
 clear hb
 generalize Pt.wr L = W at *
 by_cases hW : W = s
 ·have hq : (W == s) = true := by simpa using hW
  rw [hq, if_pos rfl] at HRT2
  have HE := qb HRT2.out
  clear hW
  go_wp2
  refine bodyPost_ret (v := .tuple #[.slice A rs.length c, .bool true]) (by simp [results, results48, go_sem, *]) rfl ⟨?_, HB3.out⟩
  rw [HE.out]
  exact ⟨A, c, rs, rfl, HP3.out⟩
 have hq : (W == s) = false := by simpa using hW
 rw [hq, if_neg (by simp)] at HRT2
 have HE := qb HRT2.out
 clear hW
 go_wp2
 refine bodyPost_ret (v := .tuple #[.slice none 0 0, .bool false]) (by simp [results, results48, go_sem, *]) rfl ⟨?_, HB3.out⟩
 rw [HE.out]
 exact ⟨none, 0, 0, rfl⟩
end Go.Proofs.YtmboieajfdkllaaGreat
