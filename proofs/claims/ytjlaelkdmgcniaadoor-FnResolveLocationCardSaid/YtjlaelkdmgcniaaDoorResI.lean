/- ResolveLocation of impl: a walk. -/
import Derived.Test.YtjlaelkdmgcniaaDoorResB
import Derived.Test.YtjlaelkdmgcniaaDoorReadLocI
import Derived.Deep.CutBlock
namespace Go.Proofs.YtjlaelkdmgcniaaDoor
open Go.RowKit

theorem two_boxes (w : World) (cs ds : Array Value) (t u : TypeId) : Below w.heap.size w ((w.alloc (.cells cs t)).alloc (.cells ds u)) ∧ ((w.alloc (.cells cs t)).alloc (.cells ds u)).heap[w.heap.size]? = some (.cells cs t (0, 0)) ∧ ((w.alloc (.cells cs t)).alloc (.cells ds u)).heap[w.heap.size + 1]? = some (.cells ds u (0, 0)) := by
  have h := heap_alloc_new (w.alloc (.cells cs t)) (.cells ds u)
  rw [show (w.alloc (.cells cs t)).heap.size = w.heap.size + 1 by simp] at h
  exact ⟨Below.alloc (Below.alloc (Below.refl _ _) (Nat.le_refl _) _) (by simp) _, (heap_alloc_old (w.alloc (.cells cs t)) _ (by simp)).trans (heap_alloc_new w _), h⟩
abbrev put4 (w : World) (b : Nat) (v0 v1 v2 v3 : Value) : World := (((w.setCell ⟨b, 0, none⟩ v0).setCell ⟨b, 1, none⟩ v1).setCell ⟨b, 2, none⟩ v2).setCell ⟨b, 3, none⟩ v3
theorem put4_below {w w' : World} {n : Nat} (h : Below n w w') (b : Nat) (v0 v1 v2 v3 : Value) (hb : n ≤ b) : Below n w (put4 w' b v0 v1 v2 v3) :=
  Below.setCell (Below.setCell (Below.setCell (Below.setCell h (p := ⟨b, 0, none⟩) hb _) (p := ⟨b, 1, none⟩) hb _) (p := ⟨b, 2, none⟩) hb _) (p := ⟨b, 3, none⟩) hb _
theorem put4_heap (w : World) (b j : Nat) (v0 v1 v2 v3 : Value) (h : j ≠ b) : (put4 w b v0 v1 v2 v3).heap[j]? = w.heap[j]? := by
  unfold put4
  rw [Below.heap_setCell _ _ _ _ (by exact h), Below.heap_setCell _ _ _ _ (by exact h), Below.heap_setCell _ _ _ _ (by exact h), Below.heap_setCell _ _ _ _ (by exact h)]
theorem byte_neL {b c : UInt8} (h : (b == c) = false) : ((b.toNat : Int) == (c.toNat : Int)) = false := by
  rw [beq_eq_false_iff_ne] at *
  intro e
  exact h (UInt8.toNat_inj.1 (by omega))
theorem byte_eqL {b c : UInt8} (h : (b == c) = true) : ((b.toNat : Int) == (c.toNat : Int)) = true := by
  have := eq_of_beq h
  subst this
  simp
/-- a box is laid -/
theorem lbx_new {w : World} {B r b : Nat} {l : Lc} {A : Option Addr} {c : Nat} {z0 z1 z2 z3 : Value} (hb : w.heap[b]? = some (.cells #[z0, z1, z2, z3] 25 (0, 0))) (ho : OwnS w B A c l.path) (hr : w.heap[r]? = some (.cells #[.string ⟨#[]⟩, .string ⟨#[]⟩, .slice none 0 0, .string ⟨#[]⟩] 25 (0, 0))) (hrB : r < B) (hB : B ≤ b) (v : Value) (hv : v = .slice A l.path.length c) :
    LBx (put4 w b (sv l.sch) (sv l.host) v (sv l.qu)) B r b l A c := by
  subst hv
  have hne : Value.ownBlock (.slice A l.path.length c) ≠ some b := by
    intro e
    rcases ho.2 with ⟨h1, _⟩ | ⟨g, cap, cur, hv, _, hg, _⟩
    · rw [h1] at e; cases e
    · rw [hv] at e
      injection e with e
      simp only at e
      subst e
      rw [hb] at hg
      injection hg with hg
      injection hg with _ hg
      revert hg
      decide
  refine ⟨?_, own_far (own_far (own_far (own_far ho hne) hne) hne) hne, hne, (put4_heap _ _ _ _ _ _ _ (by omega)).trans hr, hrB, hB⟩
  rw [cells_set (cells_set (cells_set (cells_set hb)))]
  rfl
/-- how it ends -/
theorem newLB_end {w w' : World} {r : Lc × Bool} {l : Lc} {A : Option Addr} {c : Nat} (b : Nat) (v0 v1 v2 v3 : Value) (ho : OwnS w' (w.heap.size + 2) A c l.path) (hb : Below w.heap.size w w') (hbl : b = w.heap.size + 1) (hs : r = (l, true)) :
    NewLB w r (.returned (.tuple #[lcV l A c, .bool true])) (put4 w' b v0 v1 v2 v3) := by
  subst hs hbl
  exact ⟨A, c, rfl, own_base (own_off (own_off (own_off (own_off ho (by omega)) (by omega)) (by omega)) (by omega)) (by omega), put4_below hb _ _ _ _ _ (by omega)⟩
theorem newLB_no {w w' : World} {r : Lc × Bool} (b : Nat) (v0 v1 v2 v3 : Value) (hb : Below w.heap.size w w') (hbl : b = w.heap.size + 1) (hs : r = (zeroL, false)) :
    NewLB w r (.returned (.tuple #[lcV zeroL none 0, .bool false])) (put4 w' b v0 v1 v2 v3) := by
  subst hs hbl
  exact ⟨none, 0, rfl, ownS_nil _ _, put4_below hb _ _ _ _ _ (by omega)⟩
theorem own_nb {w : World} {B b : Nat} {A : Option Addr} {c : Nat} {xs : List Tx} {cs : Array Value} (ho : OwnS w B A c xs) (hb : w.heap[b]? = some (.cells cs 25 (0, 0))) : Value.ownBlock (.slice A xs.length c) ≠ some b := by
  intro e
  rcases ho.2 with ⟨h1, _⟩ | ⟨g, cap, cur, hv, _, hg, _⟩
  · rw [h1] at e; cases e
  · rw [hv] at e
    injection e with e
    simp only at e
    subst e
    rw [hb] at hg
    injection hg with hg
    injection hg with _ hg
    revert hg
    decide
set_option maxRecDepth 100000 in
set_option maxHeartbeats 4000000 in
theorem impl_ResolveLocation (l : Lc) (s : Tx) (A : Option Addr) (c : Nat) (w : World) (hr : Rd w w.heap.size A (scells l.path)) (hf : FitL l) (hm : Hm w) (hs : s.length ≤ 10000) (hpl : l.path.length ≤ 10000) :
    Calls Tryd.prog 5 #[lcV l A c, .string ⟨s.toArray⟩] w (NewLB w (resolve l s)) := by
  obtain ⟨hB0, hX0, hZ0⟩ := two_boxes w (lcCells l A c) #[.string ⟨#[]⟩, .string ⟨#[]⟩, .slice none 0 0, .string ⟨#[]⟩] 25 25
  have hs0 : ((w.alloc (.cells (lcCells l A c) 25)).alloc (.cells #[.string ⟨#[]⟩, .string ⟨#[]⟩, .slice none 0 0, .string ⟨#[]⟩] 25)).heap.size = w.heap.size + 2 := by simp
  have HB0 := Lib.hid hB0
  have HX0 := Lib.hid hX0
  have HZ0 := Lib.hid hZ0
  have HS0 := Lib.hid hs0
  have HR0 := Lib.hid (hr.below hB0 |>.more hB0.size)
  have HM0 := Lib.hid (hm.below hB0)
  have HF := Lib.hid hf
  have HM := Lib.hid hm
  have HV := Lib.hid (impl_LocationValid l A c _ HR0.out hf HM0.out)
  have HBAD := Lib.hid (fun h => resolve_bad (l := l) (s := s) h)
  have HNIL := Lib.hid (fun h => resolve_nil (l := l) h)
  have HWH := Lib.hid (fun h1 h2 => resolve_whole (l := l) (s := s) h1 h2)
  have HOUT := Lib.hid (fun h1 h2 h3 => resolve_out (l := l) (s := s) h1 h2 h3)
  clear hB0 hX0 hZ0 hs0 hr hm hf
  generalize locOk l = lv at *
  go_enter Tryd.func5, Tryd.ntmps5
  go_upto_region 1 with fail
  generalize (w.alloc (.cells (lcCells l A c) 25)).alloc (.cells #[.string ⟨#[]⟩, .string ⟨#[]⟩, .slice none 0 0, .string ⟨#[]⟩] 25) = w0 at *
  obtain ⟨⟨f0, f1, f2, f3⟩, -⟩ := box_four HX0.out
  go_wp2_with fail
  refine HV.out.mono ?_
  rintro e wv ⟨rfl, hb⟩
  have HBv := Lib.hid (HB0.out.trans (hb.mono HB0.out.size))
  have HXv := Lib.hid (bx_keep HX0.out hb)
  have HZv := Lib.hid (bx_keep HZ0.out hb)
  have HRv := Lib.hid (HR0.out.below hb |>.more hb.size)
  have HMv := Lib.hid (HM0.out.below hb)
  have hzv : w.heap.size + 2 ≤ wv.heap.size := by have := hb.size; have := HS0.out; omega
  obtain ⟨⟨g0, g1, g2, g3⟩, -⟩ := box_four HXv.out
  obtain ⟨⟨z0, z1, z2, z3⟩, z4, z5, z6, z7⟩ := box_four HZv.out
  clear hb f0 f1 f2 f3 HV HX0 HZ0 HR0 HM0
  cases lv with
  | false =>
    go_wp2
    refine bodyPost_ret (v := .tuple #[lcV zeroL none 0, .bool false]) (by simp [results, Tryd.results5, zeroL, go_sem, *]) rfl ?_
    refine newLB_no (w.heap.size + 1) (sv []) (sv []) (.slice none 0 0) (sv []) (HBv.out) rfl ?_
    exact HBAD.out trivial
  | true =>
    clear z0 z1 z2 z3 z4 z5 z6 z7
    go_upto_region 3 with fail
    go_cut [6] (fun p wx => ∃ (b : Nat) (A6 : Option Addr) (c6 : Nat), p = .pointer (some ⟨b, 0, none⟩) ∧ LBx wx (w.heap.size + 2) (w.heap.size + 1) b ⟨l.sch, l.host, l.path, []⟩ A6 c6 ∧ Below w.heap.size w wx ∧ b < wx.heap.size)
    case first =>
      have HG0 := Lib.hid g0
      have HG1 := Lib.hid g1
      have HG2 := Lib.hid g2
      have hxv : w.heap.size < wv.heap.size := by omega
      have HRD := Lib.hid (fun wx (hb : Below wv.heap.size wv wx) => HRv.out.below hb |>.more hb.size)
      have hpl2 : l.path.length ≤ 4294967296 := by omega
      go_wp2_with fail
      refine wp_region_typed 10 (by kernel_rfl) (by kernel_rfl) (fun _ w => Below (World.heap wv).size wv w) KB (fun i => ([bIs (.pointer (some ⟨w.heap.size, 0, none⟩)), bIs (sv l.sch), bIs (.pointer (some ⟨w.heap.size, 1, none⟩)), bIs (sv l.host), bRow (World.heap wv).size 0 #[] 9, bIs (.pointer (some ⟨w.heap.size, 2, none⟩)), bIs (.slice A l.path.length c), bOwnT (World.heap wv).size l.path, bLoc (World.heap wv).size ⟨l.sch, l.host, l.path, []⟩, bBox (World.heap wv).size #[.string ⟨#[]⟩, .string ⟨#[]⟩, .slice none 0 0, .string ⟨#[]⟩] 25] : List TyB).getD i bAny) ?hWbB1 ?hkeepB1 ?hstepB1 ?hfinbB1
      case hkeepB1 =>
        refine all_lt_succ (all_lt_succ (all_lt_succ (all_lt_succ (all_lt_succ (all_lt_succ (all_lt_succ (all_lt_succ (all_lt_succ (all_lt_succ all_lt_zero ?_) ?_) ?_) ?_) ?_) ?_) ?_) ?_) ?_) ?_
        · exact keeps_bIs
        · exact keeps_bIs
        · exact keeps_bIs
        · exact keeps_bIs
        · exact keeps_bRow
        · exact keeps_bIs
        · exact keeps_bIs
        · exact keeps_bOwnT
        · exact keeps_bLoc
        · exact keeps_bBox
      case hstepB1 =>
        refine all_lt_succ (all_lt_succ (all_lt_succ (all_lt_succ (all_lt_succ (all_lt_succ (all_lt_succ (all_lt_succ (all_lt_succ (all_lt_succ all_lt_zero ?_) ?_) ?_) ?_) ?_) ?_) ?_) ?_) ?_) ?_
        · (intro o ho m' a w1 hm' hW hb hd K Q hK; obtain rfl := Option.some.inj ho; have e0 : a.tmps[2]?.getD undef = .pointer (some ⟨w.heap.size, 0, none⟩) := (by rw [hb 2 (by decide +kernel)]; simp); go_simp; exact hK _ _ hW (kb_refl _) rfl)
        · (intro o ho m' a w1 hm' hW hb hd K Q hK; obtain rfl := Option.some.inj ho; have e0 := slotB (hd 0 (by kernel_rfl) 21 rfl); have hcw := (hW.cell (p := ⟨w.heap.size, 0, none⟩) hxv).trans HG0.out; go_simp; exact hK _ _ hW (kb_refl _) rfl)
        · (intro o ho m' a w1 hm' hW hb hd K Q hK; obtain rfl := Option.some.inj ho; have e0 : a.tmps[2]?.getD undef = .pointer (some ⟨w.heap.size, 0, none⟩) := (by rw [hb 2 (by decide +kernel)]; simp); go_simp; exact hK _ _ hW (kb_refl _) rfl)
        · (intro o ho m' a w1 hm' hW hb hd K Q hK; obtain rfl := Option.some.inj ho; have e0 := slotB (hd 2 (by kernel_rfl) 23 rfl); have hcw := (hW.cell (p := ⟨w.heap.size, 1, none⟩) hxv).trans HG1.out; go_simp; exact hK _ _ hW (kb_refl _) rfl)
        · (intro o ho m' a w1 hm' hW hb hd K Q hK; obtain rfl := Option.some.inj ho; go_simp; exact hK _ _ (hW.alloc hW.size _) ((Below.refl _ _).alloc (Nat.le_refl _) _) ⟨_, rfl, hW.size, heap_alloc_new w1 _⟩)
        · (intro o ho m' a w1 hm' hW hb hd K Q hK; obtain rfl := Option.some.inj ho; have e0 : a.tmps[2]?.getD undef = .pointer (some ⟨w.heap.size, 0, none⟩) := (by rw [hb 2 (by decide +kernel)]; simp); go_simp; exact hK _ _ hW (kb_refl _) rfl)
        · (intro o ho m' a w1 hm' hW hb hd K Q hK; obtain rfl := Option.some.inj ho; have e0 := slotB (hd 5 (by kernel_rfl) 26 rfl); have hcw := (hW.cell (p := ⟨w.heap.size, 2, none⟩) hxv).trans HG2.out; go_simp; exact hK _ _ hW (kb_refl _) rfl)
        · (intro o ho m' a w1 hm' hW hb hd K Q hK; obtain rfl := Option.some.inj ho; obtain ⟨g, e0, hbg, hgg⟩ := (hd 4 (by kernel_rfl) 25 rfl); have e0 := slotB e0; have e1 := slotB (hd 6 (by kernel_rfl) 27 rfl); refine wp_app_fresh _ _ rfl _ g (by first | exact e0 | (simp [go_sem]; exact e0)) hbg hgg _ _ _ (by first | exact e1 | (simp [go_sem]; exact e1)) (HRD.out _ hW) hpl2 hW.size ?_; intro A2 c2 w2 ho2 hb2; exact hK _ _ (hW.trans (hb2.mono hW.size)) hb2 ⟨A2, c2, rfl, ho2⟩)
        · (intro o ho m' a w1 hm' hW hb hd K Q hK; obtain rfl := Option.some.inj ho; have e0 := slotB (hd 1 (by kernel_rfl) 22 rfl); have e1 := slotB (hd 3 (by kernel_rfl) 24 rfl); obtain ⟨A2, c2, e2, ho2⟩ := (hd 7 (by kernel_rfl) 28 rfl); have e2 := slotB e2; go_simp; exact hK _ _ hW (kb_refl _) ⟨A2, c2, rfl, ho2⟩)
        · (intro o ho m' a w1 hm' hW hb hd K Q hK; obtain rfl := Option.some.inj ho; go_simp; exact hK _ _ (hW.alloc hW.size _) ((Below.refl _ _).alloc (Nat.le_refl _) _) ⟨_, rfl, hW.size, heap_alloc_new w1 _⟩)
      case hWbB1 => exact (Below.refl _ _).drew
      case hfinbB1 =>
        intro vs wx hW hF
        simp only [putAll, hdst, List.getElem?_cons_succ, List.getElem?_cons_zero, Option.bind, List.drop_succ_cons, List.drop_zero, Act.put]
        obtain ⟨A6, c6, h8, ho8⟩ := hF 8 (by omega)
        obtain ⟨b, h9, hBb, hbb⟩ := hF 9 (by omega)
        rw [h8, h9]
        have HZx := Lib.hid (bx_keep HZv.out hW)
        have HL := Lib.hid (lbx_new (l := ⟨l.sch, l.host, l.path, []⟩) hbb (own_base ho8 hzv) HZx.out (Nat.lt_succ_self _) (Nat.le_trans hzv hBb) _ rfl)
        have HBx := Lib.hid (put4_below (HBv.out.trans (hW.mono HBv.out.size)) b (sv l.sch) (sv l.host) (.slice A6 l.path.length c6) (sv []) (by omega))
        have hbl := lt_of_block hbb
        have hbl2 : b < (put4 wx b (sv l.sch) (sv l.host) (.slice A6 l.path.length c6) (sv [])).heap.size := by simpa [World.setCell] using hbl
        obtain ⟨⟨f0, f1, f2, f3⟩, f4, f5, f6, f7⟩ := box_four hbb
        clear hF h8 h9 hW ho8 hbb
        go_simp
        go_wp2
        go_meet
        case rel => exact ⟨b, A6, c6, rfl, HL.out, HBx.out, hbl2⟩
    case rest =>
      obtain ⟨b, A6, c6, rfl, hl6, hb6, hbl⟩ := hcut
      have HL6 := Lib.hid hl6
      have HB6 := Lib.hid hb6
      clear hl6 hb6 g0 g1 g2 g3 HZv HXv HRv HMv HBv
      have hbB : w.heap.size + 2 ≤ b := HL6.out.bge
      obtain ⟨⟨f0, f1, f2, f3⟩, f4, f5, f6, f7⟩ := box_four HL6.out.box
      obtain ⟨⟨z0, z1, z2, z3⟩, z4, z5, z6, z7⟩ := box_four HL6.out.res
      by_cases hse : s = []
      · subst hse
        go_wp2
        refine bodyPost_ret (v := .tuple #[lcV ⟨l.sch, l.host, l.path, []⟩ A6 c6, .bool true]) (by simp [results, Tryd.results5, go_sem, *]) rfl ?_
        exact newLB_end (l := ⟨l.sch, l.host, l.path, []⟩) (w.heap.size + 1) (sv l.sch) (sv l.host) (.slice A6 l.path.length c6) (sv []) HL6.out.own HB6.out rfl (HNIL.out trivial)
      have hsi : (s == []) = false := by simpa using hse
      have hsi2 : List.isEmpty s = false := by simpa using hse
      clear f0 f1 f2 f3 f4 f5 f6 f7 z0 z1 z2 z3 z4 z5 z6 z7
      go_wp2_with fail
      refine (impl_ReadLocation s (by omega) _ (HM.out.below HB6.out)).mono ?_
      generalize readLoc s = rl at *
      obtain ⟨l7, ok7⟩ := rl
      rintro e w7 ⟨A7, c7, rfl, ho7, hb⟩
      have HA7 := Lib.hid ((Below.refl w7.heap.size w7).alloc (Nat.le_refl _) (.cells (lcCells l7 A7 c7) 25))
      have HX7 := Lib.hid (heap_alloc_new w7 (.cells (lcCells l7 A7 c7) 25))
      have HB67 := Lib.hid (hb.trans (HA7.out.mono hb.size))
      have HL7 := Lib.hid (HL6.out.keep HB67.out)
      have HB7 := Lib.hid (HB6.out.trans (HB67.out.mono HB6.out.size))
      have HO7 := Lib.hid (own_base (ownS_keep ho7 HA7.out) (b := w.heap.size + 2) (by omega))
      have hbl7 : b < (w7.alloc (.cells (lcCells l7 A7 c7) 25)).heap.size := lt_of_block HL7.out.box
      clear hb ho7 HL6 HB6 HA7 HB67 hbl
      dsimp only
      cases ok7 with
      | true =>
        go_upto_region 8 with fail
        generalize w7.alloc (.cells (lcCells l7 A7 c7) 25) = w8 at *
        obtain ⟨⟨f0, f1, f2, f3⟩, f4, f5, f6, f7⟩ := box_four HX7.out
        obtain ⟨⟨z0, z1, z2, z3⟩, z4, z5, z6, z7⟩ := box_four HL7.out.res
        go_wp2
        refine bodyPost_ret (v := .tuple #[lcV l7 A7 c7, .bool true]) (by simp [results, Tryd.results5, go_sem, *]) rfl ?_
        exact newLB_end (l := l7) (w.heap.size + 1) (sv l7.sch) (sv l7.host) (.slice A7 l7.path.length c7) (sv l7.qu) HO7.out HB7.out rfl (HWH.out trivial trivial)
      | false =>
        have HRES : Hid (resolve l s = if locOk (resOut l s) then (resOut l s, true) else (zeroL, false)) := HOUT.out trivial (by first | trivial | rfl) hse
        clear HOUT HWH HNIL HBAD HX7 HO7
        go_upto_region 9 with fail
        generalize w7.alloc (.cells (lcCells l7 A7 c7) 25) = w8 at *
        have HRO : Hid (resOut l s = ⟨l.sch, l.host, resPath l (s.take (at_ 63 s)), s.drop (at_ 63 s + 1)⟩) := rfl
        have HCU := Lib.hid (fun w => cut_at s 63 (by omega) w)
        have hpb : (s.take (at_ 63 s)).length ≤ s.length := by rw [List.length_take]; omega
        have hql : (s.drop (at_ 63 s + 1)).length ≤ s.length := by simp
        have HEM : Hid ((s.take (at_ 63 s) = []) ↔ (s[0]'(List.length_pos_iff.2 hse) == 63) = true) := by
          show _ ↔ _
          cases s with
          | nil => exact absurd rfl hse
          | cons c t =>
            cases hc : (c == 63)
            · simp [at_, List.findIdx_cons, hc]
            · simp [at_, List.findIdx_cons, hc]
        generalize s.take (at_ 63 s) = pb at *
        generalize s.drop (at_ 63 s + 1) = q at *
        go_wp2_with fail
        refine (HCU.out _).mono ?_
        rintro e w9 ⟨rfl, n9, rfl⟩
        have HL9 : Hid (LBx (w8.drewN n9) (w.heap.size + 2) (w.heap.size + 1) b ⟨l.sch, l.host, l.path, []⟩ A6 c6) := HL7.out.keep (below_drewN (Below.refl _ _) n9)
        have HB9 := Lib.hid (below_drewN HB7.out n9)
        clear HL7 HB7 HCU
        generalize w8.drewN n9 = w9 at *
        obtain ⟨⟨f0, f1, f2, f3⟩, f4, f5, f6, f7⟩ := box_four HL9.out.box
        go_upto_region 11 with fail
        have HL10 := Lib.hid (HL9.out.qu (sv q) rfl)
        have HB10 := Lib.hid (Below.setCell HB9.out (p := ⟨b, 3, none⟩) (by show w.heap.size ≤ b; omega) (sv q))
        clear f0 f1 f2 f3 f4 f5 f6 f7 HL9 HB9
        generalize w9.setCell ⟨b, 3, none⟩ (sv q) = w10 at *
        obtain ⟨t1, h1, HCP, ht1, hf1⟩ : ∃ (t1 : Tx) (h1 : Bool), Hid (∀ w, Calls Tryd.prog 17 #[.string ⟨pb.toArray⟩, .string ⟨#[47]⟩] w fun e w' => e = .returned (.tuple #[sv t1, .bool h1]) ∧ w' = w) ∧ (h1 = true → pb = 47 :: t1) ∧ (h1 = false → t1 = pb ∧ pb.head? ≠ some 47) := by
          by_cases hh : pb.head? = some 47
          · obtain ⟨t1, rfl⟩ : ∃ t1, pb = 47 :: t1 := by
              cases pb with
              | nil => cases hh
              | cons c t => injection hh with hh; subst hh; exact ⟨t, rfl⟩
            exact ⟨t1, true, fun w => cutP_hit t1 w, (fun _ => rfl), (fun e => by cases e)⟩
          · exact ⟨pb, false, fun w => cutP_miss pb hh w, (fun e => by cases e), fun _ => ⟨rfl, hh⟩⟩
        go_wp2_with fail
        refine (HCP.out _).mono ?_
        rintro e w11 ⟨rfl, rfl⟩
        clear HCP
        have HT1 := Lib.hid ht1
        have HF1 := Lib.hid hf1
        clear ht1 hf1
        go_upto_if 53 with fail
        go_cut [9] (fun p wx => ∃ (t : Tx) (p0 : List Tx) (A7 : Option Addr) (c7 : Nat), p = sv t ∧ t.length ≤ s.length ∧ resWords p0 (Lib.split t [47]) = resPath l pb ∧ LBx wx (w.heap.size + 2) (w.heap.size + 1) b ⟨l.sch, l.host, p0, q⟩ A7 c7 ∧ p0.length ≤ 10000 ∧ (∀ x ∈ p0, x.length ≤ 1048576) ∧ Below w.heap.size w wx)
        case first =>
          cases h1 with
          | true =>
            have hp := HT1.out rfl
            obtain ⟨⟨f0, f1, f2, f3⟩, f4, f5, f6, f7⟩ := box_four HL10.out.box
            have HLE := Lib.hid (HL10.out.empty (.slice none 0 0) rfl)
            have HBE := Lib.hid (Below.setCell HB10.out (p := ⟨b, 2, none⟩) (by show w.heap.size ≤ b; omega) (.slice none 0 0))
            have hw : resWords [] (Lib.split t1 [47]) = resPath l pb := by unfold resPath; rw [hp]; simp
            have htl : t1.length ≤ s.length := by have := congrArg List.length hp; simp at this; omega
            clear hp HEM
            go_wp2
            go_meet
            case rel => exact ⟨t1, [], none, 0, rfl, htl, hw, HLE.out, by simp, (fun x hx => by cases hx), HBE.out⟩
          | false =>
            obtain ⟨rfl, hh⟩ := HF1.out rfl
            have hs0 : 0 < s.length := List.length_pos_iff.2 hse
            obtain ⟨⟨f0, f1, f2, f3⟩, f4, f5, f6, f7⟩ := box_four HL10.out.box
            have hx6 := HF.out.2.2.2.2
            cases h63 : (s[0] == 63)
            · have m63 : ((s[0].toNat : Int) != 63) = true := by have : ((s[0].toNat : Int) == 63) = false := byte_neL h63; rw [bne, this]; rfl
              have hpe : ¬ t1 = [] := fun e => by rw [HEM.out.1 e] at h63; cases h63
              have hw : resWords l.path.dropLast (Lib.split t1 [47]) = resPath l t1 := by unfold resPath; rw [if_neg hpe, if_neg hh]
              clear HEM h63 hh hpe
              by_cases hpn : l.path = []
              · have hl0 : (0 < l.path.length) = False := by rw [hpn]; simp
                have hw2 : resWords l.path (Lib.split t1 [47]) = resPath l t1 := by rw [← hw, hpn]; rfl
                clear hpn hw
                go_wp2
                go_meet
                case rel => exact ⟨t1, l.path, A6, c6, rfl, hpb, hw2, HL10.out, hpl, hx6, HB10.out⟩
              · have hl0 : (0 < l.path.length) = True := eq_true (List.length_pos_iff.2 hpn)
                have HLP := Lib.hid (HL10.out.pop hpn (.slice A6 (l.path.length - 1) c6) rfl)
                have HBP := Lib.hid (Below.setCell HB10.out (p := ⟨b, 2, none⟩) (by show w.heap.size ≤ b; omega) (.slice A6 (l.path.length - 1) c6))
                obtain ⟨ga, rfl, _, _⟩ := own_some HL10.out.own (List.length_pos_iff.2 hpn)
                have hcap := ownS_cap HL10.out.own
                have hpos := List.length_pos_iff.2 hpn
                have hi1 : (0 : Int) ≤ (l.path.length : Int) - 1 := by omega
                have hi2 : (l.path.length : Int) - 1 ≤ (c6 : Int) := by have : l.path.length ≤ c6 := hcap; omega
                have hi3 : ((l.path.length : Int) - 1).toNat = l.path.length - 1 := by omega
                clear hpn
                go_wp2
                go_meet
                case rel => exact ⟨t1, l.path.dropLast, some ⟨ga, 0, none⟩, c6, rfl, hpb, hw, HLP.out, by simp; omega, (fun x hx => hx6 x (List.dropLast_subset _ hx)), HBP.out⟩
            · have m63 : ((s[0].toNat : Int) != 63) = false := by have : ((s[0].toNat : Int) == 63) = true := byte_eqL h63; rw [bne, this]; rfl
              have hpe : t1 = [] := HEM.out.2 h63
              subst hpe
              have hw : resWords l.path (Lib.split [] [47]) = resPath l [] := by
                rw [split_miss (by decide)]
                unfold resPath
                rw [if_pos rfl]
                simp [resWords, resStep]
              clear HEM h63 hh
              go_wp2
              go_meet
              case rel => exact ⟨[], l.path, A6, c6, rfl, by simp, hw, HL10.out, hpl, hx6, HB10.out⟩
        case rest =>
          obtain ⟨t, p0, A7, c7, rfl, htl, hrw, hl7, hp0, hx0, hb7⟩ := hcut
          have HL7 := Lib.hid hl7
          have HB7 := Lib.hid hb7
          have HX0 := Lib.hid hx0
          have hz7 := hb7.size
          clear hl7 hb7 hx0 HL10 HB10 HEM
          generalize hR : resPath l pb = R at *
          have HRW := Lib.hid hrw
          have hwl : (Lib.split t [47]).length ≤ t.length + 1 := split_len _ (by simp)
          have HWM : Hid (∀ x ∈ Lib.split t [47], x.length ≤ 1048576) := fun x hx => Nat.le_trans (split_mem _ (by simp) x hx) (by omega)
          clear hrw hR
          go_wp2_with fail
          refine (split_tx t [47] (by simp) (by omega) _ (HM.out.below HB7.out)).mono ?_
          generalize Lib.split t [47] = ws at *
          rintro e w8 ⟨A8, c8, rfl, ho8, hb⟩
          have HL8 := Lib.hid (HL7.out.keep hb)
          have HB8 := Lib.hid (HB7.out.trans (hb.mono HB7.out.size))
          have HO8 := Lib.hid ho8
          have hne8 : ∀ g, Value.ownBlock (.slice A8 ws.length c8) = some g → Value.ownBlock (.slice A7 p0.length c7) ≠ some g := fun g h1 h2 => by
            have := (ho8.lt g h1).1
            have := (HL7.out.own.lt g h2).2
            omega
          have hz8 := HB8.out.size
          clear hb ho8 HL7 HB7
          go_wp2
          go_loopw [77] (fun i wr => ∃ (k : Nat) (p : List Tx) (A9 : Option Addr) (c9 : Nat), k ≤ ws.length ∧ i = .int .i64 k ∧ resWords p (ws.drop k) = R ∧ LBx wr (w.heap.size + 2) (w.heap.size + 1) b ⟨l.sch, l.host, p, q⟩ A9 c9 ∧ p.length ≤ 10000 + k ∧ (∀ x ∈ p, x.length ≤ 1048576) ∧ OwnS wr w.heap.size A8 c8 ws ∧ (∀ g, Value.ownBlock (.slice A8 ws.length c8) = some g → Value.ownBlock (.slice A9 p.length c9) ≠ some g) ∧ Below w.heap.size w wr) (fun i _ => ws.length - (intOf i).toNat)
          case atStart => exact ⟨0, p0, A7, c7, Nat.zero_le _, rfl, HRW.out, HL8.out, by omega, HX0.out, own_base HO8.out hz7, hne8, HB8.out⟩
          case round =>
            obtain ⟨k, p, A9, c9, hk, rfl, hrw, hl, hpn, hpx, how, hne, hb⟩ := hrel
            have HL := Lib.hid hl
            have HPX := Lib.hid hpx
            have HOW := Lib.hid how
            have HNE := Lib.hid hne
            have HB := Lib.hid hb
            clear hl hpx how hne hb hne8 hz8
            by_cases hlt : k < ws.length
            · have HST := Lib.hid (hrw.symm.trans (resWords_step hlt))
              obtain ⟨g8, o8, rfl, hab, d0⟩ := ((ownS_rd HOW.out).str hlt)
              have hxl := HWM.out _ (List.getElem_mem hlt)
              obtain ⟨⟨f0, f1, f2, f3⟩, f4, f5, f6, f7⟩ := box_four HL.out.box
              generalize ws[k] = x at *
              clear hrw
              have HNB := Lib.hid (own_nb HOW.out HL.out.box)
              have hbr : b < wr.heap.size := lt_of_block HL.out.box
              by_cases hx1 : x = [46]
              · have HW2 : Hid (resWords p (ws.drop (k + 1)) = R) := by show _ = _; rw [HST.out, hx1]; simp [resStep]
                subst hx1
                clear HST
                go_wp2
                go_roundw
                case rel => exact ⟨k + 1, p, A9, c9, by omega, by go_num, HW2.out, HL.out, by omega, HPX.out, HOW.out, HNE.out, HB.out⟩
                case measure => simp [intOf]; omega
              by_cases hx2 : x = [] ∧ k + 1 = ws.length
              · obtain ⟨hx2, hkl⟩ := hx2
                have HW2 : Hid (resWords p (ws.drop (k + 1)) = R) := by show _ = _; rw [HST.out, hx2]; simp [resStep, hkl]
                have hkI : ((k : Int) == (ws.length : Int) - 1) = true := by simp; omega
                subst hx2
                clear HST hx1 hkl
                go_wp2
                go_roundw
                case rel => exact ⟨k + 1, p, A9, c9, by omega, by go_num, HW2.out, HL.out, by omega, HPX.out, HOW.out, HNE.out, HB.out⟩
                case measure => simp [intOf]; omega
              by_cases hx3 : x = [46, 46]
              · subst hx3
                have HW3 : Hid (resWords p.dropLast (ws.drop (k + 1)) = R) := by show _ = _; rw [HST.out]; simp [resStep]
                clear HST hx1 hx2
                by_cases hpn : p = []
                · have hl0 : (0 < p.length) = False := by rw [hpn]; simp
                  have HW2 : Hid (resWords p (ws.drop (k + 1)) = R) := by show _ = _; rw [← HW3.out, hpn]; rfl
                  clear hpn HW3
                  go_wp2
                  go_roundw
                  case rel => exact ⟨k + 1, p, A9, c9, by omega, by go_num, HW2.out, HL.out, by omega, HPX.out, HOW.out, HNE.out, HB.out⟩
                  case measure => simp [intOf]; omega
                · have hl0 : (0 < p.length) = True := eq_true (List.length_pos_iff.2 hpn)
                  have HLP := Lib.hid (HL.out.pop hpn (.slice A9 (p.length - 1) c9) rfl)
                  have HBP := Lib.hid (Below.setCell HB.out (p := ⟨b, 2, none⟩) (by show w.heap.size ≤ b; omega) (.slice A9 (p.length - 1) c9))
                  have HOP := Lib.hid (own_far (o := 2) (u := .slice A9 (p.length - 1) c9) HOW.out HNB.out)
                  obtain ⟨ga, rfl, _, _⟩ := own_some HL.out.own (List.length_pos_iff.2 hpn)
                  have hcap : p.length ≤ c9 := ownS_cap HL.out.own
                  have hpos := List.length_pos_iff.2 hpn
                  have hi1 : (0 : Int) ≤ (p.length : Int) - 1 := by omega
                  have hi2 : (p.length : Int) - 1 ≤ (c9 : Int) := by omega
                  have hi3 : ((p.length : Int) - 1).toNat = p.length - 1 := by omega
                  clear hpn
                  go_wp2
                  go_roundw
                  case rel => exact ⟨k + 1, p.dropLast, some ⟨ga, 0, none⟩, c9, by omega, by go_num, HW3.out, HLP.out, by simp; omega, (fun x hx => HPX.out x (List.dropLast_subset _ hx)), HOP.out, (fun g h1 h2 => HNE.out g h1 (by rw [← h2]; rfl)), HBP.out⟩
                  case measure => simp [intOf]; omega
              · have HW4 : Hid (resWords (p ++ [x]) (ws.drop (k + 1)) = R) := by
                  show _ = _
                  rw [HST.out]
                  unfold resStep
                  rw [if_neg (by simp only [not_or, not_and, decide_eq_true_eq]; exact ⟨hx1, fun e h => hx2 ⟨e, h⟩⟩), if_neg hx3]
                have HA1 := Lib.hid ((Below.refl wr.heap.size wr).alloc (Nat.le_refl _) (.cells #[sv x] 9))
                have HXA := Lib.hid (heap_alloc_new wr (.cells #[sv x] 9))
                have HLA := Lib.hid (HL.out.keep HA1.out)
                have HOA := Lib.hid (ownS_keep HOW.out HA1.out)
                have HBA := Lib.hid (HB.out.trans (HA1.out.mono HB.out.size))
                have hza : (wr.alloc (.cells #[sv x] 9)).heap.size = wr.heap.size + 1 := by simp
                have hg8 := (HOW.out.lt g8 rfl).2
                have hszw := HB.out.size
                have hx1b : (x == [46]) = false := by simpa using hx1
                have hx3b : (x == [46, 46]) = false := by simpa using hx3
                by_cases hx0 : x = []
                · subst hx0
                  have hkI : ((k : Int) == (ws.length : Int) - 1) = false := by
                    have : ¬ k + 1 = ws.length := fun e => hx2 ⟨rfl, e⟩
                    simp; omega
                  clear HST hx1 hx2 hx3 hx1b hx3b
                  go_wp2_with (at_builtin; refine app_strb_at rfl _ _ rfl (w.heap.size + 2) A9 c9 p _ (by rfl) HLA.out.own wr.heap.size (by rfl) HXA.out ?_ (by omega) ?_; (focus omega); intro A3 c3 w5 ho5 hg5 hbk5; obtain ⟨⟨q0, q1, q2, q3⟩, q4, q5, q6, q7⟩ := box_four (HLA.out.boxApp hg5))
                  have HL5 := Lib.hid (HLA.out.app ho5 hg5 (by rw [List.length_append, List.length_singleton]; exact hbk5) (.slice A3 (p.length + 1) c3) (by simp))
                  have HO5 := Lib.hid (own_far (o := 2) (u := .slice A3 (p.length + 1) c3) (HOA.out.kept hg5 (.inr (fun e => HNE.out g8 rfl e.symm))) HNB.out)
                  have HB5 := Lib.hid (Below.setCell (HBA.out.trans (grown_to_below hg5 HBA.out.size (fun g e => by have := ownS_row HLA.out.own g e; omega))) (p := ⟨b, 2, none⟩) (by show w.heap.size ≤ b; omega) (.slice A3 (p.length + 1) c3))
                  go_roundw
                  case rel =>
                    refine ⟨k + 1, p ++ [_], A3, c3, by omega, by go_num, HW4.out, by simpa using HL5.out, by simp; omega, ?_, HO5.out, ?_, by simpa using HB5.out⟩
                    · intro y hy
                      rcases List.mem_append.1 hy with hy | hy
                      · exact HPX.out y hy
                      · simp at hy; rw [hy]; exact hxl
                    · intro g h1 h2
                      have hgg : g8 = g := by injection h1
                      subst hgg
                      rw [List.length_append, List.length_singleton] at h2
                      rcases hbk5 with e | e
                      · rw [e] at h2; exact HNE.out g8 rfl h2
                      · rw [e] at h2; injection h2 with h2; omega
                  case measure => simp [intOf]; omega
                · have hx0b : (x == []) = false := by simpa using hx0
                  have hx0c : List.isEmpty x = false := by simpa using hx0
                  clear HST hx1 hx2 hx3 hx0
                  go_wp2_with (at_builtin; refine app_strb_at rfl _ _ rfl (w.heap.size + 2) A9 c9 p _ (by rfl) HLA.out.own wr.heap.size (by rfl) HXA.out ?_ (by omega) ?_; (focus omega); intro A3 c3 w5 ho5 hg5 hbk5; obtain ⟨⟨q0, q1, q2, q3⟩, q4, q5, q6, q7⟩ := box_four (HLA.out.boxApp hg5))
                  have HL5 := Lib.hid (HLA.out.app ho5 hg5 (by rw [List.length_append, List.length_singleton]; exact hbk5) (.slice A3 (p.length + 1) c3) (by simp))
                  have HO5 := Lib.hid (own_far (o := 2) (u := .slice A3 (p.length + 1) c3) (HOA.out.kept hg5 (.inr (fun e => HNE.out g8 rfl e.symm))) HNB.out)
                  have HB5 := Lib.hid (Below.setCell (HBA.out.trans (grown_to_below hg5 HBA.out.size (fun g e => by have := ownS_row HLA.out.own g e; omega))) (p := ⟨b, 2, none⟩) (by show w.heap.size ≤ b; omega) (.slice A3 (p.length + 1) c3))
                  go_roundw
                  case rel =>
                    refine ⟨k + 1, p ++ [_], A3, c3, by omega, by go_num, HW4.out, by simpa using HL5.out, by simp; omega, ?_, HO5.out, ?_, by simpa using HB5.out⟩
                    · intro y hy
                      rcases List.mem_append.1 hy with hy | hy
                      · exact HPX.out y hy
                      · simp at hy; rw [hy]; exact hxl
                    · intro g h1 h2
                      have hgg : g8 = g := by injection h1
                      subst hgg
                      rw [List.length_append, List.length_singleton] at h2
                      rcases hbk5 with e | e
                      · rw [e] at h2; exact HNE.out g8 rfl h2
                      · rw [e] at h2; injection h2 with h2; omega
                  case measure => simp [intOf]; omega
            · obtain rfl : k = ws.length := by omega
              have hpR : p = R := by rw [List.drop_length] at hrw; exact hrw
              subst hpR
              obtain ⟨⟨f0, f1, f2, f3⟩, f4, f5, f6, f7⟩ := box_four HL.out.box
              have HFO : Hid (FitL ⟨l.sch, l.host, p, q⟩) := ⟨HF.out.1, HF.out.2.1, by show q.length ≤ _; omega, by show p.length ≤ _; omega, HPX.out⟩
              have HVO := Lib.hid (impl_LocationValid ⟨l.sch, l.host, p, q⟩ A9 c9 _ (ownS_rd HL.out.own) HFO.out (HM.out.below HB.out))
              rw [HRO.out] at HRES
              generalize locOk ⟨l.sch, l.host, p, q⟩ = lo at *
              clear hrw hlt hk
              go_wp2_with fail
              refine HVO.out.mono ?_
              rintro e w12 ⟨rfl, hb⟩
              have HL12 := Lib.hid (HL.out.keep hb)
              have HB12 := Lib.hid (HB.out.trans (hb.mono HB.out.size))
              clear hb f0 f1 f2 f3 f4 f5 f6 f7
              obtain ⟨⟨f0, f1, f2, f3⟩, f4, f5, f6, f7⟩ := box_four HL12.out.box
              obtain ⟨⟨z0, z1, z2, z3⟩, z4, z5, z6, z7⟩ := box_four HL12.out.res
              cases lo
              · go_wp2
                refine bodyPost_ret (v := .tuple #[lcV zeroL none 0, .bool false]) (by simp [results, Tryd.results5, zeroL, go_sem, *]) rfl ?_
                refine newLB_no (w.heap.size + 1) (sv []) (sv []) (.slice none 0 0) (sv []) (HB12.out) rfl ?_
                exact HRES.out
              · go_wp2
                refine bodyPost_ret (v := .tuple #[lcV ⟨l.sch, l.host, p, q⟩ A9 c9, .bool true]) (by simp [results, Tryd.results5, go_sem, *]) rfl ?_
                exact newLB_end (l := ⟨l.sch, l.host, p, q⟩) (w.heap.size + 1) (sv l.sch) (sv l.host) (.slice A9 p.length c9) (sv q) HL12.out.own HB12.out rfl HRES.out
end Go.Proofs.YtjlaelkdmgcniaaDoor
