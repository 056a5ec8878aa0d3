/- ResolveLocation of spec: a walk. -/
import Derived.Test.YtjlaelkdmgcniaaDoorResO
import Derived.Test.YtjlaelkdmgcniaaDoorReadLocS
import Derived.RegionTactic
import Derived.Deep.CutBlock
namespace Go.Proofs.YtjlaelkdmgcniaaDoor
open Go.RowKit

theorem put4_box {w : World} {b c : Nat} {l : Lc} {A : Option Addr} {z0 z1 z2 z3 : Value} (hb : w.heap[b]? = some (.cells #[z0, z1, z2, z3] 25 (0, 0))) :
    (put4 w b (sv l.sch) (sv l.host) (.slice A l.path.length c) (sv l.qu)).heap[b]? = some (.cells (lcCells l A c) 25 (0, 0)) := by
  rw [cells_set (cells_set (cells_set (cells_set hb)))]
  rfl
theorem put4_own {w : World} {B b c : Nat} {A : Option Addr} {xs : List Tx} {cs : Array Value} (hb : w.heap[b]? = some (.cells cs 25 (0, 0))) (ho : OwnS w B A c xs) (v0 v1 v2 v3 : Value) : OwnS (put4 w b v0 v1 v2 v3) B A c xs := by
  have hne := own_nb ho hb
  exact own_far (own_far (own_far (own_far ho hne) hne) hne) hne
theorem put4_size (w : World) (b : Nat) (v0 v1 v2 v3 : Value) : (put4 w b v0 v1 v2 v3).heap.size = w.heap.size := by simp [World.setCell]
theorem rd_put4 {w : World} {B r : Nat} {A : Option Addr} {xs : List Tx} (h : Rd w B A (scells xs)) (hx : ∀ x ∈ xs, x ≠ []) (hr : w.heap[r]? = some (.cells #[.string ⟨#[]⟩, .string ⟨#[]⟩, .slice none 0 0, .string ⟨#[]⟩] 25 (0, 0))) (v0 v1 v2 v3 : Value) : Rd (put4 w r v0 v1 v2 v3) B A (scells xs) := fun hne => by
  obtain ⟨b, o, e, hb, hc⟩ := h hne
  have hbr : b ≠ r := by
    intro e2
    subst e2
    cases xs with
    | nil => exact hne rfl
    | cons x t =>
      have h0 := hc 0 (sv x) (by simp [scells])
      rw [cell_of_row w b (o + 0) _ _ _ hr] at h0
      have hxx := hx x (by simp)
      have hxe : x = [] := by
        match o, h0 with
        | 0, h0 => simpa using h0.symm
        | 1, h0 => simpa using h0.symm
        | 2, h0 => simp at h0
        | 3, h0 => simpa using h0.symm
        | n + 4, h0 => simp at h0
      exact hxx hxe
  exact ⟨b, o, e, hb, fun j u hu => (World.cell?_of_block (put4_heap _ _ _ _ _ _ _ hbr)).trans (hc j u hu)⟩
theorem readLoc_words {s : Tx} (h : (readLoc s).2 = true) : ∀ x ∈ (readLoc s).1.path, x ≠ [] := fun x hx => (step_no ((locOk_parts (readLoc_ok h)).path x hx)).2.2
theorem rdL_end {w w' : World} {r : Lc × Bool} {l : Lc} {A : Option Addr} {c : Nat} (b : Nat) (v0 v1 v2 v3 : Value) (ho : Rd (put4 w' b v0 v1 v2 v3) w'.heap.size A (scells l.path)) (hc : l.path.length ≤ c) (hb : Below w.heap.size w w') (hbl : b = w.heap.size + 1) (hs : r = (l, true)) :
    RdL w r (.returned (.tuple #[lcV l A c, .bool true])) (put4 w' b v0 v1 v2 v3) := by
  subst hs hbl
  exact ⟨A, c, rfl, by rw [put4_size]; exact ho, hc, put4_below hb _ _ _ _ _ (by omega)⟩
theorem rdL_no {w w' : World} {r : Lc × Bool} (b : Nat) (v0 v1 v2 v3 : Value) (hb : Below w.heap.size w w') (hbl : b = w.heap.size + 1) (hs : r = (zeroL, false)) :
    RdL w r (.returned (.tuple #[lcV zeroL none 0, .bool false])) (put4 w' b v0 v1 v2 v3) := by
  subst hs hbl
  exact ⟨none, 0, rfl, Rd.nil_, Nat.le_refl _, put4_below hb _ _ _ _ _ (by omega)⟩
/-- texts that can be read, their row away from what is changed -/
theorem rd_grow {w w' : World} {B : Nat} {A : Option Addr} {xs : List Value} {row : Option Nat} (h : Rd w B A xs) (hg : w.grownBy w' row) (hB : B ≤ w.heap.size) (hr : ∀ b o, A = some ⟨b, o, none⟩ → row ≠ some b) : Rd w' B A xs := fun hne => by
  obtain ⟨b, o, e, hb, hc⟩ := h hne
  exact ⟨b, o, e, hb, fun j u hu => (World.cell?_of_block (hg.block b (by omega) (fun e2 => hr b o e e2.symm))).trans (hc j u hu)⟩
/-- what the call lays out beside its own location -/
def resO (l : Lc) (s : Tx) : Lc := if s = [] then ⟨l.sch, l.host, l.path, []⟩ else resOut l s
theorem resolve_o {l : Lc} {s : Tx} (h : locOk l = true) (hr : (readLoc s).2 = false) : resolve l s = if locOk (resO l s) then (resO l s, true) else (zeroL, false) := by
  by_cases hs : s = []
  · subst hs
    rw [resolve_nil h, show resO l [] = ⟨l.sch, l.host, l.path, []⟩ from rfl, if_pos (noquery_ok h)]
  · rw [resolve_out h hr hs, show resO l s = resOut l s by unfold resO; rw [if_neg hs]]
theorem lbx_row {w : World} {B r b : Nat} {l : Lc} {A : Option Addr} {c : Nat} (h : LBx w B r b l A c) (v : Value) (hv : v = .slice (some ⟨w.heap.size, 0, none⟩) 0 0) :
    LBx ((w.alloc (.cells #[] 9)).setCell ⟨b, 2, none⟩ v) B r b { l with path := [] } (some ⟨w.heap.size, 0, none⟩) 0 := by
  subst hv
  have hbl := lt_of_block h.box
  have hB := h.bge
  have hk := h.keep ((Below.refl w.heap.size w).alloc (Nat.le_refl _) (.cells #[] 9))
  have ho : OwnS (w.alloc (.cells #[] 9)) B (some ⟨w.heap.size, 0, none⟩) 0 [] := ⟨rfl, .inr ⟨w.heap.size, 0, #[], rfl, by omega, heap_alloc_new w _, Nat.le_refl _, Nat.zero_le _, rfl, rfl⟩⟩
  have hne : Value.ownBlock (.slice (some ⟨w.heap.size, 0, none⟩) 0 0) ≠ some b := by intro e; injection e with e; simp only at e; omega
  refine ⟨?_, own_far ho hne, hne, (Below.heap_setCell _ _ _ _ (by show r ≠ b; have := h.rlt; omega)).trans hk.res, h.rlt, h.bge⟩
  rw [cells_set hk.box]
  simp [lcCells]
theorem rd_tail {w : World} {B g o : Nat} {x : Value} {xs : List Value} (h : Rd w B (some ⟨g, o, none⟩) (x :: xs)) : Rd w B (some ⟨g, o + 1, none⟩) xs := fun _ => by
  obtain ⟨b', o', e, hb, hc⟩ := h (by simp)
  injection e with e
  injection e with e1 e2
  subst e1 e2
  refine ⟨g, o + 1, rfl, hb, fun j u hu => ?_⟩
  have := hc (j + 1) u (by simpa using hu)
  rw [show o + 1 + j = o + (j + 1) by omega]
  exact this
set_option maxRecDepth 100000 in
set_option maxHeartbeats 4000000 in
theorem spec_ResolveLocation (l : Lc) (s : Tx) (A : Option Addr) (c : Nat) (w : World) (hr : Rd w w.heap.size A (scells l.path)) (hf : FitL l) (hs : s.length ≤ 10000) (hpl : l.path.length ≤ 10000) :
    Calls Tryd.prog 6 #[lcV l A c, .string ⟨s.toArray⟩] w (RdL w (resolve l s)) := by
  obtain ⟨hB0, hX0, hZ0⟩ := two_boxes w (lcCells l A c) #[.string ⟨#[]⟩, .string ⟨#[]⟩, .slice none 0 0, .string ⟨#[]⟩] 25 25
  have hs0 : ((w.alloc (.cells (lcCells l A c) 25)).alloc (.cells #[.string ⟨#[]⟩, .string ⟨#[]⟩, .slice none 0 0, .string ⟨#[]⟩] 25)).heap.size = w.heap.size + 2 := by simp
  have HB0 := Lib.hid hB0
  have HX0 := Lib.hid hX0
  have HZ0 := Lib.hid hZ0
  have HS0 := Lib.hid hs0
  have HR0 := Lib.hid (hr.below hB0 |>.more hB0.size)
  have HF := Lib.hid hf
  have HBAD := Lib.hid (fun h => resolve_bad (l := l) (s := s) h)
  have HWH := Lib.hid (fun h1 h2 => resolve_whole (l := l) (s := s) h1 h2)
  have HOUT := Lib.hid (fun h1 h2 => resolve_o (l := l) (s := s) h1 h2)
  have HWD := Lib.hid (fun h => readLoc_words (s := s) h)
  clear hB0 hX0 hZ0 hs0 hr hf
  go_enter Tryd.func6, Tryd.ntmps6
  go_upto_region 1 with fail
  generalize (w.alloc (.cells (lcCells l A c) 25)).alloc (.cells #[.string ⟨#[]⟩, .string ⟨#[]⟩, .slice none 0 0, .string ⟨#[]⟩] 25) = w0 at *
  obtain ⟨⟨f0, f1, f2, f3⟩, -⟩ := box_four HX0.out
  go_wp2_with fail
  refine (spec_l1OwnLocation l A c _ HR0.out (by omega)).mono ?_
  rintro e w1 ⟨A1, c1, rfl, ho, hb⟩
  have hz0 := HS0.out
  have hX1 := bx_keep HX0.out hb
  have hZ1 := bx_keep HZ0.out hb
  obtain ⟨⟨g0, g1, g2, g3⟩, g4, g5, g6, g7⟩ := box_four hX1
  have HX2 := Lib.hid (put4_box (l := l) (A := A1) (c := c1) hX1)
  have HZ2 := Lib.hid ((put4_heap w1 w.heap.size (w.heap.size + 1) (sv l.sch) (sv l.host) (.slice A1 l.path.length c1) (sv l.qu) (by omega)).trans hZ1)
  have HO2 := Lib.hid (own_base (put4_own hX1 ho (sv l.sch) (sv l.host) (.slice A1 l.path.length c1) (sv l.qu)) (b := w.heap.size + 2) (by omega))
  have HB2 := Lib.hid (put4_below (HB0.out.trans (hb.mono HB0.out.size)) w.heap.size (sv l.sch) (sv l.host) (.slice A1 l.path.length c1) (sv l.qu) (Nat.le_refl _))
  clear f0 f1 f2 f3 HX0 HR0 HZ0 HB0 hX1 hZ1 ho hb
  go_upto_region 2 with fail
  have hz2 : w.heap.size + 2 ≤ (put4 w1 w.heap.size (sv l.sch) (sv l.host) (.slice A1 l.path.length c1) (sv l.qu)).heap.size := by
    have := HB2.out.size
    rw [put4_size]
    have := lt_of_block HZ2.out
    rw [put4_size] at this
    omega
  unfold put4 at HX2 HZ2 HO2 HB2 hz2
  generalize (((w1.setCell ⟨w.heap.size, 0, none⟩ (sv l.sch)).setCell ⟨w.heap.size, 1, none⟩ (sv l.host)).setCell ⟨w.heap.size, 2, none⟩ (.slice A1 l.path.length c1)).setCell ⟨w.heap.size, 3, none⟩ (sv l.qu) = w2 at *
  clear g0 g1 g2 g3 g4 g5 g6 g7 hz0 HS0
  go_wp2_with fail
  refine (spec_ReadLocation s (by omega) _).mono ?_
  generalize readLoc s = rl at *
  obtain ⟨l7, ok7⟩ := rl
  rintro e w3 ⟨A7, c7, rfl, hr7, hc7, hb⟩
  have HA7 := Lib.hid ((Below.refl w3.heap.size w3).alloc (Nat.le_refl _) (.cells (lcCells l7 A7 c7) 25))
  have HX7 := Lib.hid (heap_alloc_new w3 (.cells (lcCells l7 A7 c7) 25))
  have HB23 := Lib.hid (hb.trans (HA7.out.mono hb.size))
  have HB3 := Lib.hid (HB2.out.trans (HB23.out.mono HB2.out.size))
  have HX3 := Lib.hid (bx_keep HX2.out HB23.out)
  have HZ3 := Lib.hid (bx_keep HZ2.out HB23.out)
  have HO3 := Lib.hid (ownS_keep HO2.out HB23.out)
  have HR7 := Lib.hid ((hr7.below HA7.out).more HA7.out.size)
  have hz3 : w.heap.size + 2 ≤ (w3.alloc (.cells (lcCells l7 A7 c7) 25)).heap.size := by have := HB23.out.size; omega
  clear hr7 hb HX2 HZ2 HO2 HB2 HA7 HB23
  dsimp only at hc7
  go_upto_region 3 with fail
  generalize w3.alloc (.cells (lcCells l7 A7 c7) 25) = w4 at *
  have HV := Lib.hid (fun (w : World) (A : Option Addr) (c : Nat) (hr : Rd w w.heap.size A (scells l.path)) => spec_LocationValid l A c w hr HF.out)
  obtain ⟨⟨f0, f1, f2, f3⟩, f4, f5, f6, f7⟩ := box_four HX7.out
  obtain ⟨⟨g0, g1, g2, g3⟩, g4, g5, g6, g7⟩ := box_four HX3.out
  generalize hlv : locOk l = lv at *
  go_cut [24] (fun t wx => t = .bool (ok7 && lv) ∧ Below w4.heap.size w4 wx)
  case first =>
    cases ok7 with
    | false =>
      go_wp2
      go_meet
      case rel => exact ⟨rfl, Below.refl _ _⟩
    | true =>
      go_wp2_with fail
      refine (HV.out _ A1 c1 (ownS_rd HO3.out)).mono ?_
      rintro e w5 ⟨rfl, hb⟩
      go_wp2
      go_meet
      case rel => exact ⟨by simp, hb⟩
  case rest =>
    obtain ⟨rfl, hb⟩ := hcut
    have HB5 := Lib.hid (HB3.out.trans (hb.mono HB3.out.size))
    have HX5 := Lib.hid (bx_keep HX3.out hb)
    have HZ5 := Lib.hid (bx_keep HZ3.out hb)
    have HO5 := Lib.hid (ownS_keep HO3.out hb)
    have HR5 := Lib.hid ((HR7.out.below hb).more hb.size)
    have H75 := Lib.hid (bx_keep HX7.out hb)
    have hz5 := Nat.le_trans hz3 hb.size
    clear hb f0 f1 f2 f3 f4 f5 f6 f7 g0 g1 g2 g3 g4 g5 g6 g7 HB3 HX3 HZ3 HO3 HR7 HX7
    rename World => wv
    cases h5 : (ok7 && lv) with
    | true =>
      rw [Bool.and_eq_true] at h5
      obtain ⟨rfl, rfl⟩ := h5
      obtain ⟨⟨f0, f1, f2, f3⟩, f4, f5, f6, f7⟩ := box_four H75.out
      obtain ⟨⟨z0, z1, z2, z3⟩, z4, z5, z6, z7⟩ := box_four HZ5.out
      go_wp2
      refine bodyPost_ret (v := .tuple #[lcV l7 A7 c7, .bool true]) (by simp [results, Tryd.results6, go_sem, *]) rfl ?_
      exact rdL_end (l := l7) (w.heap.size + 1) (sv l7.sch) (sv l7.host) (.slice A7 l7.path.length c7) (sv l7.qu) (rd_put4 HR5.out (HWD.out trivial) HZ5.out _ _ _ _) hc7 HB5.out rfl (HWH.out trivial trivial)
    | false =>
      clear HR5 H75 HWD
      have HRES : Hid (resolve l s = if lv && locOk (resO l s) then (resO l s, true) else (zeroL, false)) := by
        show _ = _
        cases lv
        · exact HBAD.out (by first | trivial | rfl)
        · rw [Bool.and_true] at h5
          subst h5
          rw [Bool.true_and]
          exact HOUT.out (by first | trivial | rfl) (by first | trivial | rfl)
      clear h5 HWH HOUT HBAD hlv hc7
      obtain ⟨⟨g0, g1, g2, g3⟩, g4, g5, g6, g7⟩ := box_four HX5.out
      go_upto_region 5 with fail
      go_cut [8] (fun p wx => ∃ (b : Nat) (A6 : Option Addr) (c6 : Nat), p = .pointer (some ⟨b, 0, none⟩) ∧ LBx wx wv.heap.size (w.heap.size + 1) b ⟨l.sch, l.host, l.path, []⟩ A6 c6 ∧ Below wv.heap.size wv wx ∧ b < wx.heap.size)
      case first =>
        have HG0 := Lib.hid g0
        have HG1 := Lib.hid g1
        have HG2 := Lib.hid g2
        have hxv : w.heap.size < wv.heap.size := by omega
        have HRD := Lib.hid (fun wx (hb : Below wv.heap.size wv wx) => (ownS_rd HO5.out).below hb |>.more hb.size)
        have hpl2 : l.path.length ≤ 4294967296 := by omega
        go_wp2_with fail
        refine wp_region_typed 10 (by kernel_rfl) (by kernel_rfl) (fun _ w => Below (World.heap wv).size wv w) KB (fun i => ([bIs (.pointer (some ⟨w.heap.size, 0, none⟩)), bIs (sv l.sch), bIs (.pointer (some ⟨w.heap.size, 1, none⟩)), bIs (sv l.host), bRow (World.heap wv).size 0 #[] 9, bIs (.pointer (some ⟨w.heap.size, 2, none⟩)), bIs (.slice A1 l.path.length c1), bOwnT (World.heap wv).size l.path, bLoc (World.heap wv).size ⟨l.sch, l.host, l.path, []⟩, bBox (World.heap wv).size #[.string ⟨#[]⟩, .string ⟨#[]⟩, .slice none 0 0, .string ⟨#[]⟩] 25] : List TyB).getD i bAny) ?hWbB1 ?hkeepB1 ?hstepB1 ?hfinbB1
        case hkeepB1 =>
          refine all_lt_succ (all_lt_succ (all_lt_succ (all_lt_succ (all_lt_succ (all_lt_succ (all_lt_succ (all_lt_succ (all_lt_succ (all_lt_succ all_lt_zero ?_) ?_) ?_) ?_) ?_) ?_) ?_) ?_) ?_) ?_
          · exact keeps_bIs
          · exact keeps_bIs
          · exact keeps_bIs
          · exact keeps_bIs
          · exact keeps_bRow
          · exact keeps_bIs
          · exact keeps_bIs
          · exact keeps_bOwnT
          · exact keeps_bLoc
          · exact keeps_bBox
        case hstepB1 =>
          refine all_lt_succ (all_lt_succ (all_lt_succ (all_lt_succ (all_lt_succ (all_lt_succ (all_lt_succ (all_lt_succ (all_lt_succ (all_lt_succ all_lt_zero ?_) ?_) ?_) ?_) ?_) ?_) ?_) ?_) ?_) ?_
          · (intro o ho m' a w1 hm' hW hb hd K Q hK; obtain rfl := Option.some.inj ho; have e0 : a.tmps[2]?.getD undef = .pointer (some ⟨w.heap.size, 0, none⟩) := (by rw [hb 2 (by decide +kernel)]; simp); go_simp; exact hK _ _ hW (kb_refl _) rfl)
          · (intro o ho m' a w1 hm' hW hb hd K Q hK; obtain rfl := Option.some.inj ho; have e0 := slotB (hd 0 (by kernel_rfl) 26 rfl); have hcw := (hW.cell (p := ⟨w.heap.size, 0, none⟩) hxv).trans HG0.out; go_simp; exact hK _ _ hW (kb_refl _) rfl)
          · (intro o ho m' a w1 hm' hW hb hd K Q hK; obtain rfl := Option.some.inj ho; have e0 : a.tmps[2]?.getD undef = .pointer (some ⟨w.heap.size, 0, none⟩) := (by rw [hb 2 (by decide +kernel)]; simp); go_simp; exact hK _ _ hW (kb_refl _) rfl)
          · (intro o ho m' a w1 hm' hW hb hd K Q hK; obtain rfl := Option.some.inj ho; have e0 := slotB (hd 2 (by kernel_rfl) 28 rfl); have hcw := (hW.cell (p := ⟨w.heap.size, 1, none⟩) hxv).trans HG1.out; go_simp; exact hK _ _ hW (kb_refl _) rfl)
          · (intro o ho m' a w1 hm' hW hb hd K Q hK; obtain rfl := Option.some.inj ho; go_simp; exact hK _ _ (hW.alloc hW.size _) ((Below.refl _ _).alloc (Nat.le_refl _) _) ⟨_, rfl, hW.size, heap_alloc_new w1 _⟩)
          · (intro o ho m' a w1 hm' hW hb hd K Q hK; obtain rfl := Option.some.inj ho; have e0 : a.tmps[2]?.getD undef = .pointer (some ⟨w.heap.size, 0, none⟩) := (by rw [hb 2 (by decide +kernel)]; simp); go_simp; exact hK _ _ hW (kb_refl _) rfl)
          · (intro o ho m' a w1 hm' hW hb hd K Q hK; obtain rfl := Option.some.inj ho; have e0 := slotB (hd 5 (by kernel_rfl) 31 rfl); have hcw := (hW.cell (p := ⟨w.heap.size, 2, none⟩) hxv).trans HG2.out; go_simp; exact hK _ _ hW (kb_refl _) rfl)
          · (intro o ho m' a w1 hm' hW hb hd K Q hK; obtain rfl := Option.some.inj ho; obtain ⟨g, e0, hbg, hgg⟩ := (hd 4 (by kernel_rfl) 30 rfl); have e0 := slotB e0; have e1 := slotB (hd 6 (by kernel_rfl) 32 rfl); refine wp_app_fresh _ _ rfl _ g (by first | exact e0 | (simp [go_sem]; exact e0)) hbg hgg _ _ _ (by first | exact e1 | (simp [go_sem]; exact e1)) (HRD.out _ hW) hpl2 hW.size ?_; intro A2 c2 w2 ho2 hb2; exact hK _ _ (hW.trans (hb2.mono hW.size)) hb2 ⟨A2, c2, rfl, ho2⟩)
          · (intro o ho m' a w1 hm' hW hb hd K Q hK; obtain rfl := Option.some.inj ho; have e0 := slotB (hd 1 (by kernel_rfl) 27 rfl); have e1 := slotB (hd 3 (by kernel_rfl) 29 rfl); obtain ⟨A2, c2, e2, ho2⟩ := (hd 7 (by kernel_rfl) 33 rfl); have e2 := slotB e2; go_simp; exact hK _ _ hW (kb_refl _) ⟨A2, c2, rfl, ho2⟩)
          · (intro o ho m' a w1 hm' hW hb hd K Q hK; obtain rfl := Option.some.inj ho; go_simp; exact hK _ _ (hW.alloc hW.size _) ((Below.refl _ _).alloc (Nat.le_refl _) _) ⟨_, rfl, hW.size, heap_alloc_new w1 _⟩)
        case hWbB1 => exact (Below.refl _ _).drew
        case hfinbB1 =>
          intro vs wx hW hF
          simp only [putAll, hdst, List.getElem?_cons_succ, List.getElem?_cons_zero, Option.bind, List.drop_succ_cons, List.drop_zero, Act.put]
          obtain ⟨A6, c6, h8, ho8⟩ := hF 8 (by omega)
          obtain ⟨b, h9, hBb, hbb⟩ := hF 9 (by omega)
          rw [h8, h9]
          have HZx := Lib.hid (bx_keep HZ5.out hW)
          have HL := Lib.hid (lbx_new (l := ⟨l.sch, l.host, l.path, []⟩) hbb ho8 HZx.out (by omega) hBb _ rfl)
          have HBx := Lib.hid (put4_below hW b (sv l.sch) (sv l.host) (.slice A6 l.path.length c6) (sv []) hBb)
          have hbl := lt_of_block hbb
          have hbl2 : b < (put4 wx b (sv l.sch) (sv l.host) (.slice A6 l.path.length c6) (sv [])).heap.size := by simpa [World.setCell] using hbl
          obtain ⟨⟨f0, f1, f2, f3⟩, f4, f5, f6, f7⟩ := box_four hbb
          clear hF h8 h9 hW ho8 hbb
          go_simp
          go_wp2
          go_meet
          case rel => exact ⟨b, A6, c6, rfl, HL.out, HBx.out, hbl2⟩
      case rest =>
        obtain ⟨b, A6, c6, rfl, hl6, hb6, hbl⟩ := hcut
        have HL6 := Lib.hid hl6
        have HB6 := Lib.hid hb6
        clear hl6 hb6 g0 g1 g2 g3 g4 g5 g6 g7
        have HRO : Hid (∀ x, x = resOut l s → x = ⟨l.sch, l.host, resPath l (s.take (at_ 63 s)), s.drop (at_ 63 s + 1)⟩) := fun _ e => e
        have HROE := Lib.hid (fun (h : s = []) => show resO l s = ⟨l.sch, l.host, l.path, []⟩ by unfold resO; rw [if_pos h])
        have HRON := Lib.hid (fun (h : s ≠ []) => show resO l s = ⟨l.sch, l.host, resPath l (s.take (at_ 63 s)), s.drop (at_ 63 s + 1)⟩ by unfold resO; rw [if_neg h]; rfl)
        clear HRO
        generalize resO l s = O at *
        go_upto_if 36 with fail
        go_cut [] (fun wx => ∃ (A9 : Option Addr) (c9 : Nat), LBx wx wv.heap.size (w.heap.size + 1) b O A9 c9 ∧ FitL O ∧ Below wv.heap.size wv wx)
        case first =>
          by_cases hse : s = []
          · have hO := HROE.out hse
            subst hO
            subst hse
            go_wp2
            go_meet
            case rel => exact ⟨A6, c6, HL6.out, ⟨HF.out.1, HF.out.2.1, by simp, HF.out.2.2.2.1, HF.out.2.2.2.2⟩, HB6.out⟩
          · have hO := HRON.out hse
            subst hO
            have hsi : (s == []) = false := by simpa using hse
            have hsi2 : List.isEmpty s = false := by simpa using hse
            have hsi3 : (!List.isEmpty s) = true := by rw [hsi2]; rfl
            have HQ := Lib.hid (fun w => spec_l32Query s (by omega) w)
            have HW := Lib.hid (fun w => spec_l32Split (s.take (at_ 63 s)) (by simp; omega) w)
            have hpb : (s.take (at_ 63 s)).length ≤ s.length := by rw [List.length_take]; omega
            have hql : (s.drop (at_ 63 s + 1)).length ≤ s.length := by simp
            clear HROE HRON HRES
            generalize s.take (at_ 63 s) = pb at *
            generalize s.drop (at_ 63 s + 1) = q at *
            rw [hsi3]
            rename World => w6
            go_wp2_with fail
            refine (HQ.out _).mono ?_
            rintro e w7 ⟨rfl, n7, rfl⟩
            have HL7 : Hid (LBx (w6.drewN n7) wv.heap.size (w.heap.size + 1) b ⟨l.sch, l.host, l.path, []⟩ A6 c6) := HL6.out.keep (below_drewN (Below.refl _ _) n7)
            have HB7 := Lib.hid (below_drewN HB6.out n7)
            clear HL6 HB6 HQ hbl
            generalize w6.drewN n7 = w7 at *
            obtain ⟨⟨f0, f1, f2, f3⟩, f4, f5, f6, f7⟩ := box_four HL7.out.box
            have hbv : wv.heap.size ≤ b := HL7.out.bge
            go_upto_region 9 with fail
            have HL8 := Lib.hid (HL7.out.qu (sv q) rfl)
            have HB8 := Lib.hid (Below.setCell HB7.out (p := ⟨b, 3, none⟩) (by show wv.heap.size ≤ b; omega) (sv q))
            clear f0 f1 f2 f3 f4 f5 f6 f7 HL7 HB7
            generalize w7.setCell ⟨b, 3, none⟩ (sv q) = w8 at *
            have hws : (Lib.split pb [47]).length ≤ pb.length + 1 := split_len _ (by simp)
            have HWM : Hid (∀ x ∈ Lib.split pb [47], x.length ≤ 1048576) := fun x hx => Nat.le_trans (split_mem _ (by simp) x hx) (by omega)
            have HSL : Hid (∀ t, pb = 47 :: t → Lib.split pb [47] = [] :: Lib.split t [47]) := fun t e => by rw [e]; exact split_slash t
            have HRP : Hid (resPath l pb = if pb = [] then l.path else if pb.head? = some 47 then resWords [] (Lib.split (pb.drop 1) [47]) else resWords l.path.dropLast (Lib.split pb [47])) := rfl
            generalize hR : resPath l pb = R at *
            clear hR
            go_wp2_with fail
            refine (HW.out _).mono ?_
            generalize Lib.split pb [47] = ws at *
            rintro e w9 ⟨A8, c8, rfl, ho8, hb⟩
            have HL9 := Lib.hid (HL8.out.keep hb)
            have HB9 := Lib.hid (HB8.out.trans (hb.mono HB8.out.size))
            have HO8 := Lib.hid ho8
            have hbl : b < w8.heap.size := lt_of_block HL8.out.box
            have HN8 : Hid (∀ g o, A8 = some ⟨g, o, none⟩ → g ≠ b ∧ Value.ownBlock (.slice A6 l.path.length c6) ≠ some g) := fun g o e => by
              have h1 := (ho8.lt g (by rw [e]; rfl)).1
              exact ⟨by omega, fun h2 => by have := (HL8.out.own.lt g h2).2; omega⟩
            clear hb ho8 HL8 HB8 HW
            go_upto_region 10 with fail
            obtain ⟨hd, hhd⟩ : ∃ hd : Bool, hd = (pb.head? == some 47) := ⟨_, rfl⟩
            go_cut [52] (fun t wx => t = .bool hd ∧ wx = w9)
            case first =>
              cases pb with
              | nil =>
                go_wp2
                go_meet
                case rel => exact ⟨by rw [hhd]; rfl, rfl⟩
              | cons c0 t0 =>
                cases h47 : (c0 == 47)
                · have b0 : ((c0.toNat : Int) == 47) = false := byte_neL h47
                  go_wp2
                  go_meet
                  case rel => exact ⟨by rw [hhd]; simpa using h47, rfl⟩
                · have b0 : ((c0.toNat : Int) == 47) = true := byte_eqL h47
                  go_wp2
                  go_meet
                  case rel => exact ⟨by rw [hhd]; simpa using h47, rfl⟩
            case rest =>
              obtain ⟨rfl, rfl⟩ := hcut
              go_upto_if 52 with fail
              go_cut [11] (fun wd wx => ∃ (vs : List Tx) (A9 : Option Addr) (c9 : Nat) (p0 : List Tx) (A7 : Option Addr) (c7 : Nat), wd = .slice A9 vs.length c9 ∧ Rd wx wx.heap.size A9 (scells vs) ∧ vs.length ≤ pb.length + 1 ∧ (∀ x ∈ vs, x.length ≤ 1048576) ∧ (pb = [] → p0 = R) ∧ (pb ≠ [] → resWords p0 vs = R) ∧ LBx wx wv.heap.size (w.heap.size + 1) b ⟨l.sch, l.host, p0, q⟩ A7 c7 ∧ p0.length ≤ 10000 ∧ (∀ x ∈ p0, x.length ≤ 1048576) ∧ (∀ g o, A9 = some ⟨g, o, none⟩ → g ≠ b ∧ Value.ownBlock (.slice A7 p0.length c7) ≠ some g) ∧ Below wv.heap.size wv wx)
              case first =>
                obtain ⟨⟨f0, f1, f2, f3⟩, f4, f5, f6, f7⟩ := box_four HL9.out.box
                by_cases hp0 : pb = []
                · have hRl : R = l.path := by rw [HRP.out, if_pos hp0]
                  subst hp0
                  obtain rfl : hd = false := hhd
                  by_cases hpn : l.path = []
                  · have hl0 : (0 < l.path.length) = False := by rw [hpn]; simp
                    clear hpn
                    go_wp2
                    go_meet
                    case rel => exact ⟨ws, A8, c8, l.path, A6, c6, rfl, ownS_rd HO8.out, hws, HWM.out, (fun _ => hRl.symm), (fun e => absurd rfl e), HL9.out, hpl, HF.out.2.2.2.2, HN8.out, HB9.out⟩
                  · have hl0 : (0 < l.path.length) = True := eq_true (List.length_pos_iff.2 hpn)
                    clear hpn
                    go_wp2
                    go_meet
                    case rel => exact ⟨ws, A8, c8, l.path, A6, c6, rfl, ownS_rd HO8.out, hws, HWM.out, (fun _ => hRl.symm), (fun e => absurd rfl e), HL9.out, hpl, HF.out.2.2.2.2, HN8.out, HB9.out⟩
                · have hpe1 : List.isEmpty pb = false := by simpa using hp0
                  have hpe2 : (!List.isEmpty pb) = true := by rw [hpe1]; rfl
                  cases hd with
                  | false =>
                    have hh : ¬ pb.head? = some 47 := fun e => by rw [e] at hhd; exact absurd hhd (by decide)
                    have hw : resWords l.path.dropLast ws = R := by rw [HRP.out, if_neg hp0, if_neg hh]
                    clear hh hhd
                    by_cases hpn : l.path = []
                    · have hl0 : (0 < l.path.length) = False := by rw [hpn]; simp
                      have hw2 : resWords l.path ws = R := by rw [← hw, hpn]; rfl
                      clear hpn
                      go_wp2
                      go_meet
                      case rel => exact ⟨ws, A8, c8, l.path, A6, c6, rfl, ownS_rd HO8.out, hws, HWM.out, (fun e => absurd e hp0), (fun _ => hw2), HL9.out, hpl, HF.out.2.2.2.2, HN8.out, HB9.out⟩
                    · have hl0 : (0 < l.path.length) = True := eq_true (List.length_pos_iff.2 hpn)
                      have HLP := Lib.hid (HL9.out.pop hpn (.slice A6 (l.path.length - 1) c6) rfl)
                      have HBP := Lib.hid (Below.setCell HB9.out (p := ⟨b, 2, none⟩) (by show wv.heap.size ≤ b; omega) (.slice A6 (l.path.length - 1) c6))
                      obtain ⟨ga, rfl, _, _⟩ := own_some HL9.out.own (List.length_pos_iff.2 hpn)
                      have hcap := ownS_cap HL9.out.own
                      have hpos := List.length_pos_iff.2 hpn
                      have hi1 : (0 : Int) ≤ (l.path.length : Int) - 1 := by omega
                      have hi2 : (l.path.length : Int) - 1 ≤ (c6 : Int) := by have : l.path.length ≤ c6 := hcap; omega
                      have hi3 : ((l.path.length : Int) - 1).toNat = l.path.length - 1 := by omega
                      have HRP2 := Lib.hid (rd_setc (o := 2) (u := .slice (some ⟨ga, 0, none⟩) (l.path.length - 1) c6) (ownS_rd HO8.out) (fun g o e => (HN8.out g o e).1) |>.more (Nat.le_of_eq (by simp [World.setCell] : _ = (wc.setCell ⟨b, 2, none⟩ (.slice (some ⟨ga, 0, none⟩) (l.path.length - 1) c6)).heap.size)))
                      clear hpn
                      go_wp2
                      go_meet
                      case rel => exact ⟨ws, A8, c8, l.path.dropLast, some ⟨ga, 0, none⟩, c6, rfl, HRP2.out, hws, HWM.out, (fun e => absurd e hp0), (fun _ => hw), HLP.out, by simp; omega, (fun x hx => HF.out.2.2.2.2 x (List.dropLast_subset _ hx)), (fun g o e => ⟨(HN8.out g o e).1, fun h2 => (HN8.out g o e).2 (by rw [← h2]; rfl)⟩), HBP.out⟩
                  | true =>
                    obtain ⟨t0, rfl⟩ : ∃ t0, pb = 47 :: t0 := by
                      cases pb with
                      | nil => exact absurd rfl hp0
                      | cons c0 t0 =>
                        have : c0 = 47 := by simpa using hhd
                        exact ⟨t0, by rw [this]⟩
                    have hsp := HSL.out t0 rfl
                    have hw : resWords [] (Lib.split t0 [47]) = R := by rw [HRP.out]; simp
                    obtain ⟨g8, rfl, _, hg8⟩ := own_some HO8.out (by rw [hsp]; simp)
                    have hcap := ownS_cap HO8.out
                    generalize Lib.split t0 [47] = vs at *
                    subst hsp
                    have HLE := Lib.hid (lbx_row HL9.out (.slice (some ⟨wc.heap.size, 0, none⟩) 0 0) rfl)
                    have HA1 := Lib.hid ((Below.refl wc.heap.size wc).alloc (Nat.le_refl _) (.cells #[] 9))
                    have HBE := Lib.hid (Below.setCell (HB9.out.alloc HB9.out.size (.cells #[] 9)) (p := ⟨b, 2, none⟩) (by show wv.heap.size ≤ b; omega) (.slice (some ⟨wc.heap.size, 0, none⟩) 0 0))
                    have hzz : ((wc.alloc (.cells #[] 9)).setCell ⟨b, 2, none⟩ (.slice (some ⟨wc.heap.size, 0, none⟩) 0 0)).heap.size = wc.heap.size + 1 := by simp [World.setCell]
                    have HRT := Lib.hid (rd_tail (rd_setc (k := b) (o := 2) (u := .slice (some ⟨wc.heap.size, 0, none⟩) 0 0) ((ownS_rd HO8.out).below HA1.out) (fun g o e => (HN8.out g o e).1)) |>.more (B' := ((wc.alloc (.cells #[] 9)).setCell ⟨b, 2, none⟩ (.slice (some ⟨wc.heap.size, 0, none⟩) 0 0)).heap.size) (by rw [hzz]; omega))
                    have hbw : b < wc.heap.size := lt_of_block HL9.out.box
                    have hcap1 : vs.length + 1 ≤ c8 := by simpa using hcap
                    have HWS := Lib.hid hws
                    clear hzz hws hcap
                    obtain ⟨⟨q0, q1, q2, q3⟩, q4, q5, q6, q7⟩ := box_four (bx_keep HL9.out.box HA1.out)
                    clear hhd
                    rw [World.setCell_alloc_past _ _ _ _ hbw] at HLE HBE HRT
                    have HVB : Hid (vs.length ≤ (47 :: t0).length + 1) := by show _ ≤ _; have := HWS.out; simp at this ⊢; omega
                    have HN9 := Lib.hid ((HN8.out g8 0 rfl).1)
                    by_cases hc1 : c8 = 1
                    · obtain rfl : vs = [] := List.eq_nil_of_length_eq_zero (by omega)
                      subst hc1
                      go_wp2
                      go_meet
                      case rel => exact ⟨[], some ⟨g8, 0, none⟩, 0, [], some ⟨wc.heap.size, 0, none⟩, 0, rfl, Rd.nil_, HVB.out, (fun x hx => by cases hx), (fun e => by cases e), (fun _ => hw), HLE.out, by simp, (fun x hx => by cases hx), (fun g o e => by injection e with e; injection e with e1 e2; subst e1; exact ⟨HN9.out, fun h2 => by injection h2 with h2; have h3 : wc.heap.size = g8 := h2; omega⟩), HBE.out⟩
                    · go_wp2
                      go_meet
                      case rel => exact ⟨vs, some ⟨g8, 1, none⟩, c8 - 1, [], some ⟨wc.heap.size, 0, none⟩, 0, rfl, HRT.out, HVB.out, (fun x hx => HWM.out x (by simp [hx])), (fun e => by cases e), (fun _ => hw), HLE.out, by simp, (fun x hx => by cases hx), (fun g o e => by injection e with e; injection e with e1 e2; subst e1; exact ⟨HN9.out, fun h2 => by injection h2 with h2; have h3 : wc.heap.size = g8 := h2; omega⟩), HBE.out⟩
              case rest =>
                obtain ⟨us, A9, c9, p0, A7, c7, rfl, hrd, hvl, hvm, hpe, hpw, hl, hpn0, hpx0, hnn, hb⟩ := hcut
                have HL0 := Lib.hid hl
                have HRD0 := Lib.hid hrd
                have HVM := Lib.hid hvm
                have HPX0 := Lib.hid hpx0
                have HNN0 := Lib.hid hnn
                have HBB := Lib.hid hb
                have HPE := Lib.hid hpe
                have HPW := Lib.hid hpw
                clear hl hrd hvm hpx0 hnn hb hpe hpw HRP HSL HO8 HN8 HWM HL9 HB9 hhd
                go_wp2
                go_loopw [12] (fun i wr => ∃ (k : Nat) (p : List Tx) (A2 : Option Addr) (c2 : Nat), k ≤ us.length ∧ i = .int .i64 k ∧ (pb = [] → p = R) ∧ (pb ≠ [] → resWords p (us.drop k) = R) ∧ LBx wr wv.heap.size (w.heap.size + 1) b ⟨l.sch, l.host, p, q⟩ A2 c2 ∧ p.length ≤ 10000 + k ∧ (∀ x ∈ p, x.length ≤ 1048576) ∧ Rd wr wr.heap.size A9 (scells us) ∧ (∀ g o, A9 = some ⟨g, o, none⟩ → g ≠ b ∧ Value.ownBlock (.slice A2 p.length c2) ≠ some g) ∧ Below wv.heap.size wv wr) (fun i _ => us.length - (intOf i).toNat)
                case atStart => exact ⟨0, p0, A7, c7, Nat.zero_le _, rfl, HPE.out, (fun h => by simpa using HPW.out h), HL0.out, by omega, HPX0.out, HRD0.out, HNN0.out, HBB.out⟩
                case round =>
                  obtain ⟨k, p, A2, c2, hk, rfl, hpe, hrw, hl, hpn, hpx, hrd, hnn, hb⟩ := hrel
                  have HL := Lib.hid hl
                  have HPX := Lib.hid hpx
                  have HRD := Lib.hid hrd
                  have HNN := Lib.hid hnn
                  have HB := Lib.hid hb
                  clear hl hpx hrd hnn hb HL0 HPX0 HRD0 HNN0 HBB HPE HPW
                  by_cases hp0 : pb = []
                  · have hpR := hpe hp0
                    subst hpR
                    clear hrw hpe
                    subst hp0
                    by_cases hlt : k < us.length
                    ·
                      go_wp2
                      go_meet
                      case rel => exact ⟨A2, c2, HL.out, ⟨HF.out.1, HF.out.2.1, by show q.length ≤ _; omega, by show p.length ≤ _; omega, HPX.out⟩, HB.out⟩
                    ·
                      go_wp2
                      go_meet
                      case rel => exact ⟨A2, c2, HL.out, ⟨HF.out.1, HF.out.2.1, by show q.length ≤ _; omega, by show p.length ≤ _; omega, HPX.out⟩, HB.out⟩
                  · have hpe1 : List.isEmpty pb = false := by simpa using hp0
                    have hpe2 : (!List.isEmpty pb) = true := by rw [hpe1]; rfl
                    have hpe3 : (pb == []) = false := by simpa using hp0
                    have hrw := hrw hp0
                    clear hpe
                    by_cases hlt : k < us.length
                    · have HST := Lib.hid (hrw.symm.trans (resWords_step hlt))
                      obtain ⟨g8, o8, rfl, hab, d0⟩ := HRD.out.str hlt
                      have hxl := HVM.out _ (List.getElem_mem hlt)
                      obtain ⟨⟨f0, f1, f2, f3⟩, f4, f5, f6, f7⟩ := box_four HL.out.box
                      generalize us[k] = x at *
                      clear hrw
                      have hbr : b < wr.heap.size := lt_of_block HL.out.box
                      have hgb := (HNN.out g8 o8 rfl).1
                      by_cases hx3 : x = [46, 46]
                      · subst hx3
                        have HW3 : Hid (resWords p.dropLast (us.drop (k + 1)) = R) := by show _ = _; rw [HST.out]; simp [resStep]
                        clear HST
                        by_cases hpn0 : p = []
                        · have hl0 : (0 < p.length) = False := by rw [hpn0]; simp
                          have HW2 : Hid (resWords p (us.drop (k + 1)) = R) := by show _ = _; rw [← HW3.out, hpn0]; rfl
                          clear hpn0 HW3
                          go_wp2
                          go_roundw
                          case rel => exact ⟨k + 1, p, A2, c2, by omega, by go_num, (fun e => absurd e hp0), (fun _ => HW2.out), HL.out, by omega, HPX.out, HRD.out, HNN.out, HB.out⟩
                          case measure => simp [intOf]; omega
                        · have hl0 : (0 < p.length) = True := eq_true (List.length_pos_iff.2 hpn0)
                          have HLP := Lib.hid (HL.out.pop hpn0 (.slice A2 (p.length - 1) c2) rfl)
                          have HBP := Lib.hid (Below.setCell HB.out (p := ⟨b, 2, none⟩) (by show wv.heap.size ≤ b; omega) (.slice A2 (p.length - 1) c2))
                          obtain ⟨ga, rfl, _, _⟩ := own_some HL.out.own (List.length_pos_iff.2 hpn0)
                          have hcap : p.length ≤ c2 := ownS_cap HL.out.own
                          have hpos := List.length_pos_iff.2 hpn0
                          have hi1 : (0 : Int) ≤ (p.length : Int) - 1 := by omega
                          have hi2 : (p.length : Int) - 1 ≤ (c2 : Int) := by omega
                          have hi3 : ((p.length : Int) - 1).toNat = p.length - 1 := by omega
                          have HRP := Lib.hid (rd_setc (o := 2) (u := .slice (some ⟨ga, 0, none⟩) (p.length - 1) c2) HRD.out (fun g o e => (HNN.out g o e).1) |>.more (Nat.le_of_eq (by simp [World.setCell] : _ = (wr.setCell ⟨b, 2, none⟩ (.slice (some ⟨ga, 0, none⟩) (p.length - 1) c2)).heap.size)))
                          clear hpn0
                          go_wp2
                          go_roundw
                          case rel => exact ⟨k + 1, p.dropLast, some ⟨ga, 0, none⟩, c2, by omega, by go_num, (fun e => absurd e hp0), (fun _ => HW3.out), HLP.out, by simp; omega, (fun x hx => HPX.out x (List.dropLast_subset _ hx)), HRP.out, (fun g o e => ⟨(HNN.out g o e).1, fun h2 => (HNN.out g o e).2 (by rw [← h2]; rfl)⟩), HBP.out⟩
                          case measure => simp [intOf]; omega
                      by_cases hx1 : x = [46]
                      · have HW2 : Hid (resWords p (us.drop (k + 1)) = R) := by show _ = _; rw [HST.out, hx1]; simp [resStep]
                        subst hx1
                        clear HST
                        go_wp2
                        go_roundw
                        case rel => exact ⟨k + 1, p, A2, c2, by omega, by go_num, (fun e => absurd e hp0), (fun _ => HW2.out), HL.out, by omega, HPX.out, HRD.out, HNN.out, HB.out⟩
                        case measure => simp [intOf]; omega
                      by_cases hx2 : x = [] ∧ k + 1 = us.length
                      · obtain ⟨hx2, hkl⟩ := hx2
                        have HW2 : Hid (resWords p (us.drop (k + 1)) = R) := by show _ = _; rw [HST.out, hx2]; simp [resStep, hkl]
                        have hkI : decide ((k : Int) + 1 < (us.length : Int)) = false := by simp; omega
                        subst hx2
                        clear HST hx1 hx3 hkl
                        go_wp2
                        go_roundw
                        case rel => exact ⟨k + 1, p, A2, c2, by omega, by go_num, (fun e => absurd e hp0), (fun _ => HW2.out), HL.out, by omega, HPX.out, HRD.out, HNN.out, HB.out⟩
                        case measure => simp [intOf]; omega
                      have HW4 : Hid (resWords (p ++ [x]) (us.drop (k + 1)) = R) := by
                        show _ = _
                        rw [HST.out]
                        unfold resStep
                        rw [if_neg (by simp only [not_or, not_and, decide_eq_true_eq]; exact ⟨hx1, fun e h => hx2 ⟨e, h⟩⟩), if_neg hx3]
                      have HC2 := Lib.hid f2
                      have HD0 := Lib.hid d0
                      have hx1b : (x == [46]) = false := by simpa using hx1
                      have hx3b : (x == [46, 46]) = false := by simpa using hx3
                      by_cases hx0 : x = []
                      · have hkI : decide ((k : Int) + 1 < (us.length : Int)) = true := by
                          have : ¬ k + 1 = us.length := fun e => hx2 ⟨hx0, e⟩
                          simp; omega
                        subst hx0
                        clear HST hx1 hx2 hx3 hx1b hx3b
                        go_upto_region 21 with fail
                        go_wp2_with fail
                        refine wp_region_typed 7 (by kernel_rfl) (by kernel_rfl) (fun _ w => Below (World.heap wr).size wr w) KB (fun i => ([bIs (.pointer (some ⟨b, 2, none⟩)), bIs (.slice A2 p.length c2), bIs (.slice (some ⟨g8, o8, none⟩) us.length c9), bIs (.int .i64 k), bIs (.pointer (some ⟨g8, o8 + k, none⟩)), bIs (sv []), bRow (World.heap wr).size 1 #[sv []] 9] : List TyB).getD i bAny) ?hWbB2 ?hkeepB2 ?hstepB2 ?hfinbB2
                        case hkeepB2 =>
                          refine all_lt_succ (all_lt_succ (all_lt_succ (all_lt_succ (all_lt_succ (all_lt_succ (all_lt_succ all_lt_zero ?_) ?_) ?_) ?_) ?_) ?_) ?_
                          · exact keeps_bIs
                          · exact keeps_bIs
                          · exact keeps_bIs
                          · exact keeps_bIs
                          · exact keeps_bIs
                          · exact keeps_bIs
                          · exact keeps_bRow
                        case hstepB2 =>
                          refine all_lt_succ (all_lt_succ (all_lt_succ (all_lt_succ (all_lt_succ (all_lt_succ (all_lt_succ all_lt_zero ?_) ?_) ?_) ?_) ?_) ?_) ?_
                          · (intro o ho m' a w1 hm' hW hb hd K Q hK; obtain rfl := Option.some.inj ho; have e0 : a.tmps[8]?.getD undef = .pointer (some ⟨b, 0, none⟩) := (by rw [hb 8 (by decide +kernel)]; simp); go_simp; exact hK _ _ hW (kb_refl _) rfl)
                          · (intro o ho m' a w1 hm' hW hb hd K Q hK; obtain rfl := Option.some.inj ho; have e0 := slotB (hd 0 (by kernel_rfl) 130 rfl); have hcw := (hW.cell (p := ⟨b, 2, none⟩) hbr).trans HC2.out; go_simp; exact hK _ _ hW (kb_refl _) rfl)
                          · (intro o ho m' a w1 hm' hW hb hd K Q hK; obtain rfl := Option.some.inj ho; have e0 : a.tmps[11]?.getD undef = (.slice (some ⟨g8, o8, none⟩) us.length c9) := (by rw [hb 11 (by decide +kernel)]; simp); go_simp; exact hK _ _ hW (kb_refl _) rfl)
                          · (intro o ho m' a w1 hm' hW hb hd K Q hK; obtain rfl := Option.some.inj ho; have e0 : a.tmps[12]?.getD undef = (.int .i64 k) := (by rw [hb 12 (by decide +kernel)]; simp); go_simp; exact hK _ _ hW (kb_refl _) rfl)
                          · (intro o ho m' a w1 hm' hW hb hd K Q hK; obtain rfl := Option.some.inj ho; have e0 := slotB (hd 2 (by kernel_rfl) 132 rfl); have e1 := slotB (hd 3 (by kernel_rfl) 133 rfl); go_simp; exact hK _ _ hW (kb_refl _) rfl)
                          · (intro o ho m' a w1 hm' hW hb hd K Q hK; obtain rfl := Option.some.inj ho; have e0 := slotB (hd 4 (by kernel_rfl) 134 rfl); have hcw := (hW.cell (p := ⟨g8, o8 + k, none⟩) hab).trans HD0.out; go_simp; exact hK _ _ hW (kb_refl _) rfl)
                          · (intro o ho m' a w1 hm' hW hb hd K Q hK; obtain rfl := Option.some.inj ho; have e0 := slotB (hd 5 (by kernel_rfl) 135 rfl); go_simp; exact hK _ _ (hW.alloc hW.size _) ((Below.refl _ _).alloc (Nat.le_refl _) _) ⟨_, rfl, hW.size, heap_alloc_new w1 _⟩)
                        case hWbB2 => exact (Below.refl _ _).drew
                        case hfinbB2 =>
                          intro vs wx hW hF
                          simp only [putAll, hdst, List.getElem?_cons_succ, List.getElem?_cons_zero, Option.bind, List.drop_succ_cons, List.drop_zero, Act.put]
                          have h1 : vs 1 = .slice A2 p.length c2 := hF 1 (by omega)
                          obtain ⟨b2, h6, hB2, hh2⟩ := hF 6 (by omega)
                          rw [h1, h6]
                          have HL3 := Lib.hid (HL.out.keep hW)
                          have HR3 := Lib.hid (HRD.out.below hW)
                          have HB3 := Lib.hid (HB.out.trans (hW.mono HB.out.size))
                          have hsz3 := hW.size
                          have hszb := HB.out.size
                          clear hF h1 h6 hW
                          go_simp
                          go_wp2_with (at_builtin; refine app_strb_at rfl _ _ rfl wv.heap.size A2 c2 p _ (by rfl) HL3.out.own b2 (by rfl) hh2 ?_ (by omega) ?_; (focus omega); intro A3 c3 w5 ho5 hg5 hbk5; obtain ⟨⟨q0, q1, q2, q3⟩, q4, q5, q6, q7⟩ := box_four (HL3.out.boxApp hg5))
                          have HL5 := Lib.hid (HL3.out.app ho5 hg5 (by rw [List.length_append, List.length_singleton]; exact hbk5) (.slice A3 (p.length + 1) c3) (by simp))
                          have HR5 := Lib.hid (rd_setc (k := b) (o := 2) (u := .slice A3 (p.length + 1) c3) (rd_grow HR3.out hg5 hsz3 (fun g o e => (HNN.out g o e).2)) (fun g o e => (HNN.out g o e).1) |>.more (B' := (w5.setCell ⟨b, 2, none⟩ (.slice A3 (p.length + 1) c3)).heap.size) (by have := hg5.size; simp only [World.size_setCell]; omega))
                          have HB5 := Lib.hid (Below.setCell (HB3.out.trans (grown_to_below hg5 HB3.out.size (fun g e => by have := ownS_row HL3.out.own g e; omega))) (p := ⟨b, 2, none⟩) (by show wv.heap.size ≤ b; omega) (.slice A3 (p.length + 1) c3))
                          go_roundw
                          case rel =>
                            refine ⟨k + 1, p ++ [[]], A3, c3, by omega, by go_num, (fun e => absurd e hp0), (fun _ => HW4.out), by simpa using HL5.out, by simp; omega, ?_, HR5.out, ?_, by simpa using HB5.out⟩
                            · intro y hy
                              rcases List.mem_append.1 hy with hy | hy
                              · exact HPX.out y hy
                              · simp at hy; rw [hy]; exact hxl
                            · intro g o e
                              refine ⟨(HNN.out g o e).1, fun h2 => ?_⟩
                              rw [List.length_append, List.length_singleton] at h2
                              rcases hbk5 with e3 | e3
                              · rw [e3] at h2; exact (HNN.out g o e).2 h2
                              · rw [e3] at h2; injection h2 with h2; injection e with e; injection e with e1; omega
                          case measure => simp [intOf]; omega
                      · have hx0b : (x == []) = false := by simpa using hx0
                        have hx0c : List.isEmpty x = false := by simpa using hx0
                        clear HST hx1 hx2 hx3 hx0
                        go_upto_region 21 with fail
                        go_wp2_with fail
                        refine wp_region_typed 7 (by kernel_rfl) (by kernel_rfl) (fun _ w => Below (World.heap wr).size wr w) KB (fun i => ([bIs (.pointer (some ⟨b, 2, none⟩)), bIs (.slice A2 p.length c2), bIs (.slice (some ⟨g8, o8, none⟩) us.length c9), bIs (.int .i64 k), bIs (.pointer (some ⟨g8, o8 + k, none⟩)), bIs (sv x), bRow (World.heap wr).size 1 #[sv x] 9] : List TyB).getD i bAny) ?hWbB3 ?hkeepB3 ?hstepB3 ?hfinbB3
                        case hkeepB3 =>
                          refine all_lt_succ (all_lt_succ (all_lt_succ (all_lt_succ (all_lt_succ (all_lt_succ (all_lt_succ all_lt_zero ?_) ?_) ?_) ?_) ?_) ?_) ?_
                          · exact keeps_bIs
                          · exact keeps_bIs
                          · exact keeps_bIs
                          · exact keeps_bIs
                          · exact keeps_bIs
                          · exact keeps_bIs
                          · exact keeps_bRow
                        case hstepB3 =>
                          refine all_lt_succ (all_lt_succ (all_lt_succ (all_lt_succ (all_lt_succ (all_lt_succ (all_lt_succ all_lt_zero ?_) ?_) ?_) ?_) ?_) ?_) ?_
                          · (intro o ho m' a w1 hm' hW hb hd K Q hK; obtain rfl := Option.some.inj ho; have e0 : a.tmps[8]?.getD undef = .pointer (some ⟨b, 0, none⟩) := (by rw [hb 8 (by decide +kernel)]; simp); go_simp; exact hK _ _ hW (kb_refl _) rfl)
                          · (intro o ho m' a w1 hm' hW hb hd K Q hK; obtain rfl := Option.some.inj ho; have e0 := slotB (hd 0 (by kernel_rfl) 130 rfl); have hcw := (hW.cell (p := ⟨b, 2, none⟩) hbr).trans HC2.out; go_simp; exact hK _ _ hW (kb_refl _) rfl)
                          · (intro o ho m' a w1 hm' hW hb hd K Q hK; obtain rfl := Option.some.inj ho; have e0 : a.tmps[11]?.getD undef = (.slice (some ⟨g8, o8, none⟩) us.length c9) := (by rw [hb 11 (by decide +kernel)]; simp); go_simp; exact hK _ _ hW (kb_refl _) rfl)
                          · (intro o ho m' a w1 hm' hW hb hd K Q hK; obtain rfl := Option.some.inj ho; have e0 : a.tmps[12]?.getD undef = (.int .i64 k) := (by rw [hb 12 (by decide +kernel)]; simp); go_simp; exact hK _ _ hW (kb_refl _) rfl)
                          · (intro o ho m' a w1 hm' hW hb hd K Q hK; obtain rfl := Option.some.inj ho; have e0 := slotB (hd 2 (by kernel_rfl) 132 rfl); have e1 := slotB (hd 3 (by kernel_rfl) 133 rfl); go_simp; exact hK _ _ hW (kb_refl _) rfl)
                          · (intro o ho m' a w1 hm' hW hb hd K Q hK; obtain rfl := Option.some.inj ho; have e0 := slotB (hd 4 (by kernel_rfl) 134 rfl); have hcw := (hW.cell (p := ⟨g8, o8 + k, none⟩) hab).trans HD0.out; go_simp; exact hK _ _ hW (kb_refl _) rfl)
                          · (intro o ho m' a w1 hm' hW hb hd K Q hK; obtain rfl := Option.some.inj ho; have e0 := slotB (hd 5 (by kernel_rfl) 135 rfl); go_simp; exact hK _ _ (hW.alloc hW.size _) ((Below.refl _ _).alloc (Nat.le_refl _) _) ⟨_, rfl, hW.size, heap_alloc_new w1 _⟩)
                        case hWbB3 => exact (Below.refl _ _).drew
                        case hfinbB3 =>
                          intro vs wx hW hF
                          simp only [putAll, hdst, List.getElem?_cons_succ, List.getElem?_cons_zero, Option.bind, List.drop_succ_cons, List.drop_zero, Act.put]
                          have h1 : vs 1 = .slice A2 p.length c2 := hF 1 (by omega)
                          obtain ⟨b2, h6, hB2, hh2⟩ := hF 6 (by omega)
                          rw [h1, h6]
                          have HL3 := Lib.hid (HL.out.keep hW)
                          have HR3 := Lib.hid (HRD.out.below hW)
                          have HB3 := Lib.hid (HB.out.trans (hW.mono HB.out.size))
                          have hsz3 := hW.size
                          have hszb := HB.out.size
                          clear hF h1 h6 hW
                          go_simp
                          go_wp2_with (at_builtin; refine app_strb_at rfl _ _ rfl wv.heap.size A2 c2 p _ (by rfl) HL3.out.own b2 (by rfl) hh2 ?_ (by omega) ?_; (focus omega); intro A3 c3 w5 ho5 hg5 hbk5; obtain ⟨⟨q0, q1, q2, q3⟩, q4, q5, q6, q7⟩ := box_four (HL3.out.boxApp hg5))
                          have HL5 := Lib.hid (HL3.out.app ho5 hg5 (by rw [List.length_append, List.length_singleton]; exact hbk5) (.slice A3 (p.length + 1) c3) (by simp))
                          have HR5 := Lib.hid (rd_setc (k := b) (o := 2) (u := .slice A3 (p.length + 1) c3) (rd_grow HR3.out hg5 hsz3 (fun g o e => (HNN.out g o e).2)) (fun g o e => (HNN.out g o e).1) |>.more (B' := (w5.setCell ⟨b, 2, none⟩ (.slice A3 (p.length + 1) c3)).heap.size) (by have := hg5.size; simp only [World.size_setCell]; omega))
                          have HB5 := Lib.hid (Below.setCell (HB3.out.trans (grown_to_below hg5 HB3.out.size (fun g e => by have := ownS_row HL3.out.own g e; omega))) (p := ⟨b, 2, none⟩) (by show wv.heap.size ≤ b; omega) (.slice A3 (p.length + 1) c3))
                          go_roundw
                          case rel =>
                            refine ⟨k + 1, p ++ [x], A3, c3, by omega, by go_num, (fun e => absurd e hp0), (fun _ => HW4.out), by simpa using HL5.out, by simp; omega, ?_, HR5.out, ?_, by simpa using HB5.out⟩
                            · intro y hy
                              rcases List.mem_append.1 hy with hy | hy
                              · exact HPX.out y hy
                              · simp at hy; rw [hy]; exact hxl
                            · intro g o e
                              refine ⟨(HNN.out g o e).1, fun h2 => ?_⟩
                              rw [List.length_append, List.length_singleton] at h2
                              rcases hbk5 with e3 | e3
                              · rw [e3] at h2; exact (HNN.out g o e).2 h2
                              · rw [e3] at h2; injection h2 with h2; injection e with e; injection e with e1; omega
                          case measure => simp [intOf]; omega
                    · obtain rfl : k = us.length := by omega
                      have hpR : p = R := by rw [List.drop_length] at hrw; exact hrw
                      subst hpR
                      clear hrw hlt
                      go_wp2
                      go_meet
                      case rel => exact ⟨A2, c2, HL.out, ⟨HF.out.1, HF.out.2.1, by show q.length ≤ _; omega, by show p.length ≤ _; omega, HPX.out⟩, HB.out⟩
        case rest =>
          obtain ⟨A9, c9, hl, hfo, hb⟩ := hcut
          have HL := Lib.hid hl
          have HFO := Lib.hid hfo
          have HB9 := Lib.hid (HB5.out.trans (hb.mono HB5.out.size))
          have HX9 := Lib.hid (bx_keep HX5.out hb)
          have HR9 := Lib.hid ((ownS_rd HO5.out).below hb |>.more hb.size)
          clear HL6 HB6 HX5 HO5 HB5 HZ5 hl hfo hb
          obtain ⟨⟨g0, g1, g2, g3⟩, g4, g5, g6, g7⟩ := box_four HX9.out
          go_wp2_with fail
          refine (HV.out _ A1 c1 HR9.out).mono ?_
          rintro e w10 ⟨rfl, hb⟩
          have HL10 := Lib.hid (HL.out.keep hb)
          have HB10 := Lib.hid (HB9.out.trans (hb.mono HB9.out.size))
          clear HL HB9 HX9 HR9 hb
          cases lv with
          | false =>
            obtain ⟨⟨z0, z1, z2, z3⟩, z4, z5, z6, z7⟩ := box_four HL10.out.res
            go_wp2
            refine bodyPost_ret (v := .tuple #[lcV zeroL none 0, .bool false]) (by simp [results, Tryd.results6, zeroL, go_sem, *]) rfl ?_
            refine rdL_no (w.heap.size + 1) (sv []) (sv []) (.slice none 0 0) (sv []) (HB10.out) rfl ?_
            rw [HRES.out]; rfl
          | true =>
            obtain ⟨⟨f0, f1, f2, f3⟩, f4, f5, f6, f7⟩ := box_four HL10.out.box
            have HVO := Lib.hid (spec_LocationValid O A9 c9 _ (ownS_rd HL10.out.own) HFO.out)
            rw [Bool.true_and] at HRES
            generalize locOk O = lo at *
            go_wp2_with fail
            refine HVO.out.mono ?_
            rintro e w12 ⟨rfl, hb⟩
            have HL12 := Lib.hid (HL10.out.keep hb)
            have HB12 := Lib.hid (HB10.out.trans (hb.mono HB10.out.size))
            clear hb f0 f1 f2 f3 f4 f5 f6 f7
            obtain ⟨⟨f0, f1, f2, f3⟩, f4, f5, f6, f7⟩ := box_four HL12.out.box
            obtain ⟨⟨z0, z1, z2, z3⟩, z4, z5, z6, z7⟩ := box_four HL12.out.res
            cases lo
            · go_wp2
              refine bodyPost_ret (v := .tuple #[lcV zeroL none 0, .bool false]) (by simp [results, Tryd.results6, zeroL, go_sem, *]) rfl ?_
              refine rdL_no (w.heap.size + 1) (sv []) (sv []) (.slice none 0 0) (sv []) (HB12.out) rfl ?_
              rw [HRES.out]; rfl
            · go_wp2
              refine bodyPost_ret (v := .tuple #[lcV O A9 c9, .bool true]) (by simp [results, Tryd.results6, go_sem, *]) rfl ?_
              exact rdL_end (l := O) (w.heap.size + 1) (sv O.sch) (sv O.host) (.slice A9 O.path.length c9) (sv O.qu) (ownS_rd (put4_own HL12.out.res HL12.out.own _ _ _ _) |>.more (by rw [put4_size]; exact Nat.le_refl _)) (ownS_cap HL12.out.own) HB12.out rfl (by rw [HRES.out]; rfl)
end Go.Proofs.YtjlaelkdmgcniaaDoor
