/- ReadLocation of impl: walks. -/
import Derived.Test.YtjlaelkdmgcniaaDoorReadLocS
import Derived.Test.YtjlaelkdmgcniaaDoorSplit
namespace Go.Proofs.YtjlaelkdmgcniaaDoor
open Go.RowKit

theorem cut_tx (l sep : Tx) (hl : l.length ≤ 1048576) (w : World) (hm : Hm w) :
    Calls Tryd.prog 16 #[.string ⟨l.toArray⟩, .string ⟨sep.toArray⟩] w fun e w' => e = .returned (.tuple #[sv (Lib.cut l sep).1, sv (Lib.cut l sep).2.1, .bool (Lib.cut l sep).2.2]) ∧ ∃ n, w' = w.drewN n := by
  obtain ⟨m, hm⟩ := hm
  have e1 : (ByteArray.mk l.toArray).size = l.length := by show l.toArray.size = _; simp
  exact Tryd.strings_Cut ⟨l.toArray⟩ ⟨sep.toArray⟩ m w (by omega) hm
/-- a location of the call's own, and whether there is one -/
def NewLB (w : World) (r : Lc × Bool) (e : Ending) (w' : World) : Prop := ∃ A c, e = .returned (.tuple #[lcV r.1 A c, .bool r.2]) ∧ OwnS w' w.heap.size A c r.1.path ∧ Below w.heap.size w w'
theorem hm_drew {w : World} {n : Nat} (h : Hm w) : Hm (w.drewN n) := h.below (below_drewN (Below.refl _ _) n)
/-- what the box of the read location holds -/
def RStI (s : Tx) (w w1 : World) (b : Bool) (wx : World) : Prop :=
  ∃ (A : Option Addr) (c : Nat) (l : Lc), (readLoc s = if b && locOk l && (locText l == s) then (l, true) else (zeroL, false)) ∧ FitL l ∧ wx.heap[w1.heap.size]? = some (.cells (lcCells l A c) 25 (0, 0)) ∧ wx.heap[w.heap.size]? = some (.cells #[.string ⟨#[]⟩, .string ⟨#[]⟩, .slice none 0 0, .string ⟨#[]⟩] 25 (0, 0)) ∧ OwnS wx (w1.heap.size + 1) A c l.path ∧ Below w.heap.size w wx

set_option maxRecDepth 100000 in
set_option maxHeartbeats 8000000 in
theorem impl_ReadLocation (s : Tx) (hl : s.length ≤ 1048576) (w : World) (hm : Hm w) :
    Calls Tryd.prog 10 #[.string ⟨s.toArray⟩] w (NewLB w (readLoc s)) := by
  have HA := Lib.hid ((Below.refl w.heap.size w).alloc (Nat.le_refl _) (.cells #[.string ⟨#[]⟩, .string ⟨#[]⟩, .slice none 0 0, .string ⟨#[]⟩] 25))
  have HM := Lib.hid hm
  have HP : Hid (readLoc s = if (parseLI s).2 && locOk (parseLI s).1 && (locText (parseLI s).1 == s) then ((parseLI s).1, true) else (zeroL, false)) := rfl
  have HD : Hid (parseLI s = (⟨(Lib.cut s [58, 47, 47]).1, (Lib.cut (Lib.cut s [58, 47, 47]).2.1 [47]).1,
    if (Lib.cut (Lib.cut (Lib.cut s [58, 47, 47]).2.1 [47]).2.1 [63]).1 = [] then [] else Lib.split (Lib.cut (Lib.cut (Lib.cut s [58, 47, 47]).2.1 [47]).2.1 [63]).1 [47],
    (Lib.cut (Lib.cut (Lib.cut s [58, 47, 47]).2.1 [47]).2.1 [63]).2.1⟩,
   (Lib.cut s [58, 47, 47]).2.2 && (Lib.cut (Lib.cut s [58, 47, 47]).2.1 [47]).2.2)) := rfl
  have HFL := Lib.hid (parseLI_fit hl)
  have HC1 := Lib.hid (fun w hm => cut_tx s [58, 47, 47] hl w hm)
  have h1l := cut_len2 s [58, 47, 47]
  have HC2 := Lib.hid (fun w hm => cut_tx (Lib.cut s [58, 47, 47]).2.1 [47] (by omega) w hm)
  have h2l := cut_len2 (Lib.cut s [58, 47, 47]).2.1 [47]
  have HC3 := Lib.hid (fun w hm => cut_tx (Lib.cut (Lib.cut s [58, 47, 47]).2.1 [47]).2.1 [63] (by omega) w hm)
  have h3l := cut_len1 (Lib.cut (Lib.cut s [58, 47, 47]).2.1 [47]).2.1 [63]
  generalize parseLI s = ps at *
  generalize Lib.cut s [58, 47, 47] = x1 at *
  obtain ⟨sc, r1, ok⟩ := x1
  dsimp only at *
  generalize Lib.cut r1 [47] = x2 at *
  obtain ⟨ho, r2, sl⟩ := x2
  dsimp only at *
  generalize Lib.cut r2 [63] = x3 at *
  obtain ⟨pa, qu, has3⟩ := x3
  dsimp only at *
  have HS := Lib.hid (fun w hm => split_tx pa [47] (by simp) (by omega) w hm)
  go_enter Tryd.func10, Tryd.ntmps10
  go_wp2_with fail
  refine (HC1.out _ (HM.out.below HA.out)).mono ?_
  rintro e w1 ⟨rfl, n1, rfl⟩
  have HB0 := Lib.hid (below_drewN HA.out n1)
  have HZ0 : Hid (((w.alloc (.cells #[.string ⟨#[]⟩, .string ⟨#[]⟩, .slice none 0 0, .string ⟨#[]⟩] 25)).drewN n1).heap[w.heap.size]? = some (.cells #[.string ⟨#[]⟩, .string ⟨#[]⟩, .slice none 0 0, .string ⟨#[]⟩] 25 (0, 0))) := heap_alloc_new w _
  have hz0 : w.heap.size < ((w.alloc (.cells #[.string ⟨#[]⟩, .string ⟨#[]⟩, .slice none 0 0, .string ⟨#[]⟩] 25)).drewN n1).heap.size := by show w.heap.size < (w.alloc _).heap.size; simp
  generalize (w.alloc (.cells #[.string ⟨#[]⟩, .string ⟨#[]⟩, .slice none 0 0, .string ⟨#[]⟩] 25)).drewN n1 = wa at *
  go_wp2_with fail
  refine (HC2.out _ (HM.out.below HB0.out)).mono ?_
  rintro e w1 ⟨rfl, n2, rfl⟩
  have HB0 := Lib.hid (below_drewN HB0.out n2)
  have HZ0 : Hid ((wa.drewN n2).heap[w.heap.size]? = some (.cells #[.string ⟨#[]⟩, .string ⟨#[]⟩, .slice none 0 0, .string ⟨#[]⟩] 25 (0, 0))) := HZ0.out
  have hz0 : w.heap.size < (wa.drewN n2).heap.size := hz0
  generalize wa.drewN n2 = wb at *
  go_wp2_with fail
  refine (HC3.out _ (HM.out.below HB0.out)).mono ?_
  rintro e w1 ⟨rfl, n3, rfl⟩
  have HB1 := Lib.hid (below_drewN HB0.out n3)
  have HZ1 : Hid ((wb.drewN n3).heap[w.heap.size]? = some (.cells #[.string ⟨#[]⟩, .string ⟨#[]⟩, .slice none 0 0, .string ⟨#[]⟩] 25 (0, 0))) := HZ0.out
  have hz1 : w.heap.size < (wb.drewN n3).heap.size := hz0
  generalize wb.drewN n3 = w1 at *
  have HBa := Lib.hid ((Below.refl w1.heap.size w1).alloc (Nat.le_refl _) (.cells (lcCells ⟨sc, ho, [], qu⟩ none 0) 25))
  have HB3 := Lib.hid (HB1.out.trans (HBa.out.mono HB1.out.size))
  have HZ3 := Lib.hid (bx_keep HZ1.out HBa.out)
  have HBX3 := Lib.hid (loc_box w1 ⟨sc, ho, [], qu⟩ none 0 25)
  clear HC1 HC2 HC3
  go_upto_if 37 with fail
  go_cut [] (fun wx => RStI s w w1 (ok && sl) wx)
  case first =>
    by_cases hpe : pa = []
    · have hpi : List.isEmpty pa = true := by rw [hpe]; rfl
      rw [if_pos hpe] at HD
      rw [HD.out] at HP HFL
      dsimp only at HP HFL
      clear HD hpe
      rw [hpi, Bool.not_true]
      go_wp2
      go_meet
      case rel => exact ⟨none, 0, ⟨sc, ho, [], qu⟩, HP.out, HFL.out, HBX3.out, HZ3.out, ownS_nil _ _, HB3.out⟩
    · have hpi : List.isEmpty pa = false := by simpa using hpe
      rw [if_neg hpe] at HD
      rw [HD.out] at HP HFL
      dsimp only at HP HFL
      clear HD hpe
      generalize Lib.split pa [47] = ws at *
      rw [hpi, Bool.not_false]
      go_wp2_with fail
      refine (HS.out _ (HM.out.below HB3.out)).mono ?_
      rintro e w2 ⟨A2, c2, rfl, hox, hb⟩
      have HBw := Lib.hid (HB3.out.trans (hb.mono HB3.out.size))
      have HBXw := Lib.hid (bx_keep HBX3.out hb)
      have HZw := Lib.hid (bx_keep HZ3.out hb)
      have HOw := Lib.hid (own_base hox (b := w1.heap.size + 1) (by simp))
      obtain ⟨⟨g0, g1, g2, g3⟩, g4, g5, g6, g7⟩ := box_four HBXw.out
      have hzz := HB1.out.size
      have HBX4 : Hid ((w2.setCell ⟨w1.heap.size, 2, none⟩ (.slice A2 ws.length c2)).heap[w1.heap.size]? = some (.cells (lcCells ⟨sc, ho, ws, qu⟩ A2 c2) 25 (0, 0))) := by
        show _ = _
        rw [cells_set HBXw.out]
        rfl
      have HZ4 : Hid ((w2.setCell ⟨w1.heap.size, 2, none⟩ (.slice A2 ws.length c2)).heap[w.heap.size]? = some (.cells #[.string ⟨#[]⟩, .string ⟨#[]⟩, .slice none 0 0, .string ⟨#[]⟩] 25 (0, 0))) := (Below.heap_setCell _ _ _ _ (by show w.heap.size ≠ w1.heap.size; omega)).trans HZw.out
      clear hox hb
      go_wp2
      go_meet
      case rel => exact ⟨A2, c2, ⟨sc, ho, ws, qu⟩, HP.out, HFL.out, HBX4.out, HZ4.out, own_off HOw.out (Nat.lt_succ_self _), Below.setCell HBw.out (by show w.heap.size ≤ w1.heap.size; omega) _⟩
  case rest =>
    obtain ⟨A, c, l, hpl, hfl, hbx, hz, ho4, hb4⟩ := hcut
    have HP := Lib.hid hpl
    have HL1 := Lib.hid hfl
    have HO4 := Lib.hid ho4
    have HB4 := Lib.hid hb4
    have HBX4 := Lib.hid hbx
    have HZ4 := Lib.hid hz
    obtain ⟨⟨f0, f1, f2, f3⟩, f4, f5, f6, f7⟩ := box_four HBX4.out
    obtain ⟨⟨z0, z1, z2, z3⟩, z4, z5, z6, z7⟩ := box_four HZ4.out
    clear hpl hfl hbx hz ho4 hb4 HD HFL HS HBX3 HZ3 HZ1 HB3 HBa
    cases ok
    ·
      have HF2 : Hid (readLoc s = (zeroL, false)) := HP.out
      have HB2 := HB4
      go_wp2
      refine bodyPost_ret (v := .tuple #[lcV zeroL none 0, .bool false]) (by simp [results, Tryd.results10, zeroL, go_sem, *]) rfl ?_
      rw [HF2.out]
      exact ⟨none, 0, rfl, ownS_nil _ _, Below.setCell (Below.setCell (Below.setCell (Below.setCell HB2.out (Nat.le_refl _) _) (Nat.le_refl _) _) (Nat.le_refl _) _) (Nat.le_refl _) _⟩
    ·
      cases sl
      ·
        have HF2 : Hid (readLoc s = (zeroL, false)) := HP.out
        have HB2 := HB4
        go_wp2
        refine bodyPost_ret (v := .tuple #[lcV zeroL none 0, .bool false]) (by simp [results, Tryd.results10, zeroL, go_sem, *]) rfl ?_
        rw [HF2.out]
        exact ⟨none, 0, rfl, ownS_nil _ _, Below.setCell (Below.setCell (Below.setCell (Below.setCell HB2.out (Nat.le_refl _) _) (Nat.le_refl _) _) (Nat.le_refl _) _) (Nat.le_refl _) _⟩
      ·
        have HF : Hid (readLoc s = if locOk l && (locText l == s) then (l, true) else (zeroL, false)) := HP.out
        clear HP
        go_wp2_with fail
        refine (impl_LocationValid l A c _ (ownS_rd HO4.out) HL1.out (HM.out.below HB4.out)).mono ?_
        generalize locOk l = lv at HF ⊢
        rintro e w5 ⟨rfl, hb⟩
        have HB5 := Lib.hid (HB4.out.trans (hb.mono HB4.out.size))
        have HBX5 := Lib.hid (bx_keep HBX4.out hb)
        have HZ5 := Lib.hid (bx_keep HZ4.out hb)
        have HO5 := Lib.hid (ownS_keep HO4.out hb)
        obtain ⟨⟨f0, f1, f2, f3⟩, f4, f5, f6, f7⟩ := box_four HBX5.out
        obtain ⟨⟨z0, z1, z2, z3⟩, z4, z5, z6, z7⟩ := box_four HZ5.out
        clear hb
        cases lv
        ·
          have HF2 : Hid (readLoc s = (zeroL, false)) := HF.out
          have HB2 := HB5
          go_wp2
          refine bodyPost_ret (v := .tuple #[lcV zeroL none 0, .bool false]) (by simp [results, Tryd.results10, zeroL, go_sem, *]) rfl ?_
          rw [HF2.out]
          exact ⟨none, 0, rfl, ownS_nil _ _, Below.setCell (Below.setCell (Below.setCell (Below.setCell HB2.out (Nat.le_refl _) _) (Nat.le_refl _) _) (Nat.le_refl _) _) (Nat.le_refl _) _⟩
        ·
          rw [Bool.true_and] at HF
          have HT := Lib.hid (impl_LocationText l A c _ (ownS_rd HO5.out) (ownS_cap HO5.out) HL1.out (HM.out.below HB5.out))
          generalize locText l = y at HF HT
          go_wp2_with fail
          refine HT.out.mono ?_
          rintro e w6 ⟨rfl, hb⟩
          have HB6 := Lib.hid (HB5.out.trans (hb.mono HB5.out.size))
          have HBX6 := Lib.hid (bx_keep HBX5.out hb)
          have HZ6 := Lib.hid (bx_keep HZ5.out hb)
          have HO6 := Lib.hid (ownS_keep HO5.out hb)
          obtain ⟨⟨f0, f1, f2, f3⟩, f4, f5, f6, f7⟩ := box_four HBX6.out
          obtain ⟨⟨z0, z1, z2, z3⟩, z4, z5, z6, z7⟩ := box_four HZ6.out
          clear hb HT
          by_cases hy : y = s
          ·
            have HF2 : Hid (readLoc s = (l, true)) := by show _ = _; rw [HF.out, hy]; simp
            subst hy
            go_wp2
            refine bodyPost_ret (v := .tuple #[lcV l A c, .bool true]) (by simp [results, Tryd.results10, go_sem, *]) rfl ?_
            rw [HF2.out]
            have hs6 := HB6.out.size
            exact ⟨A, c, rfl, own_base (own_off (own_off (own_off (own_off HO6.out (by omega)) (by omega)) (by omega)) (by omega)) (by omega), Below.setCell (Below.setCell (Below.setCell (Below.setCell HB6.out (Nat.le_refl _) _) (Nat.le_refl _) _) (Nat.le_refl _) _) (Nat.le_refl _) _⟩
          ·
            have HF2 : Hid (readLoc s = (zeroL, false)) := by show _ = _; rw [HF.out, if_neg (by simpa using hy)]
            have h1 : (y == s) = false := by simpa using hy
            have h2 : (y != s) = true := by rw [bne, h1]; rfl
            have HB2 := HB6
            clear hy
            go_wp2
            refine bodyPost_ret (v := .tuple #[lcV zeroL none 0, .bool false]) (by simp [results, Tryd.results10, zeroL, go_sem, *]) rfl ?_
            rw [HF2.out]
            exact ⟨none, 0, rfl, ownS_nil _ _, Below.setCell (Below.setCell (Below.setCell (Below.setCell HB2.out (Nat.le_refl _) _) (Nat.le_refl _) _) (Nat.le_refl _) _) (Nat.le_refl _) _⟩
end Go.Proofs.YtjlaelkdmgcniaaDoor
