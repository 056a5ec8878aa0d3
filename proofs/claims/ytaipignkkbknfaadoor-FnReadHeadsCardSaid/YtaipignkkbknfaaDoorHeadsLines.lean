/- Headers: HeadsLines of impl and of spec: walks. -/
import Derived.Test.YtaipignkkbknfaaDoorHeads
import Derived.Test.YtaipignkkbknfaaDoorStrs
import Derived.Deep.RegionHeld3
namespace Go.Proofs.YtaipignkkbknfaaDoor
open Go.RowKit

def lineOf (p : Pr) : Tx := p.1 ++ 58 :: 32 :: p.2
def hdLines (ps : List Pr) (k : Nat) : List Tx := (ps.take k).map lineOf
def headsLines (ps : List Pr) : List Tx := if headsOk ps then hdLines ps ps.length else []
theorem hdLines_succ (ps : List Pr) (k : Nat) (h : k < ps.length) : hdLines ps (k + 1) = hdLines ps k ++ [lineOf ps[k]] := by
  unfold hdLines
  rw [take_snoc ps k h, List.map_append]
  rfl
theorem hdLines_len (ps : List Pr) (k : Nat) : (hdLines ps k).length ≤ ps.length := by
  unfold hdLines
  rw [List.length_map, List.length_take]
  omega
theorem headsLines_len (ps : List Pr) {m : Nat} (h : ps.length ≤ m) : (headsLines ps).length ≤ m + 1 := by
  unfold headsLines
  split
  · have := hdLines_len ps ps.length; omega
  · simp
theorem psize_get : ∀ (ps : List Pr) (k : Nat) (h : k < ps.length), ps[k].1.length + ps[k].2.length ≤ psize ps
  | p :: t, 0, _ => by simp [psize]
  | p :: t, k + 1, h => by have := psize_get t k (by simpa using h); simp [psize]; omega
theorem cell2b {w w' : World} {b o1 o2 : Nat} {x y : Value} (h : w.cell? ⟨b, o1, none⟩ = some x ∧ w.cell? ⟨b, o2, none⟩ = some y) (hb : Below w.heap.size w w') (hn : b < w.heap.size) :
    w'.cell? ⟨b, o1, none⟩ = some x ∧ w'.cell? ⟨b, o2, none⟩ = some y :=
  ⟨(hb.cell (p := ⟨b, o1, none⟩) hn).trans h.1, (hb.cell (p := ⟨b, o2, none⟩) hn).trans h.2⟩
theorem cell2c {w w' : World} {b o1 o2 : Nat} {x y : Value} {row : Option Nat} (h : w.cell? ⟨b, o1, none⟩ = some x ∧ w.cell? ⟨b, o2, none⟩ = some y) (hg : w.grownBy w' row) (hn : b < w.heap.size) (hr : row ≠ some b) :
    w'.cell? ⟨b, o1, none⟩ = some x ∧ w'.cell? ⟨b, o2, none⟩ = some y :=
  ⟨(hg.cell_far ⟨b, o1, none⟩ hn (Ne.symm hr)).trans h.1, (hg.cell_far ⟨b, o2, none⟩ hn (Ne.symm hr)).trans h.2⟩
theorem ownS_far {w : World} {base c b : Nat} {A : Option Addr} {xs : List Tx} (h : OwnS w base A c xs) (hb : b < base) : Value.ownBlock (.slice A xs.length c) ≠ some b := by
  intro e
  have := (h.lt _ e).1
  omega

set_option maxHeartbeats 1000000 in
theorem impl_HeadsLines (ps : List Pr) (A : Option Addr) (c : Nat) (w : World) (hr : Rd w w.heap.size A (pcells ps)) (_ : A = none → c = 0) (hf : Fit ps) (hl : ps.length ≤ maxLen) (hsz : ps.length + psize ps ≤ 1048576) :
    Calls Tryd.prog 17 #[.slice A ps.length c] w (NewS w (headsLines ps)) := by
  have HV := Lib.hid (impl_HeadsValid ps A c w hr hf hl)
  cases hok : headsOk ps
  · have T6 : Hid (headsLines ps = []) := by show _ = _; rw [headsLines, hok]; rfl
    have HO := Lib.hid hok
    clear hok
    go_enter Tryd.func17, Tryd.ntmps17
    go_wp2_with fail
    refine HV.out.mono ?_
    rintro e w1 ⟨rfl, hb1⟩
    have HB1 := Lib.hid hb1
    clear hb1
    rw [HO.out]
    go_wp2
    go_ret
    rw [T6.out]
    exact ⟨none, 0, rfl, ownS_nil _ _, HB1.out⟩
  · have T6 : Hid (headsLines ps = hdLines ps ps.length) := by show _ = _; rw [headsLines, hok]; rfl
    have HO := Lib.hid hok
    clear hok
    go_enter Tryd.func17, Tryd.ntmps17
    go_wp2_with fail
    refine HV.out.mono ?_
    rintro e w1 ⟨rfl, hb1⟩
    have HB1 := Lib.hid hb1
    clear hb1
    rw [HO.out]
    go_wp2
    go_loopw [3, 12] (fun v i wr => ∃ (k : Nat) (A' : Option Addr) (c' : Nat), k ≤ ps.length ∧ i = .int .i64 k ∧ v = .slice A' (hdLines ps k).length c' ∧ OwnS wr w.heap.size A' c' (hdLines ps k) ∧ Below w.heap.size w wr) (fun _ i _ => ps.length - (intOf i).toNat)
    case atStart => exact ⟨0, _, 0, Nat.zero_le _, rfl, rfl, own_base (ownS_empty w1 w1.heap.size (Nat.le_refl _)) HB1.out.size, HB1.out.alloc HB1.out.size _⟩
    case round =>
      obtain ⟨k, A', c', hk, rfl, rfl, ho, hb⟩ := hrel
      have HB := Lib.hid hb
      have hpl := hdLines_len ps k
      by_cases hlt : k < ps.length
      · obtain ⟨b, o, rfl, hab, hc0, hc1⟩ := (hr.below hb).pair hlt
        have hsz2 := hb.size
        have HS := Lib.hid (hdLines_succ ps k hlt)
        have hel := psize_get ps k hlt
        generalize hdLines ps k = hp at *
        have HO' := Lib.hid ho
        clear hb ho
        have HS2 : Hid (hdLines ps (k + 1) = hp ++ [lineOf ps[k]]) := by show _ = _; rw [HS.out]
        go_wp2_with (at_builtin; refine app_str rfl _ _ rfl w.heap.size A' c' _ hp (lineOf ps[k]) rfl rfl (ownS_keep HO'.out ((Below.refl _ _).alloc (Nat.le_refl _) _)) _ rfl ?_ ?_ ?_ ?_; (focus (first | rfl | simp)); (focus omega); (focus (simp; omega)); intro A2 c2 w3 ho3 hg3)
        go_roundw
        case rel =>
          refine ⟨k + 1, A2, c2, by omega, by go_num, by rw [HS2.out]; simp, by rw [HS2.out]; exact ho3, ?_⟩
          exact (HB.out.alloc HB.out.size _).trans (grown_to_below hg3 (by simp; omega) (ownS_row HO'.out))
        case measure => simp [intOf]; omega
      · have hkn : k = ps.length := by omega
        subst hkn
        have HO' := Lib.hid ho
        clear ho
        go_wp2
        go_ret
        rw [T6.out]
        exact ⟨A', c', rfl, HO'.out, hb⟩

set_option maxHeartbeats 1000000 in
theorem spec_HeadsLines (ps : List Pr) (A : Option Addr) (c : Nat) (w : World) (hr : Rd w w.heap.size A (pcells ps)) (_ : A = none → c = 0) (hf : Fit ps) (hl : ps.length ≤ maxLen) (hsz : ps.length + psize ps ≤ 1048576) :
    Calls Tryd.prog 16 #[.slice A ps.length c] w (NewS w (headsLines ps)) := by
  have HV := Lib.hid (fun w' hb => spec_HeadsValid ps A c w' ((hr.below (w' := w') hb).more hb.size) hf hl)
  have T6 : Hid (headsLines ps = if headsOk ps then hdLines ps ps.length else []) := rfl
  go_enter Tryd.func16, Tryd.ntmps16
  go_wp2
  go_loopw [3, 4] (fun v i wr => ∃ (k : Nat) (A' : Option Addr) (c' : Nat), k ≤ ps.length ∧ (0 < k → headsOk ps = true) ∧ i = .int .i64 k ∧ v = .slice A' (hdLines ps k).length c' ∧ OwnS wr w.heap.size A' c' (hdLines ps k) ∧ Below w.heap.size w wr) (fun _ i _ => ps.length - (intOf i).toNat)
  case atStart => exact ⟨0, _, 0, Nat.zero_le _, by simp, rfl, rfl, ownS_empty w w.heap.size (Nat.le_refl _), (Below.refl _ _).alloc (Nat.le_refl _) _⟩
  case round =>
    obtain ⟨k, A', c', hk, hpos, rfl, rfl, ho, hb⟩ := hrel
    have HB := Lib.hid hb
    have HPOS := Lib.hid hpos
    have hpl := hdLines_len ps k
    clear hpos
    by_cases hlt : k < ps.length
    · cases hok : headsOk ps
      · have hk0 : k = 0 := by
          rcases Nat.eq_zero_or_pos k with h | h
          · exact h
          · rw [HPOS.out h] at hok; cases hok
        subst hk0
        have T7 : Hid (headsLines ps = []) := by show _ = _; rw [T6.out, hok]; rfl
        have HO := Lib.hid hok
        have HO' := Lib.hid ho
        clear hok ho
        go_wp2_with fail
        refine (HV.out _ HB.out).mono ?_
        rintro e w1 ⟨rfl, hb1⟩
        have HB1 := Lib.hid (HB.out.trans (hb1.mono HB.out.size))
        have HO1 := Lib.hid (ownS_keep HO'.out hb1)
        clear hb1
        rw [HO.out]
        go_wp2
        go_ret
        rw [T7.out]
        exact ⟨_, _, rfl, HO1.out, HB1.out⟩
      · have HO := Lib.hid hok
        have HO' := Lib.hid ho
        clear hok ho
        go_wp2_with fail
        refine (HV.out _ HB.out).mono ?_
        rintro e w1 ⟨rfl, hb1⟩
        have HB1 := Lib.hid (HB.out.trans (hb1.mono HB.out.size))
        have HO1 := Lib.hid (ownS_keep HO'.out hb1)
        clear hb1 hb
        rw [HO.out]
        obtain ⟨b, o, rfl, hab, hc0, hc1⟩ := (hr.below HB1.out).pair hlt
        have hsz2 := HB1.out.size
        have HS := Lib.hid (hdLines_succ ps k hlt)
        have hel := psize_get ps k hlt
        have HC := Lib.hid (And.intro hc0 hc1)
        have hbw : b < w1.heap.size := by omega
        clear hc0 hc1
        generalize hdLines ps k = hp at *
        have HS2 : Hid (hdLines ps (k + 1) = hp ++ [lineOf ps[k]]) := by show _ = _; rw [HS.out]
        have hs1 : (9223372036854775807 < ps[k].1.length + 2) = False := by rw [eq_iff_iff, iff_false]; omega
        have hs3 : (9223372036854775807 < ps[k].1.length + 2 + ps[k].2.length) = False := by rw [eq_iff_iff, iff_false]; omega
        go_wp2_with fail
        go_region_held3 (fun W => W.cell? ⟨b, o + k * 2, none⟩ = some (sv ps[k].1) ∧ W.cell? ⟨b, o + k * 2 + 1, none⟩ = some (sv ps[k].2))
          (first | exact HC.out | exact cell2b (w := w1) HC.out ((Below.refl _ _).drew.alloc (Nat.le_refl _) _) hbw | exact cell2c (cell2b (w := w1) HC.out ((Below.refl _ _).drew.alloc (Nat.le_refl _) _) hbw) hg3 (by simp; omega) (ownS_far HO1.out hab) | go_keep)
          (first | (refine step_app_str rfl _ _ rfl w.heap.size A' c' _ hp (lineOf ps[k]) (by rfl) rfl (World.ownsRow.alloc (ownS_keep HO1.out (Below.refl _ _).drew) _) w1.drew.heap.size (by rfl) (heap_alloc_new w1.drew _) (by omega) (Nat.le_trans hsz2 (by simp)) ?_; intro A2 c2 w3 ho3 hg3))
        have HB3 := Lib.hid ((HB1.out.drew.alloc HB1.out.drew.size (.cells #[sv (lineOf ps[k])] 9)).trans (grown_to_below hg3 (Nat.le_trans hsz2 (by simp)) (ownS_row HO1.out)))
        clear hg3
        go_wp2
        go_roundw
        case rel => exact ⟨k + 1, A2, c2, by omega, (by intro _; first | rfl | exact HO.out | trivial), by go_num, by rw [HS2.out]; simp, by rw [HS2.out]; exact ho3, HB3.out⟩
        case measure => simp [intOf]; omega
    · have hkn : k = ps.length := by omega
      subst hkn
      have HE2 : Hid (headsLines ps = hdLines ps ps.length) := by
        show _ = _
        rw [T6.out]
        rcases Nat.eq_zero_or_pos ps.length with h | h
        · have : ps = [] := List.eq_nil_of_length_eq_zero h
          subst this
          rfl
        · rw [if_pos (HPOS.out h)]
      have HO' := Lib.hid ho
      clear ho
      go_wp2
      go_ret
      rw [HE2.out]
      exact ⟨A', c', rfl, HO'.out, hb⟩
end Go.Proofs.YtaipignkkbknfaaDoor
