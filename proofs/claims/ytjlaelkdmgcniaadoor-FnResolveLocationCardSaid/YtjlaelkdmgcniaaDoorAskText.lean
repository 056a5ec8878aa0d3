/- Queries: AskedText of impl and of spec: walks. -/
import Derived.Test.YtjlaelkdmgcniaaDoorAsked
import Derived.Test.YtjlaelkdmgcniaaDoorOpen
import Derived.Test.YtjlaelkdmgcniaaDoorJoin
import Derived.Test.YtjlaelkdmgcniaaDoorEscS
import Derived.Test.YtjlaelkdmgcniaaDoorEscI
import Derived.Deep.RegionHeld3
namespace Go.Proofs.YtjlaelkdmgcniaaDoor
open Go.RowKit

def amp : Tx := [38]
def prText (c : Pr) : Tx := c.1 ++ 61 :: escPart c.2
def prParts (ps : List Pr) (k : Nat) : List Tx := (ps.take k).map prText
def askedText (ps : List Pr) : Tx := if askedOk ps then Lib.join (prParts ps ps.length) amp else []

theorem prParts_succ (ps : List Pr) (k : Nat) (h : k < ps.length) : prParts ps (k + 1) = prParts ps k ++ [prText ps[k]] := by
  unfold prParts
  rw [take_snoc ps k h, List.map_append]
  rfl
theorem prParts_eq (ps : List Pr) (k : Nat) (h : k ≤ ps.length) : (prParts ps k).length = k := by
  unfold prParts
  rw [List.length_map, List.length_take]
  omega
theorem prParts_len (ps : List Pr) (k : Nat) : (prParts ps k).length ≤ ps.length := by
  unfold prParts
  rw [List.length_map, List.length_take]
  omega
theorem asked_each {ps : List Pr} (h : askedOk ps = true) : ∀ p ∈ ps, p.1.length ≤ 10 ∧ p.2.length ≤ 40 := by
  intro p hp
  simp only [askedOk, Bool.and_eq_true, List.all_eq_true, pairOk, nameOk, valOk, decide_eq_true_eq] at h
  have h2 := h.2 p hp
  exact ⟨h2.1.1.1.2, h2.2.1⟩
theorem prText_len {c : Pr} (h : c.1.length ≤ 10 ∧ c.2.length ≤ 40) : (prText c).length ≤ 131 := by
  have := escPart_len c.2
  unfold prText
  simp only [List.length_append, List.length_cons]
  omega
theorem sum_parts : ∀ ps : List Pr, (∀ p ∈ ps, p.1.length ≤ 10 ∧ p.2.length ≤ 40) → ((ps.map prText).map (fun x => x.length + amp.length)).sum ≤ 133 * ps.length
  | [], _ => by simp
  | p :: t, h => by
    have := sum_parts t fun q hq => h q (by simp [hq])
    have h1 := prText_len (h p (by simp))
    have hc : amp.length = 1 := rfl
    simp only [hc] at this ⊢
    simp only [List.map_cons, List.sum_cons, List.length_cons]
    omega
theorem ask_len {ps : List Pr} (h : askedOk ps = true) (k : Nat) : (Lib.join (prParts ps k) amp).length ≤ 800 := by
  refine join_len _ amp (133 * (ps.take k).length) 800 (sum_parts (ps.take k) fun p hp => asked_each h p (List.mem_of_mem_take hp)) ?_
  have h1 : (ps.take k).length ≤ ps.length := by rw [List.length_take]; omega
  simp [askedOk] at h
  omega

theorem ownS_thru {wr W w2 : World} {base c : Nat} {A : Option Addr} {xs : List Tx} (h : OwnS wr base A c xs) (hW : Below wr.heap.size wr W) (hb : Below W.heap.size W w2) (_ : Below w2.heap.size w2 w2) : OwnS w2 base A c xs :=
  ownS_keep h (hW.trans (hb.mono hW.size))
theorem cell2 {n : Nat} {w w' : World} {x y : Value} (h : w.cell? ⟨n, 0, none⟩ = some x ∧ w.cell? ⟨n, 1, none⟩ = some y) (hb : Below w.heap.size w w') (hn : n < w.heap.size) :
    w'.cell? ⟨n, 0, none⟩ = some x ∧ w'.cell? ⟨n, 1, none⟩ = some y :=
  ⟨(hb.cell (p := ⟨n, 0, none⟩) hn).trans h.1, (hb.cell (p := ⟨n, 1, none⟩) hn).trans h.2⟩

theorem cell2g {n : Nat} {w w' : World} {x y : Value} {row : Option Nat} (h : w.cell? ⟨n, 0, none⟩ = some x ∧ w.cell? ⟨n, 1, none⟩ = some y) (hg : w.grownBy w' row) (hn : n < w.heap.size) (hr : row ≠ some n) :
    w'.cell? ⟨n, 0, none⟩ = some x ∧ w'.cell? ⟨n, 1, none⟩ = some y :=
  ⟨(hg.cell_far ⟨n, 0, none⟩ hn (Ne.symm hr)).trans h.1, (hg.cell_far ⟨n, 1, none⟩ hn (Ne.symm hr)).trans h.2⟩
theorem own_ne {w : World} {base c : Nat} {A : Option Addr} {xs : List Tx} (h : OwnS w base A c xs) : Value.ownBlock (.slice A xs.length c) ≠ some w.heap.size := by
  intro e
  have := (h.lt _ e).2
  omega

set_option maxRecDepth 100000 in
set_option maxHeartbeats 4000000 in
theorem impl_AskedText (ps : List Pr) (A : Option Addr) (c : Nat) (w : World) (hr : Rd w w.heap.size A (pcells ps)) (hf : Fit ps) (hl : ps.length ≤ maxLen) :
    Calls Tryd.prog 41 #[.slice A ps.length c] w fun e w' => e = .returned (.string ⟨(askedText ps).toArray⟩) ∧ Below w.heap.size w w' := by
  have HV := Lib.hid (impl_AskedValid ps A c w hr hf hl)
  cases hok : askedOk ps
  · have T6 : Hid (askedText ps = []) := by show _ = _; rw [askedText, hok]; rfl
    have HO := Lib.hid hok
    clear hok
    go_enter Tryd.func41, Tryd.ntmps41
    go_wp2_with fail
    refine HV.out.mono ?_
    rintro e w1 ⟨rfl, hb1⟩
    have HB1 := Lib.hid hb1
    clear hb1
    rw [HO.out]
    go_wp2
    go_ret
    rw [T6.out]
    exact ⟨rfl, HB1.out⟩
  · have T6 : Hid (askedText ps = Lib.join (prParts ps ps.length) amp) := by show _ = _; rw [askedText, hok]; rfl
    have HEA := Lib.hid (asked_each hok)
    have HLN := Lib.hid (ask_len hok)
    have h6 : ps.length ≤ 6 := by simp [askedOk] at hok; exact hok.1
    have HO := Lib.hid hok
    clear hok
    go_enter Tryd.func41, Tryd.ntmps41
    go_wp2_with fail
    refine HV.out.mono ?_
    rintro e w1 ⟨rfl, hb1⟩
    have HB1 := Lib.hid hb1
    clear hb1
    rw [HO.out]
    go_wp2
    go_loopw [3, 12] (fun v i wr => ∃ (k : Nat) (A' : Option Addr) (c' : Nat), k ≤ ps.length ∧ i = .int .i64 k ∧ v = .slice A' (prParts ps k).length c' ∧ OwnS wr w.heap.size A' c' (prParts ps k) ∧ Below w.heap.size w wr) (fun _ i _ => ps.length - (intOf i).toNat)
    case atStart => exact ⟨0, _, 0, Nat.zero_le _, rfl, rfl, own_base (ownS_empty w1 w1.heap.size (Nat.le_refl _)) HB1.out.size, HB1.out.alloc HB1.out.size _⟩
    case round =>
      obtain ⟨k, A', c', hk, rfl, rfl, ho, hb⟩ := hrel
      have HB := Lib.hid hb
      have hpl := prParts_len ps k
      by_cases hlt : k < ps.length
      · obtain ⟨b, o, rfl, hab, hc0, hc1⟩ := (hr.below hb).pair hlt
        have hsz2 := hb.size
        have HS := Lib.hid (prParts_succ ps k hlt)
        have hel := (HEA.out _ (List.getElem_mem hlt))
        generalize prParts ps k = hp at *
        have HO' := Lib.hid ho
        clear hb ho
        have HS2 : Hid (prParts ps (k + 1) = hp ++ [prText ps[k]]) := by show _ = _; rw [HS.out]
        have HE := Lib.hid (fun w => impl_EscapePart ps[k].2 (by omega) w)
        go_wp2_with fail
        generalize hwb : wr.alloc _ = wb
        have hx : wb.cell? ⟨wr.heap.size, 0, none⟩ = some (sv ps[k].1) ∧ wb.cell? ⟨wr.heap.size, 1, none⟩ = some (sv ps[k].2) := by
          rw [← hwb]
          exact ⟨World.cell?_alloc_at _ _ _ _ rfl, World.cell?_alloc_at _ _ _ _ rfl⟩
        have hwlt : wr.heap.size < wb.heap.size := by rw [← hwb]; simp
        have hbb : Below wr.heap.size wr wb := by rw [← hwb]; exact (Below.refl _ _).alloc (Nat.le_refl _) _
        have HX := Lib.hid hx
        have HBB := Lib.hid hbb
        clear hwb hx hbb hc0 hc1
        have hel2 := escPart_len ps[k].2
        have hs1 : (9223372036854775807 < ps[k].1.length + 1) = False := by rw [eq_iff_iff, iff_false]; omega
        have hs2 : (9223372036854775807 ≤ ps[k].1.length) = False := by rw [eq_iff_iff, iff_false]; omega
        have hs3 : (9223372036854775807 < ps[k].1.length + 1 + (escPart ps[k].2).length) = False := by rw [eq_iff_iff, iff_false]; omega
        go_region_held3 (fun W => W.cell? ⟨wr.heap.size, 0, none⟩ = some (sv ps[k].1) ∧ W.cell? ⟨wr.heap.size, 1, none⟩ = some (sv ps[k].2))
          (first | exact HX.out | exact cell2 (w := wb.drew) HX.out hb2 hwlt | exact cell2 (w := w2) (cell2 (w := wb.drew) HX.out hb2 hwlt) ((Below.refl _ _).alloc (Nat.le_refl _) _) (Nat.lt_of_lt_of_le hwlt hb2.size) | exact cell2g (cell2 (w := w2) (cell2 (w := wb.drew) HX.out hb2 hwlt) ((Below.refl _ _).alloc (Nat.le_refl _) _) (Nat.lt_of_lt_of_le hwlt hb2.size)) hg3 (Nat.lt_of_lt_of_le (Nat.lt_of_lt_of_le hwlt hb2.size) (by simp)) (own_ne HO'.out) | go_keep)
          (first | (go_at_call 57; refine (HE.out _).mono ?_; rintro e w2 ⟨rfl, hb2⟩) | (refine step_app_str rfl _ _ rfl w.heap.size A' c' _ hp (prText ps[k]) (by rfl) rfl (World.ownsRow.alloc (ownS_thru HO'.out HBB.out.drew hb2 (Below.refl _ _)) _) w2.heap.size (by rfl) (heap_alloc_new w2 _) (by omega) (Nat.le_trans (Nat.le_trans hsz2 (Nat.le_of_lt hwlt)) (Nat.le_trans hb2.size (by simp))) ?_; intro A2 c2 w3 ho3 hg3))
        have HB3 := Lib.hid (((HB.out.trans (HBB.out.mono hsz2)).drew.trans (hb2.mono (Nat.le_trans hsz2 (Nat.le_of_lt hwlt)))).alloc (Nat.le_trans (Nat.le_trans hsz2 (Nat.le_of_lt hwlt)) hb2.size) (.cells #[sv (prText ps[k])] 9) |>.trans (grown_to_below hg3 (Nat.le_trans (Nat.le_trans hsz2 (Nat.le_of_lt hwlt)) (Nat.le_trans hb2.size (by simp))) (ownS_row HO'.out)))
        clear hb2 hg3
        go_wp2
        go_roundw
        case rel => exact ⟨k + 1, A2, c2, by omega, by go_num, by rw [HS2.out]; simp, by rw [HS2.out]; exact ho3, HB3.out⟩
        case measure => simp [intOf]; omega
      · have hkn : k = ps.length := by omega
        subst hkn
        have hjl := HLN.out ps.length
        have hrs := ownS_rd ho
        have hcs := ownS_cap ho
        generalize prParts ps ps.length = hp at *
        clear ho
        have HJ := Lib.hid (join_tx hp amp A' c' wr hrs (by omega) hcs (by omega))
        clear hrs hcs hb
        go_wp2_with fail
        refine HJ.out.mono ?_
        rintro e w2 ⟨rfl, hb2⟩
        have HB2 := Lib.hid (HB.out.trans (hb2.mono HB.out.size))
        clear hb2
        go_wp2
        go_ret
        rw [T6.out]
        exact ⟨rfl, HB2.out⟩


set_option maxRecDepth 100000 in
set_option maxHeartbeats 4000000 in
theorem spec_AskedText (ps : List Pr) (A : Option Addr) (c : Nat) (w : World) (hr : Rd w w.heap.size A (pcells ps)) (hf : Fit ps) (hl : ps.length ≤ maxLen) :
    Calls Tryd.prog 52 #[.slice A ps.length c] w fun e w' => e = .returned (.string ⟨(askedText ps).toArray⟩) ∧ Below w.heap.size w w' := by
  have HV := Lib.hid (fun w' hb => spec_AskedValid ps A c w' ((hr.below (w' := w') hb).more hb.size) hf hl)
  have T6 : Hid (askedText ps = if askedOk ps then Lib.join (prParts ps ps.length) amp else []) := rfl
  have hlm := hl
  unfold maxLen at hlm
  go_enter Tryd.func52, Tryd.ntmps52
  go_wp2
  go_loopw [3, 4] (fun v i wr => ∃ (k : Nat), k ≤ ps.length ∧ (0 < k → askedOk ps = true) ∧ i = .int .i64 k ∧ v = .string ⟨(Lib.join (prParts ps k) amp).toArray⟩ ∧ Below w.heap.size w wr) (fun _ i _ => ps.length - (intOf i).toNat)
  case atStart => exact ⟨0, Nat.zero_le _, by simp, rfl, rfl, Below.refl _ _⟩
  case round =>
    obtain ⟨k, hk, hpos, rfl, rfl, hb⟩ := hrel
    have HB := Lib.hid hb
    have HPOS := Lib.hid hpos
    clear hpos
    by_cases hlt : k < ps.length
    · cases hok : askedOk ps
      · have hk0 : k = 0 := by
          rcases Nat.eq_zero_or_pos k with h | h
          · exact h
          · rw [HPOS.out h] at hok; cases hok
        subst hk0
        have HO := Lib.hid hok
        clear hok
        go_wp2_with fail
        refine (HV.out _ HB.out).mono ?_
        rintro e w1 ⟨rfl, hb1⟩
        have HB1 := Lib.hid (HB.out.trans (hb1.mono HB.out.size))
        clear hb1
        rw [HO.out]
        go_wp2
        go_ret
        rw [T6.out, HO.out]
        exact ⟨rfl, HB1.out⟩
      · have HEA := Lib.hid (asked_each hok)
        have HLN := Lib.hid (ask_len hok)
        have HO := Lib.hid hok
        clear hok
        go_wp2_with fail
        refine (HV.out _ HB.out).mono ?_
        rintro e w1 ⟨rfl, hb1⟩
        have HB1 := Lib.hid (HB.out.trans (hb1.mono HB.out.size))
        clear hb1 hb
        rw [HO.out]
        obtain ⟨b, o, rfl, hab, hc0, hc1⟩ := (hr.below HB1.out).pair hlt
        have hsz2 := HB1.out.size
        have HS := Lib.hid (prParts_succ ps k hlt)
        have hel := (HEA.out _ (List.getElem_mem hlt))
        have hjl := HLN.out k
        have hjl2 := HLN.out (k + 1)
        have hpk := prParts_eq ps k hk
        have HC := Lib.hid (And.intro hc0 hc1)
        have hbw : b < w1.heap.size := by omega
        have HE := Lib.hid (fun w => spec_EscapePart ps[k].2 (by omega) w)
        have hel2 := escPart_len ps[k].2
        generalize prParts ps k = hp at *
        have HS2 : Hid (prParts ps (k + 1) = hp ++ [prText ps[k]]) := by show _ = _; rw [HS.out]
        by_cases hne : hp = []
        · subst hne
          have hk1 : ¬ ((0 : Int) < (k : Int)) := by simp at hpk; omega
          have hj0 : Lib.join [] amp = [] := rfl
          rw [hj0]
          have HJS : Hid (Lib.join ([] ++ [prText ps[k]]) amp = prText ps[k]) := by show _ = _; rw [join_snoc, if_pos rfl]
          go_wp2_with fail
          have hs0 : (9223372036854775807 < ps[k].1.length) = False := by rw [eq_iff_iff, iff_false]; omega
          have hs1 : (9223372036854775807 < ps[k].1.length + 1) = False := by rw [eq_iff_iff, iff_false]; omega
          have hs2 : (9223372036854775807 ≤ ps[k].1.length) = False := by rw [eq_iff_iff, iff_false]; omega
          have hs3 : (9223372036854775807 < ps[k].1.length + 1 + (escPart ps[k].2).length) = False := by rw [eq_iff_iff, iff_false]; omega
          go_region_held3 (fun W => W.cell? ⟨b, o + k * 2, none⟩ = some (sv ps[k].1) ∧ W.cell? ⟨b, o + k * 2 + 1, none⟩ = some (sv ps[k].2))
            (first | exact HC.out | exact ⟨(hb2.cell (p := ⟨b, o + k * 2, none⟩) hbw).trans HC.out.1, (hb2.cell (p := ⟨b, o + k * 2 + 1, none⟩) hbw).trans HC.out.2⟩ | go_keep)
            (first | (go_at_call 72; refine (HE.out _).mono ?_; rintro e w2 ⟨rfl, hb2⟩))
          have HB2 := Lib.hid (HB1.out.drew.trans (hb2.mono HB1.out.drew.size))
          clear hb2
          go_wp2
          go_roundw
          case rel => exact ⟨k + 1, by omega, (by intro _; first | rfl | exact HO.out | trivial), by go_num, by rw [HS2.out, HJS.out]; simp [prText], HB2.out⟩
          case measure => simp [intOf]; omega
        · have hkp : 0 < k := by
            rcases Nat.eq_zero_or_pos k with h | h
            · exact absurd (List.eq_nil_of_length_eq_zero (hpk.trans h)) hne
            · exact h
          have HJS : Hid (Lib.join (hp ++ [prText ps[k]]) amp = Lib.join hp amp ++ amp ++ prText ps[k]) := by show _ = _; rw [join_snoc, if_neg hne]
          generalize Lib.join hp amp = jt at *
          go_wp2_with fail
          have HJ2 : Hid (jt.length ≤ 800) := hjl
          generalize hj1 : jt ++ [38] = j1
          have hj2 : j1.length = jt.length + 1 := by rw [← hj1]; simp
          have hs0 : (9223372036854775807 < j1.length + ps[k].1.length) = False := by rw [eq_iff_iff, iff_false]; omega
          have hs1 : (9223372036854775807 < j1.length + ps[k].1.length + 1) = False := by rw [eq_iff_iff, iff_false]; omega
          have hs2 : (9223372036854775807 ≤ j1.length + ps[k].1.length) = False := by rw [eq_iff_iff, iff_false]; omega
          have hs3 : (9223372036854775807 < j1.length + ps[k].1.length + 1 + (escPart ps[k].2).length) = False := by rw [eq_iff_iff, iff_false]; omega
          have hs4 : (9223372036854775807 < j1.length + (ps[k].1.length + 1) + (escPart ps[k].2).length) = False := by rw [eq_iff_iff, iff_false]; omega
          have HJ1 := Lib.hid hj1
          clear hj1 hj2
          have HJS := Lib.hid (HJS.out.trans (congrArg (· ++ prText ps[k]) HJ1.out))
          go_region_held3 (fun W => W.cell? ⟨b, o + k * 2, none⟩ = some (sv ps[k].1) ∧ W.cell? ⟨b, o + k * 2 + 1, none⟩ = some (sv ps[k].2))
            (first | exact HC.out | exact ⟨(hb2.cell (p := ⟨b, o + k * 2, none⟩) hbw).trans HC.out.1, (hb2.cell (p := ⟨b, o + k * 2 + 1, none⟩) hbw).trans HC.out.2⟩ | go_keep)
            (first | (go_at_call 72; refine (HE.out _).mono ?_; rintro e w2 ⟨rfl, hb2⟩))
          have HB2 := Lib.hid (HB1.out.drew.trans (hb2.mono HB1.out.drew.size))
          clear hb2
          go_wp2
          go_roundw
          case rel => exact ⟨k + 1, by omega, (by intro _; first | rfl | exact HO.out | trivial), by go_num, by rw [HS2.out, HJS.out]; simp [prText], HB2.out⟩
          case measure => simp [intOf]; omega
    · have hkn : k = ps.length := by omega
      subst hkn
      have HE2 : Hid (askedText ps = Lib.join (prParts ps ps.length) amp) := by
        show _ = _
        rw [T6.out]
        rcases Nat.eq_zero_or_pos ps.length with h | h
        · have : ps = [] := List.eq_nil_of_length_eq_zero h
          subst this
          rfl
        · rw [if_pos (HPOS.out h)]
      go_wp2
      go_ret
      rw [HE2.out]
      exact ⟨rfl, hb⟩
end Go.Proofs.YtjlaelkdmgcniaaDoor
