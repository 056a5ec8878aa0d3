/- Styles: StylesText of impl and of spec: walks. -/
import Derived.Test.YtaofgcdpmeeimaaDoorStyle
import Derived.Test.YtaofgcdpmeeimaaDoorPairS
import Derived.Test.YtaofgcdpmeeimaaDoorOpen
import Derived.Test.YtaofgcdpmeeimaaDoorJoin
import Derived.Deep.RegionHeld3
import Derived.Deep.QuietTactic
import Derived.BigQuiet
namespace Go.Proofs.YtaofgcdpmeeimaaDoor
open Go.RowKit

def semi : Tx := [59, 32]
def safe (p : Pr) : Bool := styleOk p.1 p.2
def stText (c : Pr) : Tx := c.1 ++ 58 :: 32 :: c.2
def stParts (ps : List Pr) (k : Nat) : List Tx := (ps.take k).map stText
def stylesText (ps : List Pr) : Tx := if decide (ps.length ≤ 6) && ps.all safe then Lib.join (stParts ps ps.length) semi else []

section
variable {α : Type} {p : α → Bool} {l : List α} {k : Nat} {r : Bool}
theorem allp_yes (h : (l.drop k).all p = r) (hk : k < l.length) (hp : p l[k] = true) : (l.drop (k + 1)).all p = r := by
  rw [drop_cons l k hk, List.all_cons, hp, Bool.true_and] at h; exact h
theorem allp_no (h : (l.drop k).all p = r) (hk : k < l.length) (hp : p l[k] = false) : false = r := by
  rw [drop_cons l k hk, List.all_cons, hp, Bool.false_and] at h; exact h
theorem allp_end (h : (l.drop k).all p = r) (hk : ¬ k < l.length) : true = r := by
  rw [drop_nil l k (by omega)] at h; exact h
end
theorem stParts_succ (ps : List Pr) (k : Nat) (h : k < ps.length) : stParts ps (k + 1) = stParts ps k ++ [stText ps[k]] := by
  unfold stParts
  rw [take_snoc ps k h, List.map_append]
  rfl
theorem stParts_eq (ps : List Pr) (k : Nat) (h : k ≤ ps.length) : (stParts ps k).length = k := by
  unfold stParts
  rw [List.length_map, List.length_take]
  omega
theorem sum_parts : ∀ ps : List Pr, ((ps.map stText).map (fun x => x.length + semi.length)).sum ≤ psize ps + 4 * ps.length
  | [] => by simp
  | p :: t => by
    have := sum_parts t
    have hc : semi.length = 2 := rfl
    simp only [hc] at this ⊢
    simp only [List.map_cons, List.sum_cons, List.length_cons, psize, stText, List.length_append]
    omega
theorem psize_take (ps : List Pr) : ∀ k, psize (ps.take k) ≤ psize ps := by
  induction ps with
  | nil => intro k; simp [psize]
  | cons p t ih =>
    intro k
    cases k with
    | zero => simp [psize]
    | succ k => have := ih k; simp only [List.take_succ_cons, psize]; omega
theorem psize_get : ∀ (ps : List Pr) (k : Nat) (h : k < ps.length), ps[k].1.length + ps[k].2.length ≤ psize ps
  | p :: t, 0, _ => by simp [psize]
  | p :: t, k + 1, h => by have := psize_get t k (by simpa using h); simp [psize]; omega
theorem st_len (ps : List Pr) (k : Nat) {m : Nat} (h : psize ps + 4 * ps.length ≤ m) : (Lib.join (stParts ps k) semi).length ≤ m := by
  refine join_len _ semi (psize (ps.take k) + 4 * (ps.take k).length) m (sum_parts (ps.take k)) ?_
  have h1 : (ps.take k).length ≤ ps.length := by rw [List.length_take]; omega
  have h2 := psize_take ps k
  omega
theorem ownS_thru {wr W w2 : World} {base c : Nat} {A : Option Addr} {xs : List Tx} (h : OwnS wr base A c xs) (hW : Below wr.heap.size wr W) (hb : Below W.heap.size W w2) : OwnS w2 base A c xs :=
  ownS_keep h (hW.trans (hb.mono hW.size))
theorem cell2 {n : Nat} {w w' : World} {x y : Value} (h : w.cell? ⟨n, 0, none⟩ = some x ∧ w.cell? ⟨n, 1, none⟩ = some y) (hb : Below w.heap.size w w') (hn : n < w.heap.size) :
    w'.cell? ⟨n, 0, none⟩ = some x ∧ w'.cell? ⟨n, 1, none⟩ = some y :=
  ⟨(hb.cell (p := ⟨n, 0, none⟩) hn).trans h.1, (hb.cell (p := ⟨n, 1, none⟩) hn).trans h.2⟩
theorem cell2g {n : Nat} {w w' : World} {x y : Value} {row : Option Nat} (h : w.cell? ⟨n, 0, none⟩ = some x ∧ w.cell? ⟨n, 1, none⟩ = some y) (hg : w.grownBy w' row) (hn : n < w.heap.size) (hr : row ≠ some n) :
    w'.cell? ⟨n, 0, none⟩ = some x ∧ w'.cell? ⟨n, 1, none⟩ = some y :=
  ⟨(hg.cell_far ⟨n, 0, none⟩ hn (Ne.symm hr)).trans h.1, (hg.cell_far ⟨n, 1, none⟩ hn (Ne.symm hr)).trans h.2⟩
theorem own_ne {w : World} {base c : Nat} {A : Option Addr} {xs : List Tx} (h : OwnS w base A c xs) : Value.ownBlock (.slice A xs.length c) ≠ some w.heap.size := by
  intro e
  have := (h.lt _ e).2
  omega

set_option maxRecDepth 100000 in
set_option maxHeartbeats 1000000 in
theorem impl_StylesText (ps : List Pr) (A : Option Addr) (c : Nat) (w : World) (hr : Rd w w.heap.size A (pcells ps)) (hf : Fit ps) (hsz : psize ps + 4 * ps.length ≤ 8388608) :
    Calls Tryd.prog 16 #[.slice A ps.length c] w fun e w' => e = .returned (.string ⟨(stylesText ps).toArray⟩) ∧ Below w.heap.size w w' := by
  by_cases h6 : ps.length ≤ 6
  · have d6 : decide (6 < (ps.length : Int)) = false := by simp; omega
    have T6 : Hid (stylesText ps = if ps.all safe then Lib.join (stParts ps ps.length) semi else []) := by show _ = _; rw [stylesText, decide_eq_true h6, Bool.true_and]
    go_enter Tryd.func16, Tryd.ntmps16
    go_wp2
    go_loopw [3, 12] (fun v i wr => ∃ (k : Nat) (A' : Option Addr) (c' : Nat), k ≤ ps.length ∧ i = .int .i64 k ∧ (ps.drop k).all safe = ps.all safe ∧ v = .slice A' (stParts ps k).length c' ∧ OwnS wr w.heap.size A' c' (stParts ps k) ∧ Below w.heap.size w wr) (fun _ i _ => ps.length - (intOf i).toNat)
    case atStart => exact ⟨0, _, 0, Nat.zero_le _, rfl, rfl, rfl, ownS_empty w w.heap.size (Nat.le_refl _), (Below.refl _ _).alloc (Nat.le_refl _) _⟩
    case round =>
      obtain ⟨k, A', c', hk, rfl, hall, rfl, ho, hb⟩ := hrel
      have HB := Lib.hid hb
      have HALL := Lib.hid hall
      clear hall
      have hpl : (stParts ps k).length ≤ ps.length := by rw [stParts_eq ps k hk]; exact hk
      by_cases hlt : k < ps.length
      · obtain ⟨b, o, rfl, hab, hc0, hc1⟩ := (hr.below hb).pair hlt
        have hsz2 := hb.size
        have HS := Lib.hid (stParts_succ ps k hlt)
        have hel := psize_get ps k hlt
        have HE := Lib.hid (fun w => impl_StyleSafe ps[k].1 ps[k].2 (hf _ (List.getElem_mem hlt)).2 w)
        generalize stParts ps k = hp at *
        have HO' := Lib.hid ho
        clear hb ho
        go_wp2_with fail
        refine (HE.out _).mono ?_
        rintro e w2 ⟨rfl, hb2⟩
        have hx : w2.cell? ⟨wr.heap.size, 0, none⟩ = some (sv ps[k].1) ∧ w2.cell? ⟨wr.heap.size, 1, none⟩ = some (sv ps[k].2) :=
          cell2 ⟨World.cell?_alloc_at _ _ _ _ rfl, World.cell?_alloc_at _ _ _ _ rfl⟩ hb2 (by simp)
        have hwlt : wr.heap.size < w2.heap.size := by have := hb2.size; simp at this; omega
        have HBB : Hid (Below wr.heap.size wr w2) := ((Below.refl _ _).alloc (Nat.le_refl _) _).trans (hb2.mono (by simp))
        have HX := Lib.hid hx
        clear hx hb2 hc0 hc1
        cases hst : styleOk ps[k].1 ps[k].2
        · have HST : Hid (safe ps[k] = false) := hst
          clear hst
          go_wp2
          go_ret
          rw [T6.out, ← allp_no HALL.out hlt HST.out]
          exact ⟨rfl, HB.out.trans (HBB.out.mono hsz2)⟩
        · have HST : Hid (safe ps[k] = true) := hst
          clear hst
          have HS2 : Hid (stParts ps (k + 1) = hp ++ [stText ps[k]]) := by show _ = _; rw [HS.out]
          have hxx := HX.out
          obtain ⟨hx0, hx1⟩ := hxx
          go_wp2_with (at_builtin; refine app_str rfl _ _ rfl w.heap.size A' c' _ hp (stText ps[k]) rfl rfl (ownS_keep HO'.out HBB.out) _ rfl ?_ ?_ ?_ ?_; (focus (first | rfl | simp)); (focus omega); (focus omega); intro A2 c2 w3 ho3 hg3)
          go_roundw
          case rel =>
            refine ⟨k + 1, A2, c2, by omega, by go_num, allp_yes HALL.out hlt HST.out, by rw [HS2.out]; simp, by rw [HS2.out]; exact ho3, ?_⟩
            exact (HB.out.trans (HBB.out.mono hsz2)).trans (grown_to_below hg3 (by omega) (ownS_row HO'.out))
          case measure => simp [intOf]; omega
      · have hkn : k = ps.length := by omega
        subst hkn
        have hjl := st_len ps ps.length hsz
        have hrs := ownS_rd ho
        have hcs := ownS_cap ho
        have T7 : Hid (stylesText ps = Lib.join (stParts ps ps.length) semi) := by show _ = _; rw [T6.out, ← allp_end HALL.out hlt]; rfl
        generalize stParts ps ps.length = hp at *
        clear ho
        have HJ := Lib.hid (join_tx hp semi A' c' wr hrs (by omega) hcs (by omega))
        clear hrs hcs hb
        go_wp2_with fail
        refine HJ.out.mono ?_
        rintro e w2 ⟨rfl, hb2⟩
        have HB2 := Lib.hid (HB.out.trans (hb2.mono HB.out.size))
        clear hb2
        go_wp2
        go_ret
        rw [T7.out]
        exact ⟨rfl, HB2.out⟩
  · have T6 : Hid (stylesText ps = []) := by show _ = _; simp [stylesText, h6]
    have hlm : ps.length ≤ 8388608 := by omega
    go_enter Tryd.func16, Tryd.ntmps16
    go_wp2
    go_ret
    rw [T6.out]
    exact ⟨rfl, Below.refl _ _⟩
set_option maxRecDepth 100000 in
set_option maxHeartbeats 1000000 in
theorem spec_StylesText (ps : List Pr) (A : Option Addr) (c : Nat) (w : World) (hr : Rd w w.heap.size A (pcells ps)) (hf : Fit ps) (hsz : psize ps + 4 * ps.length ≤ 8388608) :
    Calls Tryd.prog 17 #[.slice A ps.length c] w fun e w' => e = .returned (.string ⟨(stylesText ps).toArray⟩) ∧ Below w.heap.size w w' := by
  have T6 : Hid (stylesText ps = if decide (ps.length ≤ 6) && ps.all safe then Lib.join (stParts ps ps.length) semi else []) := rfl
  have hlm : ps.length ≤ 8388608 := by omega
  go_enter Tryd.func17, Tryd.ntmps17
  go_wp2
  go_loopw [3, 4] (fun v i wr => ∃ (k : Nat), k ≤ ps.length ∧ i = .int .i64 k ∧ v = .string ⟨(Lib.join (stParts ps k) semi).toArray⟩ ∧ (0 < k → ps.length ≤ 6) ∧ (ps.drop k).all safe = ps.all safe ∧ Below w.heap.size w wr) (fun _ i _ => ps.length - (intOf i).toNat)
  case atStart => exact ⟨0, Nat.zero_le _, rfl, rfl, by simp, rfl, Below.refl _ _⟩
  case round =>
    obtain ⟨k, hk, rfl, rfl, hpos, hall, hb⟩ := hrel
    have HB := Lib.hid hb
    have HPOS := Lib.hid hpos
    have HALL := Lib.hid hall
    clear hpos hall
    by_cases hlt : k < ps.length
    · obtain ⟨b, o, rfl, hab, hc0, hc1⟩ := (hr.below hb).pair hlt
      have hpk := stParts_eq ps k hk
      have hel := psize_get ps k hlt
      have hjl := st_len ps k hsz
      have HE := Lib.hid (fun w => spec_StyleSafe ps[k].1 ps[k].2 (hf _ (List.getElem_mem hlt)).2 w)
      have HS := Lib.hid (stParts_succ ps k hlt)
      have HC := Lib.hid (And.intro hc0 hc1)
      generalize stParts ps k = hp at *
      have HS2 : Hid (stParts ps (k + 1) = hp ++ [stText ps[k]]) := by show _ = _; rw [HS.out]
      go_wp2_with fail
      refine (HE.out _).mono ?_
      rintro e w2 ⟨rfl, hb2⟩
      have hbw : b < wr.heap.size := by have := hb.size; omega
      have hx0 : w2.cell? ⟨b, o + k * 2, none⟩ = some (sv ps[k].1) := (hb2.cell (p := ⟨b, o + k * 2, none⟩) hbw).trans HC.out.1
      have hx1 : w2.cell? ⟨b, o + k * 2 + 1, none⟩ = some (sv ps[k].2) := (hb2.cell (p := ⟨b, o + k * 2 + 1, none⟩) hbw).trans HC.out.2
      have HB2 := Lib.hid (HB.out.trans (hb2.mono HB.out.size))
      clear hb2 hb hc0 hc1
      cases hst : styleOk ps[k].1 ps[k].2
      · have HST : Hid (safe ps[k] = false) := hst
        clear hst
        go_wp2
        go_ret
        rw [T6.out, ← allp_no HALL.out hlt HST.out, Bool.and_false]
        exact ⟨rfl, HB2.out⟩
      · have HST : Hid (safe ps[k] = true) := hst
        clear hst
        by_cases h6 : ps.length ≤ 6
        · by_cases hne : hp = []
          · subst hne
            have hk1 : ¬ ((0 : Int) < (k : Int)) := by simp at hpk; omega
            have hj0 : Lib.join [] semi = [] := rfl
            rw [hj0]
            have HJS : Hid (Lib.join ([] ++ [stText ps[k]]) semi = stText ps[k]) := by show _ = _; rw [join_snoc, if_pos rfl]
            have hs0 : (9223372036854775807 < ps[k].1.length) = False := by rw [eq_iff_iff, iff_false]; omega
            have hs1 : (9223372036854775807 < ps[k].1.length + 2) = False := by rw [eq_iff_iff, iff_false]; omega
            have hs3 : (9223372036854775807 < ps[k].1.length + 2 + ps[k].2.length) = False := by rw [eq_iff_iff, iff_false]; omega
            go_wp2_with fail
            go_quiet (fail)
            go_wp2
            go_roundw
            case rel => exact ⟨k + 1, by omega, by go_num, by rw [HS2.out, HJS.out]; simp [stText], by intro _; exact h6, allp_yes HALL.out hlt HST.out, below_drewN HB2.out _⟩
            case measure => simp [intOf]; omega
          · have hkp : 0 < k := by
              rcases Nat.eq_zero_or_pos k with h | h
              · exact absurd (List.eq_nil_of_length_eq_zero (hpk.trans h)) hne
              · exact h
            have HJS : Hid (Lib.join (hp ++ [stText ps[k]]) semi = Lib.join hp semi ++ semi ++ stText ps[k]) := by show _ = _; rw [join_snoc, if_neg hne]
            generalize Lib.join hp semi = jt at *
            go_wp2_with fail
            generalize hj1 : jt ++ [59, 32] = j1
            have hj2 : j1.length = jt.length + 2 := by rw [← hj1]; simp
            have hs0 : (9223372036854775807 < j1.length + ps[k].1.length) = False := by rw [eq_iff_iff, iff_false]; omega
            have hs1 : (9223372036854775807 < j1.length + ps[k].1.length + 2) = False := by rw [eq_iff_iff, iff_false]; omega
            have hs3 : (9223372036854775807 < j1.length + ps[k].1.length + 2 + ps[k].2.length) = False := by rw [eq_iff_iff, iff_false]; omega
            have hs4 : (9223372036854775807 < j1.length + (ps[k].1.length + 2) + ps[k].2.length) = False := by rw [eq_iff_iff, iff_false]; omega
            have HJ1 := Lib.hid hj1
            clear hj1 hj2
            have HJS := Lib.hid (HJS.out.trans (congrArg (· ++ stText ps[k]) HJ1.out))
            go_quiet (fail)
            go_wp2
            go_roundw
            case rel => exact ⟨k + 1, by omega, by go_num, by rw [HS2.out, HJS.out]; simp [stText], by intro _; exact h6, allp_yes HALL.out hlt HST.out, below_drewN HB2.out _⟩
            case measure => simp [intOf]; omega
        · go_wp2
          go_ret
          have HD : decide (ps.length ≤ 6) = false := decide_eq_false h6
          rw [T6.out, HD, Bool.false_and]
          exact ⟨rfl, HB2.out⟩
    · have hkn : k = ps.length := by omega
      subst hkn
      have HE2 : Hid (stylesText ps = Lib.join (stParts ps ps.length) semi) := by
        show _ = _
        rw [T6.out, ← allp_end HALL.out hlt, Bool.and_true]
        rcases Nat.eq_zero_or_pos ps.length with h | h
        · have : ps = [] := List.eq_nil_of_length_eq_zero h
          subst this
          rfl
        · rw [decide_eq_true (HPOS.out h)]; rfl
      go_wp2
      go_ret
      rw [HE2.out]
      exact ⟨rfl, hb⟩
end Go.Proofs.YtaofgcdpmeeimaaDoor
