/- Rows of cells: ReadRow of impl and of spec: walks. -/
import Derived.Test.YtaofgcdpmeeimaaDoorRow
import Derived.Test.YtaofgcdpmeeimaaDoorReadRowP
import Derived.Test.YtaofgcdpmeeimaaDoorBytes
import Derived.Test.YtaofgcdpmeeimaaDoorStrS
import Derived.Deep.QuietTactic
import Derived.BigQuiet
import Derived.RegionTactic
import Derived.BigRegion
namespace Go.Proofs.YtaofgcdpmeeimaaDoor
open Go.RowKit

theorem rcq_len : ∀ l : Tx, (rcq l).1.length ≤ l.length ∧ (rcq l).2.length ≤ l.length
  | [] => by simp [rcq]
  | [b] => by unfold rcq; split <;> simp
  | b :: d :: u => by
    have h1 := rcq_len u
    have h2 := rcq_len (d :: u)
    unfold rcq
    split
    · split
      · simp; omega
      · simp
    · simp at h2 ⊢; omega
theorem readCell_len (s : Tx) : (readCell s).1.length ≤ s.length ∧ (readCell s).2.length ≤ s.length := by
  unfold readCell
  split
  · have := rcq_len s.tail
    have h : s.tail.length ≤ s.length := by rw [List.length_tail]; omega
    omega
  · rw [List.length_take, List.length_drop]; omega
theorem Hm.grown {w w' : World} {row : Option Nat} (h : Hm w) (hg : w.grownBy w' row) (hr : row ≠ some 0) : Hm w' := by
  have hp := h.pos
  obtain ⟨m, h⟩ := h
  exact ⟨m, (hg.cell_far ⟨0, 0, none⟩ hp (Ne.symm hr)).trans h⟩
theorem head_drop (l : Tx) (k : Nat) (h : k < l.length) : (l.drop k).head? = some l[k] := by rw [drop_cons l k h]; rfl

set_option maxRecDepth 20000 in
set_option maxHeartbeats 1000000 in
theorem impl_readCell (l : Tx) (hl : l.length ≤ 1048576) (w : World) :
    Calls Tryd.prog 79 #[.string ⟨l.toArray⟩] w fun e w' => e = .returned (.tuple #[.string ⟨(readCell l).1.toArray⟩, .string ⟨(readCell l).2.toArray⟩]) ∧ Below w.heap.size w w' := by
  by_cases hq : l.head? = some 34
  · have hne : l ≠ [] := by rintro rfl; simp at hq
    have h0 : 0 < l.length := List.length_pos_iff.2 hne
    have hl0 : l[0] = 34 := by
      cases l with
      | nil => simp at h0
      | cons b t => simpa using hq
    have hbe : (l == ([] : Tx)) = false := by simpa using hne
    have hz : (l[0].toNat : Int) = 34 := by rw [hl0]; rfl
    have hz2 : ((l[0].toNat : Int) != 34) = false := by rw [hz]; rfl
    have HR : Hid (readCell l = ((rcq (l.drop 1)).1, (rcq (l.drop 1)).2)) := by show _ = _; rw [readCell, hq, List.drop_one]; rfl
    clear hq hl0 hz hne
    go_enter Tryd.func79, Tryd.ntmps79
    go_wp2
    go_loopw [5, 6] (fun v i wr => ∃ (k g c : Nat) (acc : Tx), 1 ≤ k ∧ k ≤ l.length ∧ i = .int .i64 k ∧ acc.length ≤ k ∧ rcq (l.drop 1) = (acc ++ (rcq (l.drop k)).1, (rcq (l.drop k)).2) ∧ v = .slice (some ⟨g, 0, none⟩) acc.length c ∧ OwnB wr w.heap.size (some ⟨g, 0, none⟩) c acc ∧ Below w.heap.size w wr) (fun _ i _ => l.length - (intOf i).toNat)
    case atStart => exact ⟨1, _, 0, [], Nat.le_refl _, h0, rfl, by simp, rfl, rfl, ownB_empty w w.heap.size (Nat.le_refl _), (Below.refl _ _).alloc (Nat.le_refl _) _⟩
    case round =>
      obtain ⟨k, g, c, acc, hk1, hk, rfl, hacc, hrc, rfl, ho, hb⟩ := hrel
      have HB := Lib.hid hb
      have HO := Lib.hid ho
      have HRC := Lib.hid hrc
      clear ho hrc
      by_cases hlt : k < l.length
      · have hsz2 := hb.size
        have hD := drop_cons l k hlt
        by_cases h34 : (l[k].toNat : Int) = 34
        · have hb34 : l[k] = 34 := UInt8.toNat_inj.1 (by have : ((34 : UInt8).toNat) = 34 := rfl; omega)
          rw [hb34] at hD
          have hw1 : IntKind.i64.wrap ((k : Int) + 1) = (k : Int) + 1 := IntWalk.i64_in _ (by omega)
          by_cases hlt2 : k + 1 < l.length
          · by_cases h342 : (l[k + 1].toNat : Int) = 34
            · have hb342 : l[k + 1] = 34 := UInt8.toNat_inj.1 (by have : ((34 : UInt8).toNat) = 34 := rfl; omega)
              have hD2 := drop_cons l (k + 1) hlt2
              rw [hb342] at hD2
              have HE : Hid (rcq (l.drop k) = (34 :: (rcq (l.drop (k + 2))).1, (rcq (l.drop (k + 2))).2)) := by show _ = _; rw [hD, hD2, rcq_two]
              clear hb hD hD2 hb34 hb342
              go_wp2_with (at_builtin; refine app_byte rfl _ _ rfl w.heap.size (some ⟨g, 0, none⟩) c _ acc 34 _ rfl rfl rfl (ownB_keep HO.out (Below.refl _ _)) _ rfl ?_ ?_ ?_ ?_; (focus (first | rfl | simp)); (focus omega); (focus omega); intro g2 c2 w3 ho3 hg3)
              go_roundw
              case rel => exact ⟨k + 2, g2, c2, acc ++ [34], by omega, by omega, by go_num, by simp; omega, by rw [HRC.out, HE.out]; simp, by simp, ho3, HB.out.trans (grown_to_below hg3 (by omega) (ownB_row HO.out))⟩
              case measure => simp [intOf]; omega
            · have hne2 : (l.drop (k + 1)).head? ≠ some 34 := by
                rw [head_drop l (k + 1) hlt2]; intro e; have e2 : l[k + 1] = 34 := by simpa using e
                rw [e2] at h342; exact h342 rfl
              have HE : Hid (rcq (l.drop k) = ([], l.drop (k + 1))) := by show _ = _; rw [hD, rcq_end _ hne2]
              have hcv := bytes_text HO.out rfl
              clear hb hD hb34 hne2
              have hcv1 : (convert 22 9 (.slice (some ⟨g, 0, none⟩) acc.length c)).run Tryd.prog wr.drew = .ok (.string ⟨acc.toArray⟩) wr.drew := bytes_text (ownB_keep HO.out (below_drewN (Below.refl _ wr) 1)) rfl
              go_wp2_with (fail)
              go_region
              go_wp2
              go_ret2
              rw [HR.out, HRC.out, HE.out]
              exact ⟨by simp, below_drewN HB.out 1⟩
          · have hne2 : l.drop (k + 1) = [] := drop_nil l (k + 1) (by omega)
            have HE : Hid (rcq (l.drop k) = ([], l.drop (k + 1))) := by show _ = _; rw [hD, rcq_end _ (by rw [hne2]; simp)]
            have hcv := bytes_text HO.out rfl
            clear hb hD hb34 hne2
            have hcv1 : (convert 22 9 (.slice (some ⟨g, 0, none⟩) acc.length c)).run Tryd.prog wr.drew = .ok (.string ⟨acc.toArray⟩) wr.drew := bytes_text (ownB_keep HO.out (below_drewN (Below.refl _ wr) 1)) rfl
            go_wp2_with (fail)
            go_region
            go_wp2
            go_ret2
            rw [HR.out, HRC.out, HE.out]
            exact ⟨by simp, below_drewN HB.out 1⟩
        · have hb34 : (l[k] == 34) = false := by rw [beq_eq_false_iff_ne]; intro e; rw [e] at h34; exact h34 rfl
          have HE : Hid (rcq (l.drop k) = (l[k] :: (rcq (l.drop (k + 1))).1, (rcq (l.drop (k + 1))).2)) := by show _ = _; rw [hD, rcq_no _ hb34]
          have b1 : ((l[k].toNat : Int) != 34) = true := by simp [h34]
          clear hb hD hb34
          go_wp2_with (at_builtin; refine app_byte rfl _ _ rfl w.heap.size (some ⟨g, 0, none⟩) c _ acc l[k] _ rfl rfl rfl (ownB_keep HO.out (Below.refl _ _)) _ rfl ?_ ?_ ?_ ?_; (focus (first | rfl | simp)); (focus omega); (focus omega); intro g2 c2 w3 ho3 hg3)
          go_roundw
          case rel => exact ⟨k + 1, g2, c2, acc ++ [l[k]], by omega, by omega, by go_num, by simp; omega, by rw [HRC.out, HE.out]; simp, by simp, ho3, HB.out.trans (grown_to_below hg3 (by omega) (ownB_row HO.out))⟩
          case measure => simp [intOf]; omega
      · have HE : Hid (rcq (l.drop k) = ([], [])) := by show _ = _; rw [drop_nil l k (by omega)]; rfl
        have hcv := bytes_text HO.out rfl
        clear hb
        go_wp2
        go_ret2
        rw [HR.out, HRC.out, HE.out]
        simp [HB.out]
  · have HR : Hid (readCell l = (l.take (at_ 44 l), l.drop (at_ 44 l))) := by show _ = _; rw [readCell]; simp [hq]
    have hx : Lib.indexByte l 44 = if at_ 44 l < l.length then (at_ 44 l : Int) else -1 := index_at 44 l
    by_cases ha : at_ 44 l < l.length
    · have HX : Hid (∀ w, Calls Tryd.prog 106 #[.string ⟨l.toArray⟩, .int .u8 44] w fun e w' => e = .returned (.int .i64 (at_ 44 l : Int)) ∧ w = w') := fun w => (Tryd.strings_IndexByte ⟨l.toArray⟩ 44 w).mono fun _ _ ⟨a, b⟩ => ⟨by rw [a]; exact ret_int (hx.trans (if_pos ha)), b.symm⟩
      clear hx
      generalize at_ 44 l = i at *
      have h0 : (0 : Int) ≤ (i : Int) := by omega
      have h1 : (i : Int) ≤ (l.length : Int) := by omega
      have hne : l ≠ [] := by rintro rfl; simp at ha
      have hbe : (l == ([] : Tx)) = false := by simpa using hne
      have hp : 0 < l.length := by omega
      have hz2 : ((l[0].toNat : Int) != 34) = true := by
        cases l with
        | nil => simp at hp
        | cons b t =>
          have h34 : b ≠ 34 := by simpa using hq
          simp
          intro e
          exact h34 (UInt8.toNat_inj.1 (by have : ((34 : UInt8).toNat) = 34 := rfl; omega))
      clear hq hne
      go_enter Tryd.func79, Tryd.ntmps79
      go_wp2_with (go_at_call 106; refine (HX.out _).mono ?_; rintro e w' ⟨rfl, rfl⟩)
      go_quiet (fail)
      go_wp2
      go_ret2
      rw [HR.out]
      exact ⟨rfl, below_drewN (Below.refl _ _) _⟩
    · have HX : Hid (∀ w, Calls Tryd.prog 106 #[.string ⟨l.toArray⟩, .int .u8 44] w fun e w' => e = .returned (.int .i64 (-1)) ∧ w = w') := fun w => (Tryd.strings_IndexByte ⟨l.toArray⟩ 44 w).mono fun _ _ ⟨a, b⟩ => ⟨by rw [a]; exact ret_int (hx.trans (if_neg ha)), b.symm⟩
      have hae : at_ 44 l = l.length := by have := at_le 44 l; omega
      have HR2 : Hid (readCell l = (l, [])) := by show _ = _; rw [HR.out, hae]; simp
      clear hx ha hae
      cases l with
      | nil =>
        clear hq
        go_enter Tryd.func79, Tryd.ntmps79
        go_wp2_with (go_at_call 106; refine (HX.out _).mono ?_; rintro e w' ⟨rfl, rfl⟩)
        go_ret2
        rw [HR2.out]
        exact ⟨rfl, Below.refl _ _⟩
      | cons b t =>
        have h34 : b ≠ 34 := by simpa using hq
        have hz2 : ((b.toNat : Int) != 34) = true := by
          simp
          intro e
          exact h34 (UInt8.toNat_inj.1 (by have : ((34 : UInt8).toNat) = 34 := rfl; omega))
        clear hq h34
        go_enter Tryd.func79, Tryd.ntmps79
        go_wp2_with (go_at_call 106; refine (HX.out _).mono ?_; rintro e w' ⟨rfl, rfl⟩)
        go_ret2
        rw [HR2.out]
        exact ⟨rfl, Below.refl _ _⟩
def lenOf : Value → Nat
  | .slice _ n _ => n
  | _ => 0
theorem parseI_step (n : Nat) (acc : List Tx) (rest : Tx) : parseI (n + 1) acc rest = if (readCell rest).2.head? == some 44 && decide (acc.length + 1 ≤ 6) then parseI n (acc ++ [(readCell rest).1]) (readCell rest).2.tail else acc ++ [(readCell rest).1] := rfl

set_option maxRecDepth 20000 in
set_option maxHeartbeats 1000000 in
theorem impl_ReadRow (s : Tx) (_ : s.length ≤ maxLen) (hsz : s.length ≤ 1048576) (w : World) (hm : Hm w) :
    Calls Tryd.prog 40 #[.string ⟨s.toArray⟩] w (NewSB w (readRow s)) := by
  have HM0 := Lib.hid hm
  clear hm
  go_enter Tryd.func40, Tryd.ntmps40
  go_wp2
  go_loopw [4, 5] (fun v r wr => ∃ (acc : List Tx) (A' : Option Addr) (c' : Nat) (rest : Tx), acc.length ≤ 6 ∧ rest.length ≤ s.length ∧ r = .string ⟨rest.toArray⟩ ∧ v = .slice A' acc.length c' ∧ OwnS wr w.heap.size A' c' acc ∧ FitS acc ∧ parseI 7 [] s = parseI (7 - acc.length) acc rest ∧ Below w.heap.size w wr ∧ Hm wr) (fun v _ _ => 7 - lenOf v)
  case atStart => exact ⟨[], _, 0, s, by simp, Nat.le_refl _, rfl, rfl, ownS_empty w w.heap.size (Nat.le_refl _), (fun x hx => by simp at hx), rfl, (Below.refl _ _).alloc (Nat.le_refl _) _, HM0.out.below ((Below.refl _ _).alloc (Nat.le_refl _) _)⟩
  case round =>
    obtain ⟨acc, A', c', rest, hacc, hrest, rfl, rfl, ho, hfa, hpi, hb, hm⟩ := hrel
    have HB := Lib.hid hb
    have HO := Lib.hid ho
    have HM := Lib.hid hm
    have HC := Lib.hid (fun w => impl_readCell rest (by omega) w)
    have hrl := readCell_len rest
    obtain ⟨m, hm7⟩ : ∃ m, 7 - acc.length = m + 1 := ⟨6 - acc.length, by omega⟩
    rw [hm7, parseI_step m acc rest] at hpi
    have HPI := Lib.hid hpi
    have hsz2 := hb.size
    obtain ⟨⟨x, more⟩, hxm⟩ : ∃ p, readCell rest = p := ⟨_, rfl⟩
    rw [hxm] at HC hrl HPI
    have HFA : Hid (FitS (acc ++ [x])) := by
      intro y hy
      rcases List.mem_append.1 hy with hy | hy
      · exact hfa y hy
      · simp at hy
        subst hy
        unfold maxLen
        simp only at hrl
        omega
    clear hb ho hm hfa hpi hxm
    dsimp only at hrl HC HPI
    go_wp2_with fail
    refine (HC.out _).mono ?_
    rintro e w2 ⟨rfl, hb2⟩
    have HB2 := Lib.hid (HB.out.trans (hb2.mono hsz2))
    have HM2 := Lib.hid (HM.out.below hb2)
    have HO2 := Lib.hid (ownS_keep HO.out hb2)
    have hsz3 := HB2.out.size
    clear hb2
    have HAL : Hid ((acc ++ [x]).length = acc.length + 1) := by show _ = _; simp
    have HM7 : Hid (7 - (acc ++ [x]).length = m) := by show _ = _; rw [HAL.out]; omega
    cases more with
    | nil =>
      have HP : Hid (parseI 7 [] s = acc ++ [x]) := by show _ = _; rw [HPI.out]; rfl
      clear hm7
      by_cases he : s = []
      · subst he
        go_wp2_with (at_builtin; refine app_str rfl _ _ rfl w.heap.size A' c' _ acc x rfl rfl (ownS_keep HO2.out (Below.refl _ _)) _ rfl ?_ ?_ ?_ ?_; (focus (first | rfl | simp)); (focus omega); (focus omega); intro A5 c5 w4 ho5 hg5)
        have HBB : Hid (Below w.heap.size w w4) := HB2.out.trans (grown_to_below hg5 (by omega) (ownS_row HO2.out))
        have HM4 : Hid (Hm w4) := HM2.out.grown hg5 (fun h => by have := ownS_row HO2.out 0 h; have := HM0.out.pos; omega)
        have HO5 := Lib.hid ho5
        clear ho5 hg5
        go_ret2
        exact ⟨none, 0, rfl, ownS_nil _ _, HBB.out⟩
      · have hbe : (s == ([] : Tx)) = false := by simpa using he
        by_cases hg : rowText (acc ++ [x]) = s
        · have HRR : Hid (readRow s = (acc ++ [x], true)) := by show _ = _; rw [readRow_impl, HP.out, if_pos ⟨he, hg⟩]
          have hb1 : (rowText (acc ++ [x]) == s) = true := by simp [hg]
          clear he hg
          go_wp2_with (at_builtin; refine app_str rfl _ _ rfl w.heap.size A' c' _ acc x rfl rfl (ownS_keep HO2.out (Below.refl _ _)) _ rfl ?_ ?_ ?_ ?_; (focus (first | rfl | simp)); (focus omega); (focus omega); intro A5 c5 w4 ho5 hg5)
          have HBB : Hid (Below w.heap.size w w4) := HB2.out.trans (grown_to_below hg5 (by omega) (ownS_row HO2.out))
          have HM4 : Hid (Hm w4) := HM2.out.grown hg5 (fun h => by have := ownS_row HO2.out 0 h; have := HM0.out.pos; omega)
          have HO5 := Lib.hid ho5
          clear ho5 hg5
          have HRT := impl_RowText (acc ++ [x]) A5 c5 w4 (ownS_rd HO5.out) HFA.out (by rw [HAL.out]; unfold maxLen; omega) HM4.out
          rw [HAL.out] at HRT
          refine HRT.mono ?_
          rintro e w5 ⟨rfl, hb5⟩
          clear HRT
          have HBC := Lib.hid (HBB.out.trans (hb5.mono HBB.out.size))
          have HO6 := Lib.hid (ownS_keep HO5.out hb5)
          clear hb5
          go_wp2
          go_ret2
          rw [HRR.out]
          exact ⟨A5, c5, by simp, HO6.out, HBC.out⟩
        · have HRR : Hid (readRow s = ([], false)) := by show _ = _; rw [readRow_impl, HP.out, if_neg (fun h => hg h.2)]
          have hb1 : (rowText (acc ++ [x]) == s) = false := by simp [hg]
          clear he hg
          go_wp2_with (at_builtin; refine app_str rfl _ _ rfl w.heap.size A' c' _ acc x rfl rfl (ownS_keep HO2.out (Below.refl _ _)) _ rfl ?_ ?_ ?_ ?_; (focus (first | rfl | simp)); (focus omega); (focus omega); intro A5 c5 w4 ho5 hg5)
          have HBB : Hid (Below w.heap.size w w4) := HB2.out.trans (grown_to_below hg5 (by omega) (ownS_row HO2.out))
          have HM4 : Hid (Hm w4) := HM2.out.grown hg5 (fun h => by have := ownS_row HO2.out 0 h; have := HM0.out.pos; omega)
          have HO5 := Lib.hid ho5
          clear ho5 hg5
          have HRT := impl_RowText (acc ++ [x]) A5 c5 w4 (ownS_rd HO5.out) HFA.out (by rw [HAL.out]; unfold maxLen; omega) HM4.out
          rw [HAL.out] at HRT
          refine HRT.mono ?_
          rintro e w5 ⟨rfl, hb5⟩
          clear HRT
          have HBC := Lib.hid (HBB.out.trans (hb5.mono HBB.out.size))
          have HO6 := Lib.hid (ownS_keep HO5.out hb5)
          clear hb5
          go_wp2
          go_ret2
          rw [HRR.out]
          exact ⟨none, 0, rfl, ownS_nil _ _, HBC.out⟩
    | cons b t =>
      by_cases hb44 : (b.toNat : Int) = 44
      · have e44 : b = 44 := UInt8.toNat_inj.1 (by have : ((44 : UInt8).toNat) = 44 := rfl; omega)
        subst e44
        clear hb44
        by_cases h6 : acc.length + 1 ≤ 6
        · have HP : Hid (parseI 7 [] s = parseI (7 - (acc ++ [x]).length) (acc ++ [x]) t) := by
            show _ = _
            rw [HPI.out, HM7.out]; simp [h6]
          have htl : t.length ≤ s.length := by have := hrl.2; simp at this; omega
          clear hm7 hrl
          go_wp2_with (at_builtin; refine app_str rfl _ _ rfl w.heap.size A' c' _ acc x rfl rfl (ownS_keep HO2.out (Below.refl _ _)) _ rfl ?_ ?_ ?_ ?_; (focus (first | rfl | simp)); (focus omega); (focus omega); intro A5 c5 w4 ho5 hg5)
          have HBB : Hid (Below w.heap.size w w4) := HB2.out.trans (grown_to_below hg5 (by omega) (ownS_row HO2.out))
          have HM4 : Hid (Hm w4) := HM2.out.grown hg5 (fun h => by have := ownS_row HO2.out 0 h; have := HM0.out.pos; omega)
          have HO5 := Lib.hid ho5
          clear ho5 hg5
          go_roundw
          case rel => exact ⟨acc ++ [x], A5, c5, t, by simp; omega, htl, by simp, by simp, HO5.out, HFA.out, HP.out, HBB.out, HM4.out⟩
          case measure => simp only [lenOf]; omega
        · have HP : Hid (parseI 7 [] s = acc ++ [x]) := by
            show _ = _
            rw [HPI.out]; simp [h6]
          clear hm7 hrl
          by_cases he : s = []
          · subst he
            go_wp2_with (at_builtin; refine app_str rfl _ _ rfl w.heap.size A' c' _ acc x rfl rfl (ownS_keep HO2.out (Below.refl _ _)) _ rfl ?_ ?_ ?_ ?_; (focus (first | rfl | simp)); (focus omega); (focus omega); intro A5 c5 w4 ho5 hg5)
            have HBB : Hid (Below w.heap.size w w4) := HB2.out.trans (grown_to_below hg5 (by omega) (ownS_row HO2.out))
            have HM4 : Hid (Hm w4) := HM2.out.grown hg5 (fun h => by have := ownS_row HO2.out 0 h; have := HM0.out.pos; omega)
            have HO5 := Lib.hid ho5
            clear ho5 hg5
            go_ret2
            exact ⟨none, 0, rfl, ownS_nil _ _, HBB.out⟩
          · have hbe : (s == ([] : Tx)) = false := by simpa using he
            by_cases hg : rowText (acc ++ [x]) = s
            · have HRR : Hid (readRow s = (acc ++ [x], true)) := by show _ = _; rw [readRow_impl, HP.out, if_pos ⟨he, hg⟩]
              have hb1 : (rowText (acc ++ [x]) == s) = true := by simp [hg]
              clear he hg
              go_wp2_with (at_builtin; refine app_str rfl _ _ rfl w.heap.size A' c' _ acc x rfl rfl (ownS_keep HO2.out (Below.refl _ _)) _ rfl ?_ ?_ ?_ ?_; (focus (first | rfl | simp)); (focus omega); (focus omega); intro A5 c5 w4 ho5 hg5)
              have HBB : Hid (Below w.heap.size w w4) := HB2.out.trans (grown_to_below hg5 (by omega) (ownS_row HO2.out))
              have HM4 : Hid (Hm w4) := HM2.out.grown hg5 (fun h => by have := ownS_row HO2.out 0 h; have := HM0.out.pos; omega)
              have HO5 := Lib.hid ho5
              clear ho5 hg5
              have HRT := impl_RowText (acc ++ [x]) A5 c5 w4 (ownS_rd HO5.out) HFA.out (by rw [HAL.out]; unfold maxLen; omega) HM4.out
              rw [HAL.out] at HRT
              refine HRT.mono ?_
              rintro e w5 ⟨rfl, hb5⟩
              clear HRT
              have HBC := Lib.hid (HBB.out.trans (hb5.mono HBB.out.size))
              have HO6 := Lib.hid (ownS_keep HO5.out hb5)
              clear hb5
              go_wp2
              go_ret2
              rw [HRR.out]
              exact ⟨A5, c5, by simp, HO6.out, HBC.out⟩
            · have HRR : Hid (readRow s = ([], false)) := by show _ = _; rw [readRow_impl, HP.out, if_neg (fun h => hg h.2)]
              have hb1 : (rowText (acc ++ [x]) == s) = false := by simp [hg]
              clear he hg
              go_wp2_with (at_builtin; refine app_str rfl _ _ rfl w.heap.size A' c' _ acc x rfl rfl (ownS_keep HO2.out (Below.refl _ _)) _ rfl ?_ ?_ ?_ ?_; (focus (first | rfl | simp)); (focus omega); (focus omega); intro A5 c5 w4 ho5 hg5)
              have HBB : Hid (Below w.heap.size w w4) := HB2.out.trans (grown_to_below hg5 (by omega) (ownS_row HO2.out))
              have HM4 : Hid (Hm w4) := HM2.out.grown hg5 (fun h => by have := ownS_row HO2.out 0 h; have := HM0.out.pos; omega)
              have HO5 := Lib.hid ho5
              clear ho5 hg5
              have HRT := impl_RowText (acc ++ [x]) A5 c5 w4 (ownS_rd HO5.out) HFA.out (by rw [HAL.out]; unfold maxLen; omega) HM4.out
              rw [HAL.out] at HRT
              refine HRT.mono ?_
              rintro e w5 ⟨rfl, hb5⟩
              clear HRT
              have HBC := Lib.hid (HBB.out.trans (hb5.mono HBB.out.size))
              have HO6 := Lib.hid (ownS_keep HO5.out hb5)
              clear hb5
              go_wp2
              go_ret2
              rw [HRR.out]
              exact ⟨none, 0, rfl, ownS_nil _ _, HBC.out⟩
      · have HP : Hid (parseI 7 [] s = acc ++ [x]) := by
          show _ = _
          have hb : b ≠ 44 := by rintro rfl; exact hb44 rfl
          rw [HPI.out]; simp [hb]
        have hz : ((b.toNat : Int) != 44) = true := by simp [hb44]
        clear hm7 hb44 hrl
        by_cases he : s = []
        · subst he
          go_wp2_with (at_builtin; refine app_str rfl _ _ rfl w.heap.size A' c' _ acc x rfl rfl (ownS_keep HO2.out (Below.refl _ _)) _ rfl ?_ ?_ ?_ ?_; (focus (first | rfl | simp)); (focus omega); (focus omega); intro A5 c5 w4 ho5 hg5)
          have HBB : Hid (Below w.heap.size w w4) := HB2.out.trans (grown_to_below hg5 (by omega) (ownS_row HO2.out))
          have HM4 : Hid (Hm w4) := HM2.out.grown hg5 (fun h => by have := ownS_row HO2.out 0 h; have := HM0.out.pos; omega)
          have HO5 := Lib.hid ho5
          clear ho5 hg5
          go_ret2
          exact ⟨none, 0, rfl, ownS_nil _ _, HBB.out⟩
        · have hbe : (s == ([] : Tx)) = false := by simpa using he
          by_cases hg : rowText (acc ++ [x]) = s
          · have HRR : Hid (readRow s = (acc ++ [x], true)) := by show _ = _; rw [readRow_impl, HP.out, if_pos ⟨he, hg⟩]
            have hb1 : (rowText (acc ++ [x]) == s) = true := by simp [hg]
            clear he hg
            go_wp2_with (at_builtin; refine app_str rfl _ _ rfl w.heap.size A' c' _ acc x rfl rfl (ownS_keep HO2.out (Below.refl _ _)) _ rfl ?_ ?_ ?_ ?_; (focus (first | rfl | simp)); (focus omega); (focus omega); intro A5 c5 w4 ho5 hg5)
            have HBB : Hid (Below w.heap.size w w4) := HB2.out.trans (grown_to_below hg5 (by omega) (ownS_row HO2.out))
            have HM4 : Hid (Hm w4) := HM2.out.grown hg5 (fun h => by have := ownS_row HO2.out 0 h; have := HM0.out.pos; omega)
            have HO5 := Lib.hid ho5
            clear ho5 hg5
            have HRT := impl_RowText (acc ++ [x]) A5 c5 w4 (ownS_rd HO5.out) HFA.out (by rw [HAL.out]; unfold maxLen; omega) HM4.out
            rw [HAL.out] at HRT
            refine HRT.mono ?_
            rintro e w5 ⟨rfl, hb5⟩
            clear HRT
            have HBC := Lib.hid (HBB.out.trans (hb5.mono HBB.out.size))
            have HO6 := Lib.hid (ownS_keep HO5.out hb5)
            clear hb5
            go_wp2
            go_ret2
            rw [HRR.out]
            exact ⟨A5, c5, by simp, HO6.out, HBC.out⟩
          · have HRR : Hid (readRow s = ([], false)) := by show _ = _; rw [readRow_impl, HP.out, if_neg (fun h => hg h.2)]
            have hb1 : (rowText (acc ++ [x]) == s) = false := by simp [hg]
            clear he hg
            go_wp2_with (at_builtin; refine app_str rfl _ _ rfl w.heap.size A' c' _ acc x rfl rfl (ownS_keep HO2.out (Below.refl _ _)) _ rfl ?_ ?_ ?_ ?_; (focus (first | rfl | simp)); (focus omega); (focus omega); intro A5 c5 w4 ho5 hg5)
            have HBB : Hid (Below w.heap.size w w4) := HB2.out.trans (grown_to_below hg5 (by omega) (ownS_row HO2.out))
            have HM4 : Hid (Hm w4) := HM2.out.grown hg5 (fun h => by have := ownS_row HO2.out 0 h; have := HM0.out.pos; omega)
            have HO5 := Lib.hid ho5
            clear ho5 hg5
            have HRT := impl_RowText (acc ++ [x]) A5 c5 w4 (ownS_rd HO5.out) HFA.out (by rw [HAL.out]; unfold maxLen; omega) HM4.out
            rw [HAL.out] at HRT
            refine HRT.mono ?_
            rintro e w5 ⟨rfl, hb5⟩
            clear HRT
            have HBC := Lib.hid (HBB.out.trans (hb5.mono HBB.out.size))
            have HO6 := Lib.hid (ownS_keep HO5.out hb5)
            clear hb5
            go_wp2
            go_ret2
            rw [HRR.out]
            exact ⟨none, 0, rfl, ownS_nil _ _, HBC.out⟩
theorem ownS_one (w : World) (base : Nat) (h : base ≤ w.heap.size) : OwnS (w.alloc (.cells #[sv []] 9)) base (some ⟨w.heap.size, 0, none⟩) 1 ([] ++ [[]]) := World.ownsRow_lit w #[sv []] 1 h (by simp [maxLen]) rfl
theorem ownS_last {w : World} {base c g : Nat} {d : List Tx} {x : Tx} (h : OwnS w base (some ⟨g, 0, none⟩) c (d ++ [x])) : w.cell? ⟨g, d.length, none⟩ = some (sv x) ∧ w.frozen? ⟨g, d.length, none⟩ = false := by
  unfold OwnS at h
  rw [List.map_append] at h
  exact own_one_cell h (by simp)
theorem ownS_put {w : World} {base c g : Nat} {d : List Tx} {x : Tx} (h : OwnS w base (some ⟨g, 0, none⟩) c (d ++ [x])) (y : Tx) : OwnS (w.setCell ⟨g, d.length, none⟩ (sv y)) base (some ⟨g, 0, none⟩) c (d ++ [y]) := by
  unfold OwnS at h ⊢
  rw [List.map_append] at h ⊢
  have := own_one_set (u0 := sv y) h (k := d.length) (by simp)
  simpa using this
theorem fitS_snoc {d : List Tx} {x : Tx} (h : FitS d) (hx : x.length ≤ 1048576) : FitS (d ++ [x]) := by
  intro y hy
  rcases List.mem_append.1 hy with hy | hy
  · exact h y hy
  · simp at hy
    subst hy
    unfold maxLen
    omega

set_option maxRecDepth 20000 in
set_option maxHeartbeats 2000000 in
theorem spec_ReadRow (s : Tx) (_ : s.length ≤ maxLen) (hsz : s.length ≤ 1048576) (w : World) :
    Calls Tryd.prog 42 #[.string ⟨s.toArray⟩] w (NewSB w (readRow s)) := by
  go_enter Tryd.func42, Tryd.ntmps42
  go_wp2
  go_loopw [4, 5, 6] (fun v q i wr => ∃ (k : Nat) (qt : Bool) (d : List Tx) (x : Tx) (g cap : Nat), k ≤ s.length ∧ d.length ≤ k ∧ x.length ≤ k ∧ FitS d ∧ i = .int .i64 k ∧ q = .bool qt ∧ v = .slice (some ⟨g, 0, none⟩) (d.length + 1) cap ∧ OwnS wr w.heap.size (some ⟨g, 0, none⟩) cap (d ++ [x]) ∧ parseS s false [] [] = parseS (s.drop k) qt d x ∧ Below w.heap.size w wr) (fun _ _ i _ => s.length - (intOf i).toNat)
  case atStart => exact ⟨0, false, [], [], _, 1, Nat.zero_le _, by simp, by simp, (fun x hx => by simp at hx), rfl, rfl, rfl, ownS_one w w.heap.size (Nat.le_refl _), rfl, (Below.refl _ _).alloc (Nat.le_refl _) _⟩
  case round =>
    obtain ⟨k, qt, d, x, g, cap, hk, hdk, hxk, hf, rfl, rfl, rfl, ho, hp, hb⟩ := hrel
    have HB := Lib.hid hb
    have HO := Lib.hid ho
    have HP := Lib.hid hp
    have HF := Lib.hid hf
    clear hp hf
    by_cases hlt : k < s.length
    · obtain ⟨hc, hfz⟩ := ownS_last ho
      have hsz2 := hb.size
      have hD := drop_cons s k hlt
      have HHD := Lib.hid (fun h => head_drop s (k + 1) h)
      have hw1 : IntKind.i64.wrap ((k : Int) + 1) = (k : Int) + 1 := IntWalk.i64_in _ (by omega)
      clear ho hb
      by_cases h34 : (s[k].toNat : Int) = 34
      · have e34 : s[k] = 34 := UInt8.toNat_inj.1 (by have : ((34 : UInt8).toNat) = 34 := rfl; omega)
        rw [e34] at hD
        clear e34
        cases qt with
        | false =>
          have HE : Hid (parseS (s.drop k) false d x = parseS (s.drop (k + 1)) true d x) := by show _ = _; rw [hD, parseS_q _ _ _ _ (.inl rfl)]; rfl
          clear hD
          go_wp2
          go_roundw
          case rel => exact ⟨k + 1, true, d, x, g, cap, by omega, by omega, by omega, HF.out, by go_num, rfl, rfl, HO.out, by rw [HP.out, HE.out], HB.out⟩
          case measure => simp [intOf]; omega
        | true =>
          by_cases hlt2 : k + 1 < s.length
          · by_cases h342 : (s[k + 1].toNat : Int) = 34
            · have e342 : s[k + 1] = 34 := UInt8.toNat_inj.1 (by have : ((34 : UInt8).toNat) = 34 := rfl; omega)
              have hD2 := drop_cons s (k + 1) hlt2
              rw [e342] at hD2
              have HE : Hid (parseS (s.drop k) true d x = parseS (s.drop (k + 2)) true d (x ++ [34])) := by show _ = _; rw [hD, hD2, parseS_two]
              clear hD hD2 e342
              go_wp2
              go_roundw
              case rel => exact ⟨k + 2, true, d, x ++ [34], g, cap, by omega, by omega, by simp; omega, HF.out, by go_num, rfl, rfl, ownS_put HO.out _, by rw [HP.out, HE.out], HB.out.setCell (ownS_row HO.out g rfl) _⟩
              case measure => simp [intOf]; omega
            · have hne2 : (s.drop (k + 1)).head? ≠ some 34 := by
                rw [head_drop s (k + 1) hlt2]; intro e; have e2 : s[k + 1] = 34 := by simpa using e
                rw [e2] at h342; exact h342 rfl
              have HE : Hid (parseS (s.drop k) true d x = parseS (s.drop (k + 1)) false d x) := by show _ = _; rw [hD, parseS_q _ _ _ _ (.inr hne2)]; rfl
              clear hD hne2
              go_wp2
              go_roundw
              case rel => exact ⟨k + 1, false, d, x, g, cap, by omega, by omega, by omega, HF.out, by go_num, rfl, rfl, HO.out, by rw [HP.out, HE.out], HB.out⟩
              case measure => simp [intOf]; omega
          · have hne2 : s.drop (k + 1) = [] := drop_nil s (k + 1) (by omega)
            have HE : Hid (parseS (s.drop k) true d x = parseS (s.drop (k + 1)) false d x) := by show _ = _; rw [hD, parseS_q _ _ _ _ (.inr (by rw [hne2]; simp))]; rfl
            clear hD hne2
            go_wp2
            go_roundw
            case rel => exact ⟨k + 1, false, d, x, g, cap, by omega, by omega, by omega, HF.out, by go_num, rfl, rfl, HO.out, by rw [HP.out, HE.out], HB.out⟩
            case measure => simp [intOf]; omega
      · have hb34 : (s[k] == 34) = false := by rw [beq_eq_false_iff_ne]; intro e; rw [e] at h34; exact h34 rfl
        have b34 : ((s[k].toNat : Int) == 34) = false := by simpa using h34
        by_cases h44 : (s[k].toNat : Int) = 44
        · have e44 : s[k] = 44 := UInt8.toNat_inj.1 (by have : ((44 : UInt8).toNat) = 44 := rfl; omega)
          cases qt with
          | false =>
            have HE : Hid (parseS (s.drop k) false d x = parseS (s.drop (k + 1)) false (d ++ [x]) []) := by show _ = _; rw [hD, e44, parseS_comma]
            clear hD e44 hb34
            go_wp2_with (at_builtin; refine app_str rfl _ _ rfl w.heap.size (some ⟨g, 0, none⟩) cap _ (d ++ [x]) [] rfl (by simp) (ownS_keep HO.out (Below.refl _ _)) _ rfl ?_ ?_ ?_ ?_; (focus (first | rfl | simp)); (focus (simp; omega)); (focus omega); intro A5 c5 w4 ho5 hg5)
            obtain ⟨g5, rfl, _, _⟩ := own_some ho5 (by simp)
            go_roundw
            case rel => exact ⟨k + 1, false, d ++ [x], [], g5, c5, by omega, by simp; omega, by simp, fitS_snoc HF.out (by omega), by go_num, rfl, by simp, ho5, by rw [HP.out, HE.out], HB.out.trans (grown_to_below hg5 (by omega) (ownS_row HO.out))⟩
            case measure => simp [intOf]; omega
          | true =>
            have hb44 : (s[k] == 44 && !true) = false := by simp
            clear e44
            have HE : Hid (parseS (s.drop k) true d x = parseS (s.drop (k + 1)) true d (x ++ [s[k]])) := by show _ = _; rw [hD, parseS_other _ _ _ _ hb34 hb44]
            have hw1 : IntKind.i64.wrap ((k : Int) + 1) = (k : Int) + 1 := IntWalk.i64_in _ (by omega)
            have hsl := slice_one s k hlt
            clear hD hb34 hb44
            go_wp2
            go_region
            go_wp2
            go_roundw
            case rel => exact ⟨k + 1, true, d, x ++ [s[k]], g, cap, by omega, by omega, by simp; omega, HF.out, by go_num, rfl, rfl, ownS_keep (ownS_put HO.out _) (below_drewN (Below.refl _ _) 1), by rw [HP.out, HE.out], below_drewN (HB.out.setCell (p := ⟨g, d.length, none⟩) (ownS_row HO.out g rfl) _) 1⟩
            case measure => simp [intOf]; omega
        · have hb44 : (s[k] == 44 && !qt) = false := by
            have : (s[k] == 44) = false := by rw [beq_eq_false_iff_ne]; intro e; rw [e] at h44; exact h44 rfl
            rw [this]; rfl
          have b44 : ((s[k].toNat : Int) == 44) = false := by simpa using h44
          have HE : Hid (parseS (s.drop k) qt d x = parseS (s.drop (k + 1)) qt d (x ++ [s[k]])) := by show _ = _; rw [hD, parseS_other _ _ _ _ hb34 hb44]
          have hw1 : IntKind.i64.wrap ((k : Int) + 1) = (k : Int) + 1 := IntWalk.i64_in _ (by omega)
          have hsl := slice_one s k hlt
          clear hD hb34 hb44
          go_wp2
          go_region
          go_wp2
          go_roundw
          case rel => exact ⟨k + 1, qt, d, x ++ [s[k]], g, cap, by omega, by omega, by simp; omega, HF.out, by go_num, rfl, rfl, ownS_keep (ownS_put HO.out _) (below_drewN (Below.refl _ _) 1), by rw [HP.out, HE.out], below_drewN (HB.out.setCell (p := ⟨g, d.length, none⟩) (ownS_row HO.out g rfl) _) 1⟩
          case measure => simp [intOf]; omega
    · have hkn : k = s.length := by omega
      subst hkn
      have HQ : Hid (parseS s false [] [] = d ++ [x]) := by show _ = _; rw [HP.out, drop_nil s _ (by omega)]; rfl
      have HRT := spec_RowText (d ++ [x]) (some ⟨g, 0, none⟩) cap wr (ownS_rd ho) (fitS_snoc HF.out (by omega)) (by simp; omega)
      rw [List.length_append, List.length_singleton] at HRT
      have HRT := Lib.hid HRT
      clear ho hb
      by_cases he : s = []
      · subst he
        go_wp2
        go_ret2
        exact ⟨_, 0, rfl, ownS_empty wr w.heap.size HB.out.size, HB.out.alloc HB.out.size _⟩
      · have hbe : (s == ([] : Tx)) = false := by simpa using he
        by_cases hg : rowText (d ++ [x]) = s
        · have HRR : Hid (readRow s = (d ++ [x], true)) := by show _ = _; rw [readRow, HQ.out, if_pos ⟨he, hg⟩]
          have hb1 : (rowText (d ++ [x]) == s) = true := by simp [hg]
          clear he hg
          go_wp2_with fail
          refine HRT.out.mono ?_
          rintro e w5 ⟨rfl, hb5⟩
          have HBC := Lib.hid (HB.out.trans (hb5.mono HB.out.size))
          have HO6 := Lib.hid (ownS_keep HO.out hb5)
          clear hb5
          go_wp2
          go_ret2
          rw [HRR.out]
          exact ⟨_, cap, by simp, HO6.out, HBC.out⟩
        · have HRR : Hid (readRow s = ([], false)) := by show _ = _; rw [readRow, HQ.out, if_neg (fun h => hg h.2)]
          have hb1 : (rowText (d ++ [x]) == s) = false := by simp [hg]
          clear he hg
          go_wp2_with fail
          refine HRT.out.mono ?_
          rintro e w5 ⟨rfl, hb5⟩
          have HBC := Lib.hid (HB.out.trans (hb5.mono HB.out.size))
          clear hb5
          go_wp2
          go_ret2
          rw [HRR.out]
          exact ⟨_, 0, rfl, ownS_empty w5 w.heap.size HBC.out.size, HBC.out.alloc HBC.out.size _⟩
end Go.Proofs.YtaofgcdpmeeimaaDoor
