/- readPairs of impl: a walk. -/
import Derived.Test.YtjlaelkdmgcniaaDoorSplit
import Derived.Test.YtjlaelkdmgcniaaDoorPartsP
import Derived.Test.YtjlaelkdmgcniaaDoorUnescI
import Derived.Test.YtjlaelkdmgcniaaDoorStrS
namespace Go.Proofs.YtjlaelkdmgcniaaDoor
open Go.RowKit

theorem part_len (p : Tx) : (partPr p).1.length ≤ p.length ∧ (partPr p).2.length ≤ p.length := by
  unfold partPr
  refine ⟨by simp; omega, ?_⟩
  cases h : unesc (p.drop (at_ 61 p + 1)) with
  | none => simp
  | some t => have := unesc_len h; simp at this ⊢; omega
theorem all_step_ {α : Type} {p : α → Bool} {l : List α} {k : Nat} {r : Bool} (h : (l.drop k).all p = r) (hk : k < l.length) : (p l[k] && (l.drop (k + 1)).all p) = r := by
  rw [← h, drop_cons l k hk, List.all_cons]

set_option maxRecDepth 100000 in
set_option maxHeartbeats 2000000 in
theorem impl_readPairs (s sign : Tx) (hs : sign ≠ []) (hl : s.length ≤ 1048576) (w : World) (hm : Hm w) :
    Calls Tryd.prog 39 #[.string ⟨s.toArray⟩, .string ⟨sign.toArray⟩] w (NewPB w (readPairs s sign)) := by
  by_cases h0 : s = []
  · subst h0
    have HR : Hid (readPairs [] sign = ([], true)) := by show _ = _; simp [readPairs]
    go_enter Tryd.func39, Tryd.ntmps39
    go_wp2
    go_ret2
    rw [HR.out]
    exact ⟨_, _, rfl, ownP_empty w _ (Nat.le_refl _), (Below.refl _ _).alloc (Nat.le_refl _) _⟩
  · have hbe : (s == ([] : Tx)) = false := by simpa using h0
    have HR : Hid (readPairs s sign = if (Lib.split s sign).all partOk then ((Lib.split s sign).map partPr, true) else ([], false)) := by show _ = _; rw [readPairs, if_neg h0]
    have hln := split_len s hs
    have HML := Lib.hid (split_mem s hs)
    have HS := Lib.hid (fun w hm => split_tx s sign hs hl w hm)
    have HM := Lib.hid hm
    clear h0 hm
    generalize Lib.split s sign = ps at *
    go_enter Tryd.func39, Tryd.ntmps39
    go_wp2_with fail
    refine (HS.out _ (HM.out.below ((Below.refl _ _).alloc (Nat.le_refl _) _))).mono ?_
    rintro e w2 ⟨A0, c0, rfl, ho, hb⟩
    have HB2 : Hid (Below w.heap.size w w2) := ((Below.refl _ _).alloc (Nat.le_refl _) _).trans (hb.mono (by simp))
    have HO2 : Hid (OwnP w2 w.heap.size (some ⟨w.heap.size, 0, none⟩) 0 []) := ownP_keep (ownP_empty w _ (Nat.le_refl _)) hb
    have HP2 := Lib.hid ho
    clear hb ho
    go_wp2
    go_loopw [6, 22] (fun v i wr => ∃ (k : Nat) (A : Option Addr) (c : Nat) (qs : List Pr), k ≤ ps.length ∧ i = .int .i64 (k : Int) ∧ v = .slice A qs.length c ∧ qs = (ps.take k).map partPr ∧ (ps.drop k).all partOk = ps.all partOk ∧ OwnP wr w.heap.size A c qs ∧ OwnS wr (w.heap.size + 1) A0 c0 ps ∧ Below w.heap.size w wr) (fun _ i _ => ps.length - (intOf i).toNat)
    case atStart => exact ⟨0, _, 0, [], Nat.zero_le _, rfl, rfl, by simp, rfl, HO2.out, by have := HP2.out; simpa using this, HB2.out⟩
    case round =>
      obtain ⟨k, A, c, qs, hk, rfl, rfl, hq, hall, ho, hp, hb⟩ := hrel
      have HO := Lib.hid ho
      have HP := Lib.hid hp
      have HB := Lib.hid hb
      have HALL := Lib.hid hall
      have HQ := Lib.hid hq
      have hqn : qs.length ≤ 1048577 := by rw [hq]; simp; omega
      have hszr := hb.size
      clear ho hp hb hall hq
      by_cases hlt : k < ps.length
      · obtain ⟨b, o, rfl, hab, hc0⟩ := (ownS_rd HP.out).str hlt
        have hx := HML.out _ (List.getElem_mem hlt)
        have HST := Lib.hid (all_step_ HALL.out hlt)
        have HQS : Hid ((ps.take (k + 1)).map partPr = qs ++ [partPr ps[k]]) := by show _ = _; rw [take_snoc ps k hlt, List.map_append, HQ.out]; rfl
        have HPL := Lib.hid (part_len ps[k])
        have HC := Lib.hid (fun w => strings_Cut ps[k] 61 (by omega) w)
        have HCELL := Lib.hid hc0
        obtain ⟨x, hxe⟩ : ∃ x, ps[k] = x := ⟨_, rfl⟩
        have hE1 : partOk x = (has 61 x && (unesc (x.drop (at_ 61 x + 1))).isSome) := rfl
        have hE2 : partPr x = (x.take (at_ 61 x), (unesc (x.drop (at_ 61 x + 1))).getD []) := rfl
        rw [hxe] at HST HQS HC HCELL HPL hx
        clear hxe hc0 HALL
        cases hh : has 61 x
        · rw [hh] at HC
          simp only [Bool.false_eq_true, if_false] at HC
          have HU := Lib.hid (fun w => impl_UnescapePart [] (by simp) w)
          have hu0 : unesc [] = some [] := unesc_esc []
          rw [hu0] at HU
          have HF : Hid (readPairs s sign = ([], false)) := by
            show _ = _
            rw [HR.out, ← HST.out, hE1, hh]
            rfl
          have hc1 := HCELL.out
          clear hE1 hE2 hh hu0
          go_wp2_with fail
          refine (HC.out _).mono ?_
          rintro e w3 ⟨rfl, n, rfl⟩
          go_wp2_with fail
          refine (HU.out _).mono ?_
          rintro e w4 ⟨rfl, hb4⟩
          have HB4 : Hid (Below w.heap.size w w4) := (below_drewN HB.out n).trans (hb4.mono hszr)
          clear hb4
          go_wp2
          go_ret2
          rw [HF.out]
          exact ⟨none, 0, rfl, ownP_nil _ _, HB4.out⟩
        · rw [hh] at HC
          simp only [if_true] at HC
          have hxl : (x.drop (at_ 61 x + 1)).length ≤ 1048576 := by simp; omega
          have HU := Lib.hid (fun w => impl_UnescapePart (x.drop (at_ 61 x + 1)) hxl w)
          rw [hh, Bool.true_and] at hE1
          have hc1 := HCELL.out
          generalize x.drop (at_ 61 x + 1) = r at *
          generalize x.take (at_ 61 x) = nm at *
          cases hu : unesc r with
          | none =>
            rw [hu] at HU hE1
            have HF : Hid (readPairs s sign = ([], false)) := by
              show _ = _
              rw [HR.out, ← HST.out, hE1]
              rfl
            clear hE1 hE2 hh hu
            go_wp2_with fail
            refine (HC.out _).mono ?_
            rintro e w3 ⟨rfl, n, rfl⟩
            go_wp2_with fail
            refine (HU.out _).mono ?_
            rintro e w4 ⟨rfl, hb4⟩
            have HB4 : Hid (Below w.heap.size w w4) := (below_drewN HB.out n).trans (hb4.mono hszr)
            clear hb4
            go_wp2
            go_ret2
            rw [HF.out]
            exact ⟨none, 0, rfl, ownP_nil _ _, HB4.out⟩
          | some t =>
            rw [hu] at HU hE1 hE2
            have HE1 := Lib.hid hE1
            have HE2 := Lib.hid hE2
            rw [hE2] at HPL HQS
            clear hE1 hE2 hh hu
            go_wp2_with fail
            refine (HC.out _).mono ?_
            rintro e w3 ⟨rfl, n, rfl⟩
            go_wp2_with fail
            refine (HU.out _).mono ?_
            rintro e w4 ⟨rfl, hb4⟩
            have HB4 : Hid (Below w.heap.size w w4) := (below_drewN HB.out n).trans (hb4.mono hszr)
            have HO4 := Lib.hid (ownP_keep HO.out ((below_drewN (Below.refl _ _) n).trans hb4))
            have HP4 := Lib.hid (ownS_keep HP.out ((below_drewN (Below.refl _ _) n).trans hb4))
            have hsz4 := HB4.out.size
            clear hb4
            go_wp2_with (at_builtin; refine app_pair rfl _ _ rfl w.heap.size A c _ qs (nm, t) (by rfl) rfl HO4.out _ (by rfl) rfl ?_ ?_ ?_; (focus omega); (focus omega); intro A5 c5 w5 ho5 hg5)
            go_roundw
            case rel =>
              refine ⟨k + 1, A5, c5, qs ++ [(nm, t)], by omega, by go_num, by simp, HQS.out.symm, ?_, ho5, ?_, ?_⟩
              · rw [← HST.out, HE1.out]; rfl
              · exact HP4.out.kept hg5 (own_types HP4.out HO4.out (by decide))
              · exact HB4.out.trans (grown_to_below hg5 hsz4 (ownP_row HO4.out))
            case measure => simp [intOf]; omega
      · have hkn : k = ps.length := by omega
        subst hkn
        have HF : Hid (readPairs s sign = (qs, true)) := by
          show _ = _
          have h1 := HALL.out
          have h2 := HQ.out
          rw [List.take_length] at h2
          rw [drop_nil _ _ (Nat.le_refl _)] at h1
          rw [HR.out, ← h1, ← h2]
          rfl
        go_wp2
        go_ret2
        rw [HF.out]
        exact ⟨A, c, rfl, HO.out, HB.out⟩
end Go.Proofs.YtjlaelkdmgcniaaDoor
