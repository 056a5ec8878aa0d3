/- Rows of cells: RowText of impl and of spec: walks. -/
import Derived.Test.YtaofgcdpmeeimaaDoorRowP
import Derived.Test.YtaofgcdpmeeimaaDoorStrS
import Derived.Test.YtaofgcdpmeeimaaDoorText
import Derived.Deep.QuietTactic
import Derived.BigQuiet
namespace Go.Proofs.YtaofgcdpmeeimaaDoor
open Go.RowKit

section
variable {α : Type} {p : α → Bool} {l : List α} {k : Nat} {r : Bool}
theorem allc_yes (h : (l.drop k).all p = r) (hk : k < l.length) (hp : p l[k] = true) : (l.drop (k + 1)).all p = r := by
  rw [drop_cons l k hk, List.all_cons, hp, Bool.true_and] at h; exact h
theorem allc_no (h : (l.drop k).all p = r) (hk : k < l.length) (hp : p l[k] = false) : false = r := by
  rw [drop_cons l k hk, List.all_cons, hp, Bool.false_and] at h; exact h
theorem allc_end (h : (l.drop k).all p = r) (hk : ¬ k < l.length) : true = r := by
  rw [drop_nil l k (by omega)] at h; exact h
theorem anyc_no (h : (l.drop k).any p = r) (hk : k < l.length) (hp : p l[k] = false) : (l.drop (k + 1)).any p = r := by
  rw [drop_cons l k hk, List.any_cons, hp, Bool.false_or] at h; exact h
theorem anyc_yes (h : (l.drop k).any p = r) (hk : k < l.length) (hp : p l[k] = true) : true = r := by
  rw [drop_cons l k hk, List.any_cons, hp, Bool.true_or] at h; exact h
theorem anyc_end (h : (l.drop k).any p = r) (hk : ¬ k < l.length) : false = r := by
  rw [drop_nil l k (by omega)] at h; exact h
end

theorem byte_int (c d : UInt8) : (c == d) = decide ((c.toNat : Int) = d.toNat) := by
  by_cases h : c = d
  · subst h; simp
  · have h1 : (c == d) = false := by simpa using h
    rw [h1]
    symm
    rw [decide_eq_false_iff_not]
    intro e
    exact h (UInt8.toNat_inj.1 (by omega))
theorem isQ_int (c : UInt8) : isQ c = (decide ((c.toNat : Int) = 44) || decide ((c.toNat : Int) = 34)) := by
  unfold isQ
  rw [byte_int, byte_int]
  rfl

theorem slice_one (l : Tx) (j : Nat) (h : j < l.length) : (l.take (j + 1)).drop j = [l[j]] := by
  rw [List.drop_take, Nat.add_sub_cancel_left, drop_cons l j h]
  rfl

set_option maxHeartbeats 400000 in
theorem spec_l27Cell (l : Tx) (hl : l.length ≤ maxLen) (w : World) :
    Calls Tryd.prog 73 #[.string ⟨l.toArray⟩] w fun e w' => e = .returned (.bool (cellOk l)) ∧ w = w' := by
  have HL := Lib.hid hl
  unfold maxLen at hl
  go_enter Tryd.func73, Tryd.ntmps73
  go_wp2_with (go_at_call 69; refine (spec_TextValid _ HL.out _).mono ?_; rintro e w' ⟨rfl, rfl⟩)
  all_goals (go_ret; exact ⟨ret_bool (by simp_all [cellOk]), rfl⟩)

set_option maxHeartbeats 400000 in
theorem spec_l27Quoted (l : Tx) (hl : l.length ≤ maxLen) (w : World) :
    Calls Tryd.prog 74 #[.string ⟨l.toArray⟩] w fun e w' => e = .returned (.bool (quoted l)) ∧ w = w' := by
  unfold maxLen at hl
  go_enter Tryd.func74, Tryd.ntmps74
  go_wp2
  go_loop [3] (fun i => ∃ k : Nat, k ≤ l.length ∧ i = .int .i64 k ∧ (l.drop k).any isQ = l.any isQ) (fun i => l.length - (intOf i).toNat)
  case atStart => exact ⟨0, Nat.zero_le _, rfl, rfl⟩
  case round =>
    obtain ⟨k, hk, rfl, hall⟩ := hrel
    have H := Lib.hid hall
    clear hall
    by_cases hlt : k < l.length
    · have hq := isQ_int l[k]
      by_cases h1 : (l[k].toNat : Int) = 44
      · have HQ : Hid (isQ l[k] = true) := by show _ = _; rw [hq]; simp [h1]
        clear hq
        go_wp2
        go_ret
        exact ⟨ret_bool (by rw [quoted, ← anyc_yes H.out hlt HQ.out]; rfl), rfl⟩
      · by_cases h2 : (l[k].toNat : Int) = 34
        · have HQ : Hid (isQ l[k] = true) := by show _ = _; rw [hq]; simp [h2]
          clear hq
          go_wp2
          go_ret
          exact ⟨ret_bool (by rw [quoted, ← anyc_yes H.out hlt HQ.out]; rfl), rfl⟩
        · have HQ : Hid (isQ l[k] = false) := by show _ = _; rw [hq]; simp [h1, h2]
          have b1 : ((l[k].toNat : Int) == 44) = false := by simpa using h1
          have b2 : ((l[k].toNat : Int) == 34) = false := by simpa using h2
          clear hq h1 h2
          go_wp2
          go_round
          case rel => exact ⟨k + 1, by omega, by go_num, anyc_no H.out hlt HQ.out⟩
          case measure => simp [intOf]; omega
    · go_wp2
      go_ret
      exact ⟨ret_bool (by rw [quoted, ← anyc_end H.out hlt]; simp), rfl⟩



set_option maxHeartbeats 1000000 in
theorem impl_RowText (ps : List Tx) (A : Option Addr) (c : Nat) (w : World) (hr : Rd w w.heap.size A (scells ps)) (hf : FitS ps) (hl : ps.length ≤ maxLen) (hm : Hm w) :
    Calls Tryd.prog 37 #[.slice A ps.length c] w fun e w' => e = .returned (.string ⟨(rowText ps).toArray⟩) ∧ Below w.heap.size w w' := by
  unfold maxLen at hl
  by_cases h6 : ps.length ≤ 6
  · have d6 : decide (6 < (ps.length : Int)) = false := by simp; omega
    have T6 : Hid (rowText ps = if ps.all cellOk then Lib.join (rowParts ps ps.length) comma else []) := by show _ = _; rw [rowText, decide_eq_true h6, Bool.true_and]
    by_cases h0 : ps = []
    · subst h0
      go_enter Tryd.func37, Tryd.ntmps37
      go_wp2
      go_ret
      exact ⟨rfl, Below.refl _ _⟩
    have h1 : 1 ≤ ps.length := by
      rcases Nat.eq_zero_or_pos ps.length with h | h
      · exact absurd (List.eq_nil_of_length_eq_zero h) h0
      · exact h
    have HM0 := Lib.hid hm
    clear h0 hm
    go_enter Tryd.func37, Tryd.ntmps37
    go_wp2
    go_loopw [3, 16] (fun v i wr => ∃ (k : Nat), k ≤ ps.length ∧ i = .int .i64 k ∧ v = .string ⟨(Lib.join (rowParts ps k) comma).toArray⟩ ∧ (Lib.join (rowParts ps k) comma).length ≤ 63 * k ∧ (ps.drop k).all cellOk = ps.all cellOk ∧ Below w.heap.size w wr ∧ Hm wr) (fun _ i _ => ps.length - (intOf i).toNat)
    case atStart => exact ⟨0, Nat.zero_le _, rfl, rfl, by simp [rowParts, Lib.join], rfl, Below.refl _ _, HM0.out⟩
    case round =>
      obtain ⟨k, hk, rfl, rfl, hjl, hall, hb, hm⟩ := hrel
      have HB := Lib.hid hb
      have HALL := Lib.hid hall
      have HM := Lib.hid hm
      clear hall hm
      by_cases hlt : k < ps.length
      · obtain ⟨b, o, rfl, hab, hc0⟩ := (hr.below hb).str hlt
        have hsz2 := hb.size
        have hpk := rowParts_eq ps k hk
        have HS := Lib.hid (rowParts_succ ps k hlt)
        have HF : Hid (ps[k].length ≤ maxLen) := hf _ (List.getElem_mem hlt)
        generalize rowParts ps k = hp at *
        have HS2 : Hid (rowParts ps (k + 1) = hp ++ [cellText ps[k]]) := by show _ = _; rw [HS.out]
        generalize hcl : ps[k] = cl at *
        have HTV := Lib.hid (fun w => impl_TextValid cl HF.out w)
        cases hok : cellOk cl
        · have HOK : Hid (cellOk ps[k] = false) := by show _ = _; rw [hcl]; exact hok
          by_cases h30 : cl.length ≤ 30
          · have htx : textOk cl = false := by
              unfold cellOk at hok
              have : decide ((cl.length : Int) ≤ 30) = true := by simp; omega
              rw [this, Bool.and_true] at hok
              exact hok
            rw [htx] at HTV
            clear htx hok hcl
            go_wp2_with fail
            refine (HTV.out _).mono ?_
            rintro e w2 ⟨rfl, rfl⟩
            go_wp2
            go_ret
            rw [T6.out, ← allc_no HALL.out hlt HOK.out]
            exact ⟨rfl, HB.out⟩
          · have hfl := HF.out
            unfold maxLen at hfl
            clear hok hcl
            go_wp2
            go_ret
            rw [T6.out, ← allc_no HALL.out hlt HOK.out]
            exact ⟨rfl, HB.out⟩
        · have HOK : Hid (cellOk ps[k] = true) := by show _ = _; rw [hcl]; exact hok
          have h30 := cellOk_len hok
          have htx : textOk cl = true := by simp [cellOk] at hok; exact hok.1
          have HTX := Lib.hid htx
          have HRP := Lib.hid (fun w hm => repl_tx cl h30 w hm)
          rw [htx] at HTV
          clear htx hok hcl
          by_cases hk0 : k = 0
          · subst hk0
            have hpn : hp = [] := List.eq_nil_of_length_eq_zero hpk
            subst hpn
            have hj0 : Lib.join [] comma = [] := rfl
            rw [hj0] at *
            have hc00 : wr.cell? ⟨b, o, none⟩ = some (sv cl) := hc0
            have HJS : Hid (∀ x, Lib.join ([] ++ [x]) comma = x) := fun x => by rw [join_snoc, if_pos rfl]
            go_wp2_with fail
            refine (HTV.out _).mono ?_
            rintro e w2 ⟨rfl, rfl⟩
            by_cases hq : quoted cl = true
            · have HCT : Hid (cellText cl = 34 :: (dq cl ++ [34])) := by show _ = _; rw [cellText, if_pos hq]
              have hdl := dq_len cl
              by_cases he : cl = []
              · subst he
                clear hq
                go_wp2_with fail
                refine (HRP.out _ HM.out).mono ?_
                rintro e w2 ⟨rfl, hb2⟩
                have HB2 := Lib.hid (HB.out.trans (hb2.mono HB.out.size))
                have HM2 := Lib.hid (HM.out.below hb2)
                clear hb2
                go_wp2
                go_roundw
                case rel =>
                  refine ⟨0 + 1, by omega, by go_num, ?_, ?_, allc_yes HALL.out hlt HOK.out, HB2.out, HM2.out⟩
                  · rw [HS2.out, HJS.out, HCT.out]
                  · rw [HS2.out, HJS.out, HCT.out]; simp; omega
                case measure => simp [intOf]; omega
              · have HAN := Lib.hid (fun w => any_tx cl HTX.out w)
                have hany : cl.any isQ = true := by
                  have hq2 := hq
                  unfold quoted at hq2
                  cases hx : cl.any isQ
                  · rw [hx] at hq2; simp at hq2; exact absurd hq2 he
                  · rfl
                have hbe : (cl == ([] : Tx)) = false := by simpa using he
                rw [hany] at HAN
                clear hany hq
                go_wp2_with fail
                refine (HAN.out _).mono ?_
                rintro e w2 ⟨rfl, hb2⟩
                have HB2 := Lib.hid (HB.out.trans (hb2.mono HB.out.size))
                have HM2 := Lib.hid (HM.out.below hb2)
                clear hb2
                go_wp2_with fail
                refine (HRP.out _ HM2.out).mono ?_
                rintro e w3 ⟨rfl, hb3⟩
                have HB2 := Lib.hid (HB2.out.trans (hb3.mono HB2.out.size))
                have HM2 := Lib.hid (HM2.out.below hb3)
                clear hb3
                go_wp2
                go_roundw
                case rel =>
                  refine ⟨0 + 1, by omega, by go_num, ?_, ?_, allc_yes HALL.out hlt HOK.out, HB2.out, HM2.out⟩
                  · rw [HS2.out, HJS.out, HCT.out]
                  · rw [HS2.out, HJS.out, HCT.out]; simp; omega
                case measure => simp [intOf]; omega
            · have hq' : quoted cl = false := by simpa using hq
              have HCT : Hid (cellText cl = cl) := by show _ = _; rw [cellText, hq']; rfl
              have hbe : (cl == ([] : Tx)) = false := by unfold quoted at hq'; simp at hq'; simpa using hq'.2
              have hany : cl.any isQ = false := by
                unfold quoted at hq'
                cases hx : cl.any isQ
                · rfl
                · rw [hx] at hq'; simp at hq'
              have HAN := Lib.hid (fun w => any_tx cl HTX.out w)
              rw [hany] at HAN
              clear hany hq hq'
              go_wp2_with fail
              refine (HAN.out _).mono ?_
              rintro e w2 ⟨rfl, hb2⟩
              have HB2 := Lib.hid (HB.out.trans (hb2.mono HB.out.size))
              have HM2 := Lib.hid (HM.out.below hb2)
              clear hb2
              go_wp2
              go_roundw
              case rel =>
                refine ⟨0 + 1, by omega, by go_num, ?_, ?_, allc_yes HALL.out hlt HOK.out, HB2.out, HM2.out⟩
                · rw [HS2.out, HJS.out, HCT.out]
                · rw [HS2.out, HJS.out, HCT.out]; simp; omega
              case measure => simp [intOf]; omega
          · have hk1 : (0 : Int) < (k : Int) := by omega
            have hne : hp ≠ [] := fun h => by subst h; simp at hpk; omega
            have HJS : Hid (∀ x, Lib.join (hp ++ [x]) comma = Lib.join hp comma ++ comma ++ x) := fun x => by rw [join_snoc, if_neg hne]
            clear hne hpk
            generalize Lib.join hp comma = jt at *
            go_wp2_with fail
            refine (HTV.out _).mono ?_
            rintro e w2 ⟨rfl, rfl⟩
            by_cases hq : quoted cl = true
            · have HCT : Hid (cellText cl = 34 :: (dq cl ++ [34])) := by show _ = _; rw [cellText, if_pos hq]
              have hdl := dq_len cl
              by_cases he : cl = []
              · subst he
                clear hq
                go_wp2_with fail
                refine (HRP.out _ HM.out).mono ?_
                rintro e w2 ⟨rfl, hb2⟩
                have HB2 := Lib.hid (HB.out.trans (hb2.mono HB.out.size))
                have HM2 := Lib.hid (HM.out.below hb2)
                clear hb2
                go_wp2
                go_roundw
                case rel =>
                  refine ⟨k + 1, by omega, by go_num, ?_, ?_, allc_yes HALL.out hlt HOK.out, HB2.out, HM2.out⟩
                  · rw [HS2.out, HJS.out, HCT.out]; simp [comma]
                  · rw [HS2.out, HJS.out, HCT.out]; simp [comma]; omega
                case measure => simp [intOf]; omega
              · have HAN := Lib.hid (fun w => any_tx cl HTX.out w)
                have hany : cl.any isQ = true := by
                  have hq2 := hq
                  unfold quoted at hq2
                  cases hx : cl.any isQ
                  · rw [hx] at hq2; simp at hq2; exact absurd hq2 he
                  · rfl
                have hbe : (cl == ([] : Tx)) = false := by simpa using he
                rw [hany] at HAN
                clear hany hq
                go_wp2_with fail
                refine (HAN.out _).mono ?_
                rintro e w2 ⟨rfl, hb2⟩
                have HB2 := Lib.hid (HB.out.trans (hb2.mono HB.out.size))
                have HM2 := Lib.hid (HM.out.below hb2)
                clear hb2
                go_wp2_with fail
                refine (HRP.out _ HM2.out).mono ?_
                rintro e w3 ⟨rfl, hb3⟩
                have HB2 := Lib.hid (HB2.out.trans (hb3.mono HB2.out.size))
                have HM2 := Lib.hid (HM2.out.below hb3)
                clear hb3
                go_wp2
                go_roundw
                case rel =>
                  refine ⟨k + 1, by omega, by go_num, ?_, ?_, allc_yes HALL.out hlt HOK.out, HB2.out, HM2.out⟩
                  · rw [HS2.out, HJS.out, HCT.out]; simp [comma]
                  · rw [HS2.out, HJS.out, HCT.out]; simp [comma]; omega
                case measure => simp [intOf]; omega
            · have hq' : quoted cl = false := by simpa using hq
              have HCT : Hid (cellText cl = cl) := by show _ = _; rw [cellText, hq']; rfl
              have hbe : (cl == ([] : Tx)) = false := by unfold quoted at hq'; simp at hq'; simpa using hq'.2
              have hany : cl.any isQ = false := by
                unfold quoted at hq'
                cases hx : cl.any isQ
                · rfl
                · rw [hx] at hq'; simp at hq'
              have HAN := Lib.hid (fun w => any_tx cl HTX.out w)
              rw [hany] at HAN
              clear hany hq hq'
              go_wp2_with fail
              refine (HAN.out _).mono ?_
              rintro e w2 ⟨rfl, hb2⟩
              have HB2 := Lib.hid (HB.out.trans (hb2.mono HB.out.size))
              have HM2 := Lib.hid (HM.out.below hb2)
              clear hb2
              go_wp2
              go_roundw
              case rel =>
                refine ⟨k + 1, by omega, by go_num, ?_, ?_, allc_yes HALL.out hlt HOK.out, HB2.out, HM2.out⟩
                · rw [HS2.out, HJS.out, HCT.out]; simp [comma]
                · rw [HS2.out, HJS.out, HCT.out]; simp [comma]; omega
              case measure => simp [intOf]; omega
      · have hkn : k = ps.length := by omega
        subst hkn
        have T7 : Hid (rowText ps = Lib.join (rowParts ps ps.length) comma) := by show _ = _; rw [T6.out, ← allc_end HALL.out hlt]; rfl
        go_wp2
        go_ret
        rw [T7.out]
        exact ⟨rfl, HB.out⟩
  · have T6 : Hid (rowText ps = []) := by show _ = _; simp [rowText, h6]
    go_enter Tryd.func37, Tryd.ntmps37
    go_wp2
    go_ret
    rw [T6.out]
    exact ⟨rfl, Below.refl _ _⟩

set_option maxHeartbeats 1000000 in
theorem spec_RowText (ps : List Tx) (A : Option Addr) (c : Nat) (w : World) (hr : Rd w w.heap.size A (scells ps)) (hf : FitS ps) (hl : ps.length ≤ 4294967296) :
    Calls Tryd.prog 35 #[.slice A ps.length c] w fun e w' => e = .returned (.string ⟨(rowText ps).toArray⟩) ∧ Below w.heap.size w w' := by
  have T6 : Hid (rowText ps = if decide (ps.length ≤ 6) && ps.all cellOk then Lib.join (rowParts ps ps.length) comma else []) := rfl
  go_enter Tryd.func35, Tryd.ntmps35
  go_wp2
  go_loopw [3, 4] (fun v i wr => ∃ (k : Nat), k ≤ ps.length ∧ i = .int .i64 k ∧ v = .string ⟨(Lib.join (rowParts ps k) comma).toArray⟩ ∧ (Lib.join (rowParts ps k) comma).length ≤ 63 * k ∧ (0 < k → ps.length ≤ 6) ∧ (ps.drop k).all cellOk = ps.all cellOk ∧ Below w.heap.size w wr) (fun _ i _ => ps.length - (intOf i).toNat)
  case atStart => exact ⟨0, Nat.zero_le _, rfl, rfl, by simp [rowParts, Lib.join], by simp, rfl, Below.refl _ _⟩
  case round =>
    obtain ⟨k, hk, rfl, rfl, hjl, hpos, hall, hb⟩ := hrel
    have HB := Lib.hid hb
    have HALL := Lib.hid hall
    have HPOS := Lib.hid hpos
    clear hall hpos
    by_cases hlt : k < ps.length
    · obtain ⟨b, o, rfl, hab, hc0⟩ := (hr.below hb).str hlt
      have hsz2 := hb.size
      have hpk := rowParts_eq ps k hk
      have HS := Lib.hid (rowParts_succ ps k hlt)
      have HF : Hid (ps[k].length ≤ maxLen) := hf _ (List.getElem_mem hlt)
      generalize rowParts ps k = hp at *
      have HS2 : Hid (rowParts ps (k + 1) = hp ++ [cellText ps[k]]) := by show _ = _; rw [HS.out]
      generalize hcl : ps[k] = cl at *
      have HC := Lib.hid (fun w => spec_l27Cell cl HF.out w)
      have HQ := Lib.hid (fun w => spec_l27Quoted cl HF.out w)
      cases hok : cellOk cl
      · have HOK : Hid (cellOk ps[k] = false) := by show _ = _; rw [hcl]; exact hok
        rw [hok] at HC
        clear hok hcl
        go_wp2_with fail
        refine (HC.out _).mono ?_
        rintro e w2 ⟨rfl, rfl⟩
        go_wp2
        go_ret
        rw [T6.out, ← allc_no HALL.out hlt HOK.out, Bool.and_false]
        exact ⟨rfl, HB.out⟩
      · have HOK : Hid (cellOk ps[k] = true) := by show _ = _; rw [hcl]; exact hok
        have h30 := cellOk_len hok
        rw [hok] at HC
        clear hok hcl
        by_cases h6 : ps.length ≤ 6
        · have HP6 : 0 < k + 1 → ps.length ≤ 6 := fun _ => h6
          have HP6 := Lib.hid HP6
          by_cases hk0 : k = 0
          · subst hk0
            have hpn : hp = [] := List.eq_nil_of_length_eq_zero hpk
            subst hpn
            have hj0 : Lib.join [] comma = [] := rfl
            rw [hj0] at *
            have hc00 : wr.cell? ⟨b, o, none⟩ = some (sv cl) := hc0
            have HJS : Hid (∀ x, Lib.join ([] ++ [x]) comma = x) := fun x => by rw [join_snoc, if_pos rfl]
            go_wp2_with fail
            refine (HC.out _).mono ?_
            rintro e w2 ⟨rfl, rfl⟩
            by_cases hq : quoted cl = true
            · have HCT : Hid (cellText cl = 34 :: (dq cl ++ [34])) := by show _ = _; rw [cellText, if_pos hq]
              have HX : Hid (Lib.join (rowParts ps (0 + 1)) comma = 34 :: (dq cl ++ [34])) := by show _ = _; rw [HS2.out, HJS.out, HCT.out]
              have hdl := dq_len cl
              rw [hq] at HQ
              clear hq
              go_wp2_with (fail)
              refine (HQ.out _).mono ?_
              rintro e w2 ⟨rfl, rfl⟩
              go_wp2
              go_loop [3, 5] (fun v i => ∃ (j : Nat), j ≤ cl.length ∧ i = .int .i64 j ∧ v = .string ⟨(34 :: dq (cl.take j)).toArray⟩) (fun _ i => cl.length - (intOf i).toNat)
              case atStart => exact ⟨0, Nat.zero_le _, rfl, by simp [dq]⟩
              case round =>
                obtain ⟨j, hj, rfl, rfl⟩ := hrel
                have hdj := dq_len (cl.take j)
                have htj : (cl.take j).length ≤ 30 := by rw [List.length_take]; omega
                by_cases hjl : j < cl.length
                · have HD := Lib.hid (dq_succ cl j hjl)
                  generalize dq (cl.take j) = dj at *
                  have hjw : IntKind.i64.wrap ((j : Int) + 1) = (j : Int) + 1 := IntWalk.i64_in _ (by omega)
                  by_cases h34 : (cl[j].toNat : Int) = 34
                  · have HE : Hid (dq (cl.take (j + 1)) = dj ++ [34, cl[j]]) := by
                      show _ = _
                      have e : cl[j] = 34 := UInt8.toNat_inj.1 (by have : ((34 : UInt8).toNat) = 34 := rfl; omega)
                      rw [HD.out, e]; rfl
                    go_wp2
                    go_round
                    case rel => exact ⟨j + 1, by omega, by go_num, by rw [HE.out]; simp [slice_one cl j hjl]⟩
                    case measure => simp [intOf]; omega
                  · have HE : Hid (dq (cl.take (j + 1)) = dj ++ [cl[j]]) := by
                      show _ = _
                      have e : (cl[j] == 34) = false := by rw [beq_eq_false_iff_ne]; intro e; rw [e] at h34; exact h34 rfl
                      rw [HD.out, e]; rfl
                    go_wp2
                    go_round
                    case rel => exact ⟨j + 1, by omega, by go_num, by rw [HE.out]; simp [slice_one cl j hjl]⟩
                    case measure => simp [intOf]; omega
                · have hjn : j = cl.length := by omega
                  subst hjn
                  rw [List.take_length] at *
                  go_wp2
                  go_roundw
                  case rel =>
                    refine ⟨0 + 1, by omega, by go_num, ?_, ?_, HP6.out, allc_yes HALL.out hlt HOK.out, HB.out⟩
                    · rw [HX.out]
                    · rw [HX.out]; simp; omega
                  case measure => simp [intOf]; omega
            · have hq' : quoted cl = false := by simpa using hq
              have HCT : Hid (cellText cl = cl) := by show _ = _; rw [cellText, hq']; rfl
              have HX : Hid (Lib.join (rowParts ps (0 + 1)) comma = cl) := by show _ = _; rw [HS2.out, HJS.out, HCT.out]
              rw [hq'] at HQ
              clear hq hq'
              go_wp2_with (fail)
              refine (HQ.out _).mono ?_
              rintro e w2 ⟨rfl, rfl⟩
              go_wp2
              go_roundw
              case rel =>
                refine ⟨0 + 1, by omega, by go_num, ?_, ?_, HP6.out, allc_yes HALL.out hlt HOK.out, HB.out⟩
                · rw [HX.out]
                · rw [HX.out]; simp; omega
              case measure => simp [intOf]; omega
          · have hk1 : (0 : Int) < (k : Int) := by omega
            have hne : hp ≠ [] := fun h => by subst h; simp at hpk; omega
            have HJS : Hid (∀ x, Lib.join (hp ++ [x]) comma = Lib.join hp comma ++ comma ++ x) := fun x => by rw [join_snoc, if_neg hne]
            clear hne hpk
            generalize Lib.join hp comma = jt at *
            go_wp2_with fail
            refine (HC.out _).mono ?_
            rintro e w2 ⟨rfl, rfl⟩
            by_cases hq : quoted cl = true
            · have HCT : Hid (cellText cl = 34 :: (dq cl ++ [34])) := by show _ = _; rw [cellText, if_pos hq]
              have HX : Hid (Lib.join (rowParts ps (k + 1)) comma = jt ++ 44 :: 34 :: (dq cl ++ [34])) := by show _ = _; rw [HS2.out, HJS.out, HCT.out]; simp [comma]
              have hdl := dq_len cl
              rw [hq] at HQ
              clear hq
              go_wp2_with (fail)
              refine (HQ.out _).mono ?_
              rintro e w2 ⟨rfl, rfl⟩
              go_wp2
              go_loop [3, 5] (fun v i => ∃ (j : Nat), j ≤ cl.length ∧ i = .int .i64 j ∧ v = .string ⟨(jt ++ 44 :: 34 :: dq (cl.take j)).toArray⟩) (fun _ i => cl.length - (intOf i).toNat)
              case atStart => exact ⟨0, Nat.zero_le _, rfl, by simp [dq]⟩
              case round =>
                obtain ⟨j, hj, rfl, rfl⟩ := hrel
                have hdj := dq_len (cl.take j)
                have htj : (cl.take j).length ≤ 30 := by rw [List.length_take]; omega
                by_cases hjl : j < cl.length
                · have HD := Lib.hid (dq_succ cl j hjl)
                  generalize dq (cl.take j) = dj at *
                  have hjw : IntKind.i64.wrap ((j : Int) + 1) = (j : Int) + 1 := IntWalk.i64_in _ (by omega)
                  by_cases h34 : (cl[j].toNat : Int) = 34
                  · have HE : Hid (dq (cl.take (j + 1)) = dj ++ [34, cl[j]]) := by
                      show _ = _
                      have e : cl[j] = 34 := UInt8.toNat_inj.1 (by have : ((34 : UInt8).toNat) = 34 := rfl; omega)
                      rw [HD.out, e]; rfl
                    go_wp2
                    go_round
                    case rel => exact ⟨j + 1, by omega, by go_num, by rw [HE.out]; simp [slice_one cl j hjl]⟩
                    case measure => simp [intOf]; omega
                  · have HE : Hid (dq (cl.take (j + 1)) = dj ++ [cl[j]]) := by
                      show _ = _
                      have e : (cl[j] == 34) = false := by rw [beq_eq_false_iff_ne]; intro e; rw [e] at h34; exact h34 rfl
                      rw [HD.out, e]; rfl
                    go_wp2
                    go_round
                    case rel => exact ⟨j + 1, by omega, by go_num, by rw [HE.out]; simp [slice_one cl j hjl]⟩
                    case measure => simp [intOf]; omega
                · have hjn : j = cl.length := by omega
                  subst hjn
                  rw [List.take_length] at *
                  go_wp2
                  go_roundw
                  case rel =>
                    refine ⟨k + 1, by omega, by go_num, ?_, ?_, HP6.out, allc_yes HALL.out hlt HOK.out, HB.out⟩
                    · rw [HX.out]
                    · rw [HX.out]; simp; omega
                  case measure => simp [intOf]; omega
            · have hq' : quoted cl = false := by simpa using hq
              have HCT : Hid (cellText cl = cl) := by show _ = _; rw [cellText, hq']; rfl
              have HX : Hid (Lib.join (rowParts ps (k + 1)) comma = jt ++ 44 :: cl) := by show _ = _; rw [HS2.out, HJS.out, HCT.out]; simp [comma]
              rw [hq'] at HQ
              clear hq hq'
              go_wp2_with (fail)
              refine (HQ.out _).mono ?_
              rintro e w2 ⟨rfl, rfl⟩
              go_wp2
              go_roundw
              case rel =>
                refine ⟨k + 1, by omega, by go_num, ?_, ?_, HP6.out, allc_yes HALL.out hlt HOK.out, HB.out⟩
                · rw [HX.out]
                · rw [HX.out]; simp; omega
              case measure => simp [intOf]; omega
        · go_wp2_with fail
          refine (HC.out _).mono ?_
          rintro e w2 ⟨rfl, rfl⟩
          go_wp2
          go_ret
          rw [T6.out, decide_eq_false h6, Bool.false_and]
          exact ⟨rfl, HB.out⟩
    · have hkn : k = ps.length := by omega
      subst hkn
      have T7 : Hid (rowText ps = Lib.join (rowParts ps ps.length) comma) := by
        show _ = _
        rw [T6.out, ← allc_end HALL.out hlt, Bool.and_true]
        rcases Nat.eq_zero_or_pos ps.length with h | h
        · rw [decide_eq_true (by omega)]; rfl
        · rw [decide_eq_true (HPOS.out h)]; rfl
      go_wp2
      go_ret
      rw [T7.out]
      exact ⟨rfl, HB.out⟩
end Go.Proofs.YtaofgcdpmeeimaaDoor
