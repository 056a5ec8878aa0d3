/- LocationValid of impl and of spec: walks. -/
import Derived.Test.YtjlaelkdmgcniaaDoorLocHost
import Derived.Test.YtjlaelkdmgcniaaDoorReadAsked
import Derived.Deep.QuietTactic
import Derived.BigQuiet
namespace Go.Proofs.YtjlaelkdmgcniaaDoor
open Go.RowKit

theorem allq_yes {α : Type} {p : α → Bool} {l : List α} {k : Nat} {r : Bool} (h : (l.drop k).all p = r) (hk : k < l.length) (hp : p l[k] = true) : (l.drop (k + 1)).all p = r := by
  rw [drop_cons l k hk, List.all_cons, hp, Bool.true_and] at h; exact h
theorem allq_no {α : Type} {p : α → Bool} {l : List α} {k : Nat} {r : Bool} (h : (l.drop k).all p = r) (hk : k < l.length) (hp : p l[k] = false) : false = r := by
  rw [drop_cons l k hk, List.all_cons, hp, Bool.false_and] at h; exact h
theorem allq_end {α : Type} {p : α → Bool} {l : List α} {k : Nat} {r : Bool} (h : (l.drop k).all p = r) (hk : ¬ k < l.length) : true = r := by
  rw [drop_nil l k (by omega)] at h; exact h
theorem plain_parts (c : UInt8) : plainByte c = (isLet c || isDig c || hasB [45, 95, 46, 126] c) := by
  have := pct_esc [c]
  unfold plainByte hasB
  have h2 : (List.any [45, 95, 46, 126] fun d => d == c) = (decide ((c.toNat : Int) = 45) || decide ((c.toNat : Int) = 95) || decide ((c.toNat : Int) = 46) || decide ((c.toNat : Int) = 126)) := by
    simp only [List.any_cons, List.any_nil, Bool.or_false, byte_eq]
    rw [Bool.eq_iff_iff]
    simp
    omega
  rw [h2]
  simp only [Bool.or_assoc]
/-- the cells of a location's box -/
theorem loc_box (W : World) (l : Lc) (A : Option Addr) (c : Nat) (t : TypeId) : (W.alloc (.cells (lcCells l A c) t)).heap[W.heap.size]? = some (.cells (lcCells l A c) t (0, 0)) := heap_alloc_new W _

set_option maxRecDepth 100000 in
set_option maxHeartbeats 4000000 in
theorem impl_LocationValid (l : Lc) (A : Option Addr) (c : Nat) (w : World) (hr : Rd w w.heap.size A (scells l.path)) (hf : FitL l) (hm : Hm w) :
    Calls Tryd.prog 8 #[lcV l A c] w fun e w' => e = .returned (.bool (locOk l)) ∧ Below w.heap.size w w' := by
  obtain ⟨hf1, hf2, hf3, hf4, hf5⟩ := hf
  have HR := Lib.hid hr
  have HF5 := Lib.hid hf5
  have HALL : Hid (locOk l = (schOk l.sch && hostOk l.host && decide (l.path.length ≤ 6) && l.path.all stepOk && (readAsked l.qu).2)) := rfl
  have HH := Lib.hid (fun w => impl_hostOk l.host (by unfold maxLen; omega) w)
  have HQ := Lib.hid (fun w hm => impl_ReadAsked l.qu (by unfold maxLen; omega) hf3 w hm)
  have HM := Lib.hid (hm.below ((Below.refl _ _).alloc (Nat.le_refl _) (.cells (lcCells l A c) 25)))
  clear hr hm hf5
  cases hsc : schOk l.sch
  · rw [hsc] at HALL
    have hsc' := hsc
    unfold schOk at hsc'
    rw [Bool.or_eq_false_iff] at hsc'
    have n1 : (l.sch != [104, 116, 116, 112]) = true := by have := hsc'.1; unfold http at this; rw [bne, this]; rfl
    have n2 : (l.sch != [104, 116, 116, 112, 115]) = true := by have := hsc'.2; unfold https at this; rw [bne, this]; rfl
    have m1 : (l.sch == [104, 116, 116, 112]) = false := hsc'.1
    have m2 : (l.sch == [104, 116, 116, 112, 115]) = false := hsc'.2
    clear hsc hsc'
    go_enter Tryd.func8, Tryd.ntmps8
    go_wp2
    go_ret
    exact ⟨ret_bool (by rw [HALL.out]; simp), (Below.refl _ _).alloc (Nat.le_refl _) _⟩
  · rw [hsc, Bool.true_and] at HALL
    have hsn : ((l.sch == [104, 116, 116, 112]) = true ∧ (l.sch != [104, 116, 116, 112]) = false) ∨ (((l.sch == [104, 116, 116, 112]) = false ∧ (l.sch != [104, 116, 116, 112]) = true) ∧ (l.sch == [104, 116, 116, 112, 115]) = true ∧ (l.sch != [104, 116, 116, 112, 115]) = false) := by
      unfold schOk http https at hsc
      cases e1 : (l.sch == [104, 116, 116, 112])
      · rw [e1, Bool.false_or] at hsc
        exact .inr ⟨⟨rfl, by rw [bne, e1]; rfl⟩, hsc, by rw [bne, hsc]; rfl⟩
      · exact .inl ⟨rfl, by rw [bne, e1]; rfl⟩
    clear hsc
    cases hho : hostOk l.host
    · rw [hho] at HALL HH
      clear hho
      rcases hsn with ⟨m1, n1⟩ | ⟨⟨m1, n1⟩, m2, n2⟩
      all_goals
        go_enter Tryd.func8, Tryd.ntmps8
        go_wp2_with (go_at_call 24; refine (HH.out _).mono ?_; rintro e w' ⟨rfl, rfl⟩)
        go_ret
        exact ⟨ret_bool (by rw [HALL.out]; simp), (Below.refl _ _).alloc (Nat.le_refl _) _⟩
    · rw [hho, Bool.true_and] at HALL
      rw [hho] at HH
      clear hho
      by_cases h6 : l.path.length ≤ 6
      · rw [decide_eq_true h6, Bool.true_and] at HALL
        have d6 : decide (6 < (l.path.length : Int)) = false := by simp; omega
        rcases hsn with ⟨m1, n1⟩ | ⟨⟨m1, n1⟩, m2, n2⟩
        all_goals
          go_enter Tryd.func8, Tryd.ntmps8
          go_wp2_with (go_at_call 24; refine (HH.out _).mono ?_; rintro e w' ⟨rfl, rfl⟩)
          go_loop [31] (fun i => ∃ k : Nat, k ≤ l.path.length ∧ i = .int .i64 k ∧ (l.path.drop k).all stepOk = l.path.all stepOk) (fun i => l.path.length - (intOf i).toNat)
          case atStart => exact ⟨0, Nat.zero_le _, rfl, rfl⟩
          case round =>
            obtain ⟨k, hk, rfl, hall⟩ := hrel
            have H := Lib.hid hall
            clear hall
            by_cases hlt : k < l.path.length
            · obtain ⟨b, o, rfl, hab, hc0⟩ := (HR.out.below ((Below.refl _ _).alloc (Nat.le_refl _) (.cells (lcCells l A c) 25))).str hlt
              have hx5 := HF5.out _ (List.getElem_mem hlt)
              have HSD : Hid (stepOk l.path[k] = (decide (1 ≤ l.path[k].length) && decide (l.path[k].length ≤ 40) && !(l.path[k] == [46]) && !(l.path[k] == [46, 46]) && l.path[k].all plainByte)) := rfl
              have HYES := Lib.hid (fun (hp : stepOk l.path[k] = true) => allq_yes H.out hlt hp)
              have HNO0 := Lib.hid (fun (hp : stepOk l.path[k] = false) => allq_no H.out hlt hp)
              generalize l.path[k] = x at *
              by_cases h1 : 1 ≤ x.length
              · by_cases h40 : x.length ≤ 40
                · have g0 : decide ((x.length : Int) < 1) = false := by simp; omega
                  have g1 : decide (40 < (x.length : Int)) = false := by simp; omega
                  cases e1 : (x == [46])
                  · cases e2 : (x == [46, 46])
                    · rw [decide_eq_true h1, decide_eq_true h40, e1, e2] at HSD
                      simp only [Bool.not_false, Bool.and_true, Bool.true_and] at HSD
                      go_wp2
                      go_loop [5] (fun i => ∃ j : Nat, j ≤ x.length ∧ i = .int .i64 j ∧ (x.drop j).all plainByte = x.all plainByte) (fun i => x.length - (intOf i).toNat)
                      case atStart => exact ⟨0, Nat.zero_le _, rfl, rfl⟩
                      case round =>
                        obtain ⟨j, hj, rfl, hin⟩ := hrel
                        have HI := Lib.hid hin
                        clear hin
                        by_cases hlj : j < x.length
                        · have HP1 := Lib.hid (fun w => impl_isLetter x[j] w)
                          have HP2 := Lib.hid (fun w => impl_isDigit x[j] w)
                          have HP3 := Lib.hid (fun w => impl_hasByte [45, 95, 46, 126] x[j] (by simp [maxLen]) w)
                          have HPP := Lib.hid (plain_parts x[j])
                          have HY := Lib.hid (fun (hp : plainByte x[j] = true) => all_yes HI.out hlj hp)
                          have HN := Lib.hid (fun (hp : plainByte x[j] = false) => all_no HI.out hlj hp)
                          cases p1 : isLet x[j]
                          · have H1 := Lib.hid p1
                            clear p1
                            cases p2 : isDig x[j]
                            · have H2 := Lib.hid p2
                              clear p2
                              cases p3 : hasB [45, 95, 46, 126] x[j]
                              · have H3 := Lib.hid p3
                                have HNO := Lib.hid (HNO0.out (by rw [HSD.out, ← HN.out (by rw [HPP.out, H1.out, H2.out, p3]; rfl)]))
                                clear p3
                                go_wp2_with (first | (go_at_call 25; refine (HP1.out _).mono ?_; rintro e w' ⟨rfl, rfl⟩; rw [H1.out]) | (go_at_call 26; refine (HP2.out _).mono ?_; rintro e w' ⟨rfl, rfl⟩; rw [H2.out]) | (go_at_call 27; refine (HP3.out _).mono ?_; rintro e w' ⟨rfl, rfl⟩; rw [H3.out]))
                                go_ret
                                exact ⟨ret_bool (by rw [HALL.out, ← HNO.out]; simp), (Below.refl _ _).alloc (Nat.le_refl _) _⟩
                              · have H3 := Lib.hid p3
                                have HY2 := Lib.hid (HY.out (by rw [HPP.out, H1.out, H2.out, p3]; rfl))
                                clear p3
                                go_wp2_with (first | (go_at_call 25; refine (HP1.out _).mono ?_; rintro e w' ⟨rfl, rfl⟩; rw [H1.out]) | (go_at_call 26; refine (HP2.out _).mono ?_; rintro e w' ⟨rfl, rfl⟩; rw [H2.out]) | (go_at_call 27; refine (HP3.out _).mono ?_; rintro e w' ⟨rfl, rfl⟩; rw [H3.out]))
                                go_round
                                case rel => exact ⟨j + 1, by omega, by go_num, HY2.out⟩
                                case measure => simp [intOf]; omega
                            · have H2 := Lib.hid p2
                              have HY2 := Lib.hid (HY.out (by rw [HPP.out, H1.out, p2]; rfl))
                              clear p2
                              go_wp2_with (first | (go_at_call 25; refine (HP1.out _).mono ?_; rintro e w' ⟨rfl, rfl⟩; rw [H1.out]) | (go_at_call 26; refine (HP2.out _).mono ?_; rintro e w' ⟨rfl, rfl⟩; rw [H2.out]) | (go_at_call 27; refine (HP3.out _).mono ?_; rintro e w' ⟨rfl, rfl⟩; rw [H3.out]))
                              go_round
                              case rel => exact ⟨j + 1, by omega, by go_num, HY2.out⟩
                              case measure => simp [intOf]; omega
                          · have H1 := Lib.hid p1
                            have HY2 := Lib.hid (HY.out (by rw [HPP.out, p1]; rfl))
                            clear p1
                            go_wp2_with (first | (go_at_call 25; refine (HP1.out _).mono ?_; rintro e w' ⟨rfl, rfl⟩; rw [H1.out]) | (go_at_call 26; refine (HP2.out _).mono ?_; rintro e w' ⟨rfl, rfl⟩; rw [H2.out]) | (go_at_call 27; refine (HP3.out _).mono ?_; rintro e w' ⟨rfl, rfl⟩; rw [H3.out]))
                            go_round
                            case rel => exact ⟨j + 1, by omega, by go_num, HY2.out⟩
                            case measure => simp [intOf]; omega
                        · have HY2 := Lib.hid (HYES.out (by rw [HSD.out, ← all_end HI.out hlj]))
                          go_wp2
                          go_round
                          case rel => exact ⟨k + 1, by omega, by go_num, HY2.out⟩
                          case measure => simp [intOf]; omega
                    · have HNO := Lib.hid (HNO0.out (by rw [HSD.out, e2]; simp))
                      go_wp2
                      go_ret
                      exact ⟨ret_bool (by rw [HALL.out, ← HNO.out]; simp), (Below.refl _ _).alloc (Nat.le_refl _) _⟩
                  · have HNO := Lib.hid (HNO0.out (by rw [HSD.out, e1]; simp))
                    go_wp2
                    go_ret
                    exact ⟨ret_bool (by rw [HALL.out, ← HNO.out]; simp), (Below.refl _ _).alloc (Nat.le_refl _) _⟩
                · have g0 : decide ((x.length : Int) < 1) = false := by simp; omega
                  have g1 : decide (40 < (x.length : Int)) = true := by simp; omega
                  have HNO := Lib.hid (HNO0.out (by rw [HSD.out, decide_eq_false h40]; simp))
                  go_wp2
                  go_ret
                  exact ⟨ret_bool (by rw [HALL.out, ← HNO.out]; simp), (Below.refl _ _).alloc (Nat.le_refl _) _⟩
              · have g0 : decide ((x.length : Int) < 1) = true := by simp; omega
                have HNO := Lib.hid (HNO0.out (by rw [HSD.out, decide_eq_false h1]; simp))
                go_wp2
                go_ret
                exact ⟨ret_bool (by rw [HALL.out, ← HNO.out]; simp), (Below.refl _ _).alloc (Nat.le_refl _) _⟩
            · have HE := Lib.hid (allq_end H.out hlt)
              go_wp2_with fail
              refine (HQ.out _ HM.out).mono ?_
              generalize readAsked l.qu = r at *
              rintro e w2 ⟨A2, c2, rfl, ho2, hb2⟩
              have HB2 : Hid (Below w.heap.size w w2) := ((Below.refl _ _).alloc (Nat.le_refl _) _).trans (hb2.mono (by simp))
              clear ho2 hb2
              obtain ⟨ps, ok⟩ := r
              dsimp only
              go_wp2
              go_ret
              exact ⟨ret_bool (by rw [HALL.out, ← HE.out]; rfl), HB2.out⟩
      · rw [decide_eq_false h6] at HALL
        have d6 : decide (6 < (l.path.length : Int)) = true := by simp; omega
        rcases hsn with ⟨m1, n1⟩ | ⟨⟨m1, n1⟩, m2, n2⟩
        all_goals
          go_enter Tryd.func8, Tryd.ntmps8
          go_wp2_with (go_at_call 24; refine (HH.out _).mono ?_; rintro e w' ⟨rfl, rfl⟩)
          go_ret
          exact ⟨ret_bool (by rw [HALL.out]; simp), (Below.refl _ _).alloc (Nat.le_refl _) _⟩

set_option maxRecDepth 100000 in
set_option maxHeartbeats 4000000 in
theorem spec_LocationValid (l : Lc) (A : Option Addr) (c : Nat) (w : World) (hr : Rd w w.heap.size A (scells l.path)) (hf : FitL l) :
    Calls Tryd.prog 21 #[lcV l A c] w fun e w' => e = .returned (.bool (locOk l)) ∧ Below w.heap.size w w' := by
  obtain ⟨hf1, hf2, hf3, hf4, hf5⟩ := hf
  have HR := Lib.hid hr
  have HF5 := Lib.hid hf5
  have HALL : Hid (locOk l = (schOk l.sch && hostOk l.host && decide (l.path.length ≤ 6) && l.path.all stepOk && (readAsked l.qu).2)) := rfl
  have HH := Lib.hid (fun w => spec_l32Host l.host (by unfold maxLen; omega) w)
  have HQ := Lib.hid (fun w => spec_ReadAsked l.qu (by unfold maxLen; omega) hf3 w)
  clear hr hf5
  go_enter Tryd.func21, Tryd.ntmps21
  go_wp2
  go_loop [3] (fun i => ∃ k : Nat, k ≤ l.path.length ∧ i = .int .i64 k ∧ (l.path.drop k).all stepOk = l.path.all stepOk) (fun i => l.path.length - (intOf i).toNat)
  case atStart => exact ⟨0, Nat.zero_le _, rfl, rfl⟩
  case round =>
    obtain ⟨k, hk, rfl, hall⟩ := hrel
    have H := Lib.hid hall
    clear hall
    by_cases hlt : k < l.path.length
    · obtain ⟨b, o, rfl, hab, hc0⟩ := (HR.out.below ((Below.refl _ _).alloc (Nat.le_refl _) (.cells (lcCells l A c) 25))).str hlt
      have hx5 := HF5.out _ (List.getElem_mem hlt)
      have HST := Lib.hid (fun w => spec_l32Step l.path[k] (by unfold maxLen; omega) w)
      cases hst : stepOk l.path[k]
      · have HNO := Lib.hid (allq_no H.out hlt hst)
        rw [hst] at HST
        clear hst
        go_wp2_with (go_at_call 36; refine (HST.out _).mono ?_; rintro e w' ⟨rfl, rfl⟩)
        go_ret
        exact ⟨ret_bool (by rw [HALL.out, ← HNO.out]; simp), (Below.refl _ _).alloc (Nat.le_refl _) _⟩
      · have HY := Lib.hid (allq_yes H.out hlt hst)
        rw [hst] at HST
        clear hst
        go_wp2_with (go_at_call 36; refine (HST.out _).mono ?_; rintro e w' ⟨rfl, rfl⟩)
        go_round
        case rel => exact ⟨k + 1, by omega, by go_num, HY.out⟩
        case measure => simp [intOf]; omega
    · have HE := Lib.hid (allq_end H.out hlt)
      rw [← HE.out, Bool.and_true] at HALL
      have hbox := loc_box w l A c 25
      have HBOX := Lib.hid hbox
      clear hbox
      go_wp2_with fail
      refine (HQ.out _).mono ?_
      generalize readAsked l.qu = r at *
      rintro e w2 ⟨A2, c2, rfl, ho2, hb2⟩
      have hbx := (hb2.block w.heap.size (by simp)).trans HBOX.out
      have c0 : w2.cell? ⟨w.heap.size, 0, none⟩ = some (sv l.sch) := cell_of_row w2 _ 0 _ _ _ hbx
      have c1 : w2.cell? ⟨w.heap.size, 1, none⟩ = some (sv l.host) := cell_of_row w2 _ 1 _ _ _ hbx
      have c2' : w2.cell? ⟨w.heap.size, 2, none⟩ = some (.slice A l.path.length c) := cell_of_row w2 _ 2 _ _ _ hbx
      have HB2 : Hid (Below w.heap.size w w2) := ((Below.refl _ _).alloc (Nat.le_refl _) _).trans (hb2.mono (by simp))
      clear ho2 hb2 hbx
      obtain ⟨ps, ok⟩ := r
      dsimp only at HALL
      dsimp only
      cases ok
      · rw [Bool.and_false] at HALL
        go_wp2
        go_ret
        exact ⟨ret_bool HALL.out.symm, HB2.out⟩
      · rw [Bool.and_true] at HALL
        cases e1 : (l.sch == [104, 116, 116, 112])
        · cases e2 : (l.sch == [104, 116, 116, 112, 115])
          · rw [show schOk l.sch = false by unfold schOk http https; rw [e1, e2]; rfl] at HALL
            go_wp2
            go_ret
            exact ⟨ret_bool (by rw [HALL.out]; rfl), HB2.out⟩
          · rw [show schOk l.sch = true by unfold schOk http https; rw [e1, e2]; rfl, Bool.true_and] at HALL
            cases hho : hostOk l.host
            · rw [hho] at HALL HH
              clear hho
              go_wp2_with (go_at_call 38; refine (HH.out _).mono ?_; rintro e w' ⟨rfl, rfl⟩)
              go_ret
              exact ⟨ret_bool (by rw [HALL.out]; rfl), HB2.out⟩
            · rw [hho, Bool.true_and] at HALL
              rw [hho] at HH
              clear hho
              go_wp2_with (go_at_call 38; refine (HH.out _).mono ?_; rintro e w' ⟨rfl, rfl⟩)
              go_ret
              exact ⟨ret_bool (by rw [HALL.out, decide_eq_decide]; omega), HB2.out⟩
        · rw [show schOk l.sch = true by unfold schOk http https; rw [e1]; rfl, Bool.true_and] at HALL
          cases hho : hostOk l.host
          · rw [hho] at HALL HH
            clear hho
            go_wp2_with (go_at_call 38; refine (HH.out _).mono ?_; rintro e w' ⟨rfl, rfl⟩)
            go_ret
            exact ⟨ret_bool (by rw [HALL.out]; rfl), HB2.out⟩
          · rw [hho, Bool.true_and] at HALL
            rw [hho] at HH
            clear hho
            go_wp2_with (go_at_call 38; refine (HH.out _).mono ?_; rintro e w' ⟨rfl, rfl⟩)
            go_ret
            exact ⟨ret_bool (by rw [HALL.out, decide_eq_decide]; omega), HB2.out⟩
end Go.Proofs.YtjlaelkdmgcniaaDoor
