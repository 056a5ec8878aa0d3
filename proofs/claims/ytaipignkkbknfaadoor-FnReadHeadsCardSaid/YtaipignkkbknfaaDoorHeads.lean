/- Headers: HeadsValid of impl and of spec: walks. -/
import Derived.Test.YtaipignkkbknfaaDoorTrim
import Derived.Test.YtaipignkkbknfaaDoorText
import Derived.Test.YtaipignkkbknfaaDoorOpen
namespace Go.Proofs.YtaipignkkbknfaaDoor
open Go.RowKit

def headOk (p : Pr) : Bool := nameOk p.1 && valOk p.2 && (trimSp p.2 == p.2)
def headsOk (ps : List Pr) : Bool := decide (ps.length ≤ 6) && ps.all headOk

section
variable {α : Type} {p : α → Bool} {l : List α} {k : Nat} {r : Bool}
theorem allp_yes (h : (l.drop k).all p = r) (hk : k < l.length) (hp : p l[k] = true) : (l.drop (k + 1)).all p = r := by
  rw [drop_cons l k hk, List.all_cons, hp, Bool.true_and] at h; exact h
theorem allp_no (h : (l.drop k).all p = r) (hk : k < l.length) (hp : p l[k] = false) : false = r := by
  rw [drop_cons l k hk, List.all_cons, hp, Bool.false_and] at h; exact h
theorem allp_end (h : (l.drop k).all p = r) (hk : ¬ k < l.length) : true = r := by
  rw [drop_nil l k (by omega)] at h; exact h
end

set_option maxHeartbeats 1000000 in
theorem impl_HeadsValid (ps : List Pr) (A : Option Addr) (c : Nat) (w : World) (hr : Rd w w.heap.size A (pcells ps)) (hf : Fit ps) (hn : ps.length ≤ maxLen) :
    Calls Tryd.prog 10 #[.slice A ps.length c] w fun e w' => e = .returned (.bool (headsOk ps)) ∧ Below w.heap.size w w' := by
  unfold maxLen at hn
  by_cases h6 : ps.length ≤ 6
  · have d6 : decide (6 < (ps.length : Int)) = false := by simp; omega
    have T6 : Hid (headsOk ps = ps.all headOk) := by show _ = _; simp [headsOk, h6]
    go_enter Tryd.func10, Tryd.ntmps10
    go_wp2
    go_loopw [10] (fun i wr => ∃ (k : Nat), k ≤ ps.length ∧ i = .int .i64 k ∧ (ps.drop k).all headOk = ps.all headOk ∧ Below w.heap.size w wr) (fun i _ => ps.length - (intOf i).toNat)
    case atStart => exact ⟨0, Nat.zero_le _, rfl, rfl, Below.refl _ _⟩
    case round =>
      obtain ⟨k, hk, rfl, hall, hb⟩ := hrel
      have H := Lib.hid hall
      have HB := Lib.hid hb
      by_cases hlt : k < ps.length
      · obtain ⟨b, o, rfl, hab, hc0, hc1⟩ := (hr.below hb).pair hlt
        obtain ⟨hla, hlb⟩ := hf _ (List.getElem_mem hlt)
        have HV0 := Lib.hid (fun w => impl_valueOk ps[k].2 hlb w)
        have HN0 := Lib.hid (fun w => impl_NameValid ps[k].1 hla w)
        have HT := Lib.hid (fun w => strings_Trim ps[k].2 hlb w)
        have HD : Hid (headOk ps[k] = (nameOk ps[k].1 && valOk ps[k].2 && (trimSp ps[k].2 == ps[k].2))) := rfl
        generalize hx : trimSp ps[k].2 = x at *
        clear hall hb hla hlb hx
        cases hnm : nameOk ps[k].1
        · have HM := Lib.hid hnm
          have HN : Hid (∀ w, Calls Tryd.prog 34 #[.string ⟨ps[k].1.toArray⟩] w fun e w' => e = .returned (.bool false) ∧ w' = w) := fun w => by have h := HN0.out w; rw [hnm] at h; exact h.mono fun _ _ ⟨a, b⟩ => ⟨a, b.symm⟩
          clear hnm
          go_wp2_with fail
          go_quiet ((go_at_call 34; exact Calls.quiet_of_same (HN.out _)))
          go_wp2
          go_ret
          exact ⟨ret_bool (by rw [T6.out]; exact allp_no H.out hlt (by rw [HD.out, HM.out]; rfl)), below_drewN (HB.out.trans (by have := HB.out.size; go_grown)) _⟩
        · have HM := Lib.hid hnm
          have HN : Hid (∀ w, Calls Tryd.prog 34 #[.string ⟨ps[k].1.toArray⟩] w fun e w' => e = .returned (.bool true) ∧ w' = w) := fun w => by have h := HN0.out w; rw [hnm] at h; exact h.mono fun _ _ ⟨a, b⟩ => ⟨a, b.symm⟩
          clear hnm
          cases hvl : valOk ps[k].2
          · have HL := Lib.hid hvl
            have HV : Hid (∀ w, Calls Tryd.prog 35 #[.string ⟨ps[k].2.toArray⟩] w fun e w' => e = .returned (.bool false) ∧ w' = w) := fun w => by have h := HV0.out w; rw [hvl] at h; exact h.mono fun _ _ ⟨a, b⟩ => ⟨a, b.symm⟩
            clear hvl
            go_wp2_with fail
            go_quiet ((first | (go_at_call 34; exact Calls.quiet_of_same (HN.out _)) | (go_at_call 35; exact Calls.quiet_of_same (HV.out _)) | (go_at_call 36; exact Calls.quiet_of (HT.out _))))
            go_wp2
            go_ret
            exact ⟨ret_bool (by rw [T6.out]; exact allp_no H.out hlt (by rw [HD.out, HM.out, HL.out]; rfl)), below_drewN (HB.out.trans (by have := HB.out.size; go_grown)) _⟩
          · have HL := Lib.hid hvl
            have HV : Hid (∀ w, Calls Tryd.prog 35 #[.string ⟨ps[k].2.toArray⟩] w fun e w' => e = .returned (.bool true) ∧ w' = w) := fun w => by have h := HV0.out w; rw [hvl] at h; exact h.mono fun _ _ ⟨a, b⟩ => ⟨a, b.symm⟩
            clear hvl
            cases hxe : (x == ps[k].2)
            · have HX := Lib.hid hxe
              have hxn : (x != ps[k].2) = true := by rw [bne, hxe]; rfl
              go_wp2_with fail
              go_quiet ((first | (go_at_call 34; exact Calls.quiet_of_same (HN.out _)) | (go_at_call 35; exact Calls.quiet_of_same (HV.out _)) | (go_at_call 36; exact Calls.quiet_of (HT.out _))))
              go_wp2
              go_ret
              exact ⟨ret_bool (by rw [T6.out]; exact allp_no H.out hlt (by rw [HD.out, HM.out, HL.out, HX.out]; rfl)), below_drewN (HB.out.trans (by have := HB.out.size; go_grown)) _⟩
            · have HX := Lib.hid hxe
              have hxn : (x != ps[k].2) = false := by rw [bne, hxe]; rfl
              go_wp2_with fail
              go_quiet ((first | (go_at_call 34; exact Calls.quiet_of_same (HN.out _)) | (go_at_call 35; exact Calls.quiet_of_same (HV.out _)) | (go_at_call 36; exact Calls.quiet_of (HT.out _))))
              go_wp2
              go_roundw
              case rel => exact ⟨k + 1, by omega, by go_num, allp_yes H.out hlt (by rw [HD.out, HM.out, HL.out, HX.out]; rfl), below_drewN (HB.out.trans (by have := HB.out.size; go_grown)) _⟩
              case measure => simp [intOf]; omega
      · go_wp2
        go_ret
        exact ⟨ret_bool (by rw [T6.out]; exact allp_end H.out hlt), hb⟩
  · have T6 : Hid (headsOk ps = false) := by show _ = _; simp [headsOk]; omega
    go_enter Tryd.func10, Tryd.ntmps10
    go_wp2
    go_ret
    exact ⟨ret_bool T6.out.symm, Below.refl _ _⟩

set_option maxHeartbeats 1000000 in
theorem spec_HeadsValid (ps : List Pr) (A : Option Addr) (c : Nat) (w : World) (hr : Rd w w.heap.size A (pcells ps)) (hf : Fit ps) (hn : ps.length ≤ maxLen) :
    Calls Tryd.prog 11 #[.slice A ps.length c] w fun e w' => e = .returned (.bool (headsOk ps)) ∧ Below w.heap.size w w' := by
  unfold maxLen at hn
  go_enter Tryd.func11, Tryd.ntmps11
  go_wp2
  go_loopw [3] (fun i wr => ∃ (k : Nat), k ≤ ps.length ∧ i = .int .i64 k ∧ (ps.drop k).all headOk = ps.all headOk ∧ Below w.heap.size w wr) (fun i _ => ps.length - (intOf i).toNat)
  case atStart => exact ⟨0, Nat.zero_le _, rfl, rfl, Below.refl _ _⟩
  case round =>
    obtain ⟨k, hk, rfl, hall, hb⟩ := hrel
    have H := Lib.hid hall
    have HB := Lib.hid hb
    by_cases hlt : k < ps.length
    · obtain ⟨b, o, rfl, hab, hc0, hc1⟩ := (hr.below hb).pair hlt
      obtain ⟨hla, hlb⟩ := hf _ (List.getElem_mem hlt)
      have HN := Lib.hid (fun w => spec_NameValid ps[k].1 hla w)
      have HV := Lib.hid (fun w => spec_TextValid ps[k].2 hlb w)
      have HT := Lib.hid (fun w => spec_l29Trim ps[k].2 hlb w)
      have HD : Hid (headOk ps[k] = (nameOk ps[k].1 && (decide (ps[k].2.length ≤ 40) && textOk ps[k].2) && (trimSp ps[k].2 == ps[k].2))) := rfl
      generalize hx : trimSp ps[k].2 = x at *
      clear hall hb hla hx
      unfold maxLen at hlb
      cases hnm : nameOk ps[k].1
      · have HM := Lib.hid hnm
        clear hnm
        go_wp2_with (go_at_call 37; refine (HN.out _).mono ?_; rintro e w' ⟨rfl, rfl⟩; rw [HM.out])
        go_ret
        exact ⟨ret_bool (by rw [headsOk, ← allp_no H.out hlt (by rw [HD.out, HM.out]; rfl), Bool.and_false]), HB.out⟩
      · have HM := Lib.hid hnm
        clear hnm
        cases hvl : textOk ps[k].2
        · have HL := Lib.hid hvl
          clear hvl
          go_wp2_with (first | (go_at_call 37; refine (HN.out _).mono ?_; rintro e w' ⟨rfl, rfl⟩; rw [HM.out]) | (go_at_call 38; refine (HV.out _).mono ?_; rintro e w' ⟨rfl, rfl⟩; rw [HL.out]) | (go_at_call 39; refine (HT.out _).mono ?_; rintro e w' ⟨rfl, rfl⟩))
          go_ret
          exact ⟨ret_bool (by rw [headsOk, ← allp_no H.out hlt (by rw [HD.out, HM.out, HL.out, Bool.and_false]; rfl), Bool.and_false]), HB.out⟩
        · have HL := Lib.hid hvl
          clear hvl
          by_cases h40 : ps[k].2.length ≤ 40
          · cases hxe : (x == ps[k].2)
            · have HX := Lib.hid hxe
              go_wp2_with (first | (go_at_call 37; refine (HN.out _).mono ?_; rintro e w' ⟨rfl, rfl⟩; rw [HM.out]) | (go_at_call 38; refine (HV.out _).mono ?_; rintro e w' ⟨rfl, rfl⟩; rw [HL.out]) | (go_at_call 39; refine (HT.out _).mono ?_; rintro e w' ⟨rfl, rfl⟩))
              go_ret
              exact ⟨ret_bool (by rw [headsOk, ← allp_no H.out hlt (by rw [HD.out, HM.out, HL.out, HX.out, Bool.and_false]), Bool.and_false]), HB.out⟩
            · have HX := Lib.hid hxe
              have H40 : Hid (decide (ps[k].2.length ≤ 40) = true) := decide_eq_true h40
              go_wp2_with (first | (go_at_call 37; refine (HN.out _).mono ?_; rintro e w' ⟨rfl, rfl⟩; rw [HM.out]) | (go_at_call 38; refine (HV.out _).mono ?_; rintro e w' ⟨rfl, rfl⟩; rw [HL.out]) | (go_at_call 39; refine (HT.out _).mono ?_; rintro e w' ⟨rfl, rfl⟩))
              go_roundw
              case rel => exact ⟨k + 1, by omega, by go_num, allp_yes H.out hlt (by rw [HD.out, HM.out, HL.out, HX.out, H40.out]; rfl), HB.out⟩
              case measure => simp [intOf]; omega
          · have H40 : Hid (decide (ps[k].2.length ≤ 40) = false) := decide_eq_false h40
            go_wp2_with (first | (go_at_call 37; refine (HN.out _).mono ?_; rintro e w' ⟨rfl, rfl⟩; rw [HM.out]) | (go_at_call 38; refine (HV.out _).mono ?_; rintro e w' ⟨rfl, rfl⟩; rw [HL.out]) | (go_at_call 39; refine (HT.out _).mono ?_; rintro e w' ⟨rfl, rfl⟩))
            go_ret
            exact ⟨ret_bool (by rw [headsOk, ← allp_no H.out hlt (by rw [HD.out, HM.out, H40.out]; rfl), Bool.and_false]), HB.out⟩
    · go_wp2
      go_ret
      exact ⟨ret_bool (by rw [headsOk, ← allp_end H.out hlt, Bool.and_true, Bool.eq_iff_iff]; simp; try omega), hb⟩
end Go.Proofs.YtaipignkkbknfaaDoor
