/- Queries: AskedValid of impl and of spec: walks. -/
import Derived.Test.YtjlaelkdmgcniaaDoorMarkP
import Derived.Test.YtjlaelkdmgcniaaDoorOpen
namespace Go.Proofs.YtjlaelkdmgcniaaDoor
open Go.RowKit

def pairOk (p : Pr) : Bool := nameOk p.1 && valOk p.2
def askedOk (ps : List Pr) : Bool := decide (ps.length ≤ 6) && ps.all pairOk

section
variable {α : Type} {p : α → Bool} {l : List α} {k : Nat} {r : Bool}
theorem allp_yes (h : (l.drop k).all p = r) (hk : k < l.length) (hp : p l[k] = true) : (l.drop (k + 1)).all p = r := by
  rw [drop_cons l k hk, List.all_cons, hp, Bool.true_and] at h; exact h
theorem allp_no (h : (l.drop k).all p = r) (hk : k < l.length) (hp : p l[k] = false) : false = r := by
  rw [drop_cons l k hk, List.all_cons, hp, Bool.false_and] at h; exact h
theorem allp_end (h : (l.drop k).all p = r) (hk : ¬ k < l.length) : true = r := by
  rw [drop_nil l k (by omega)] at h; exact h
end

set_option maxRecDepth 100000 in
set_option maxHeartbeats 1000000 in
theorem impl_AskedValid (ps : List Pr) (A : Option Addr) (c : Nat) (w : World) (hr : Rd w w.heap.size A (pcells ps)) (hf : Fit ps) (hn : ps.length ≤ maxLen) :
    Calls Tryd.prog 40 #[.slice A ps.length c] w fun e w' => e = .returned (.bool (askedOk ps)) ∧ Below w.heap.size w w' := by
  unfold maxLen at hn
  by_cases h6 : ps.length ≤ 6
  · have d6 : decide (6 < (ps.length : Int)) = false := by simp; omega
    have T6 : Hid (askedOk ps = ps.all pairOk) := by show _ = _; simp [askedOk, h6]
    go_enter Tryd.func40, Tryd.ntmps40
    go_wp2
    go_loopw [10] (fun i wr => ∃ (k : Nat), k ≤ ps.length ∧ i = .int .i64 k ∧ (ps.drop k).all pairOk = ps.all pairOk ∧ Below w.heap.size w wr) (fun i _ => ps.length - (intOf i).toNat)
    case atStart => exact ⟨0, Nat.zero_le _, rfl, rfl, Below.refl _ _⟩
    case round =>
      obtain ⟨k, hk, rfl, hall, hb⟩ := hrel
      have H := Lib.hid hall
      have HB := Lib.hid hb
      by_cases hlt : k < ps.length
      · obtain ⟨b, o, rfl, hab, hc0, hc1⟩ := (hr.below hb).pair hlt
        obtain ⟨hla, hlb⟩ := hf _ (List.getElem_mem hlt)
        have HN := Lib.hid (fun w => impl_NameValid ps[k].1 hla w)
        have HV := Lib.hid (fun w => impl_valueOk ps[k].2 hlb w)
        clear hall hb hla hlb
        cases hnm : nameOk ps[k].1
        · have HM := Lib.hid hnm
          clear hnm
          go_wp2_with (go_at_call 55; refine (HN.out _).mono ?_; rintro e w' ⟨rfl, rfl⟩; rw [HM.out])
          go_ret
          exact ⟨ret_bool (by rw [T6.out]; exact allp_no H.out hlt (by simp [pairOk, HM.out])), HB.out.trans (by have := HB.out.size; go_grown)⟩
        · have HM := Lib.hid hnm
          clear hnm
          cases hvl : valOk ps[k].2
          · have HL := Lib.hid hvl
            clear hvl
            go_wp2_with (first | (go_at_call 55; refine (HN.out _).mono ?_; rintro e w' ⟨rfl, rfl⟩; rw [HM.out]) | (go_at_call 56; refine (HV.out _).mono ?_; rintro e w' ⟨rfl, rfl⟩; rw [HL.out]))
            go_ret
            exact ⟨ret_bool (by rw [T6.out]; exact allp_no H.out hlt (by simp [pairOk, HL.out])), HB.out.trans (by have := HB.out.size; go_grown)⟩
          · have HL := Lib.hid hvl
            clear hvl
            go_wp2_with (first | (go_at_call 55; refine (HN.out _).mono ?_; rintro e w' ⟨rfl, rfl⟩; rw [HM.out]) | (go_at_call 56; refine (HV.out _).mono ?_; rintro e w' ⟨rfl, rfl⟩; rw [HL.out]))
            go_roundw
            case rel => exact ⟨k + 1, by omega, by go_num, allp_yes H.out hlt (by simp [pairOk, HM.out, HL.out]), HB.out.trans (by have := HB.out.size; go_grown)⟩
            case measure => simp [intOf]; omega
      · go_wp2
        go_ret
        exact ⟨ret_bool (by rw [T6.out]; exact allp_end H.out hlt), hb⟩
  · have T6 : Hid (askedOk ps = false) := by show _ = _; simp [askedOk]; omega
    go_enter Tryd.func40, Tryd.ntmps40
    go_wp2
    go_ret
    exact ⟨ret_bool T6.out.symm, Below.refl _ _⟩

set_option maxRecDepth 100000 in
set_option maxHeartbeats 1000000 in
theorem spec_AskedValid (ps : List Pr) (A : Option Addr) (c : Nat) (w : World) (hr : Rd w w.heap.size A (pcells ps)) (hf : Fit ps) (hn : ps.length ≤ maxLen) :
    Calls Tryd.prog 51 #[.slice A ps.length c] w fun e w' => e = .returned (.bool (askedOk ps)) ∧ Below w.heap.size w w' := by
  unfold maxLen at hn
  go_enter Tryd.func51, Tryd.ntmps51
  go_wp2
  go_loopw [3] (fun i wr => ∃ (k : Nat), k ≤ ps.length ∧ i = .int .i64 k ∧ (ps.drop k).all pairOk = ps.all pairOk ∧ Below w.heap.size w wr) (fun i _ => ps.length - (intOf i).toNat)
  case atStart => exact ⟨0, Nat.zero_le _, rfl, rfl, Below.refl _ _⟩
  case round =>
    obtain ⟨k, hk, rfl, hall, hb⟩ := hrel
    have H := Lib.hid hall
    have HB := Lib.hid hb
    by_cases hlt : k < ps.length
    · obtain ⟨b, o, rfl, hab, hc0, hc1⟩ := (hr.below hb).pair hlt
      obtain ⟨hla, hlb⟩ := hf _ (List.getElem_mem hlt)
      have HN := Lib.hid (fun w => spec_NameValid ps[k].1 hla w)
      have HV := Lib.hid (fun w => spec_TextValid ps[k].2 hlb w)
      clear hall hb hla
      unfold maxLen at hlb
      cases hnm : nameOk ps[k].1
      · have HM := Lib.hid hnm
        clear hnm
        go_wp2_with (go_at_call 70; refine (HN.out _).mono ?_; rintro e w' ⟨rfl, rfl⟩; rw [HM.out])
        go_ret
        exact ⟨ret_bool (by rw [askedOk, ← allp_no H.out hlt (by simp [pairOk, HM.out]), Bool.and_false]), HB.out⟩
      · have HM := Lib.hid hnm
        clear hnm
        cases hvl : textOk ps[k].2
        · have HL := Lib.hid hvl
          clear hvl
          go_wp2_with (first | (go_at_call 70; refine (HN.out _).mono ?_; rintro e w' ⟨rfl, rfl⟩; rw [HM.out]) | (go_at_call 71; refine (HV.out _).mono ?_; rintro e w' ⟨rfl, rfl⟩; rw [HL.out]))
          go_ret
          exact ⟨ret_bool (by rw [askedOk, ← allp_no H.out hlt (by simp [pairOk, valOk, HL.out]), Bool.and_false]), HB.out⟩
        · have HL := Lib.hid hvl
          clear hvl
          by_cases h40 : ps[k].2.length ≤ 40
          · go_wp2_with (first | (go_at_call 70; refine (HN.out _).mono ?_; rintro e w' ⟨rfl, rfl⟩; rw [HM.out]) | (go_at_call 71; refine (HV.out _).mono ?_; rintro e w' ⟨rfl, rfl⟩; rw [HL.out]))
            go_roundw
            case rel => exact ⟨k + 1, by omega, by go_num, allp_yes H.out hlt (by simp [pairOk, valOk, HM.out, HL.out, h40]), HB.out⟩
            case measure => simp [intOf]; omega
          · go_wp2_with (first | (go_at_call 70; refine (HN.out _).mono ?_; rintro e w' ⟨rfl, rfl⟩; rw [HM.out]) | (go_at_call 71; refine (HV.out _).mono ?_; rintro e w' ⟨rfl, rfl⟩; rw [HL.out]))
            go_ret
            exact ⟨ret_bool (by rw [askedOk, ← allp_no H.out hlt (by simp [pairOk, valOk]; omega), Bool.and_false]), HB.out⟩
    · go_wp2
      go_ret
      exact ⟨ret_bool (by rw [askedOk, ← allp_end H.out hlt, Bool.and_true, Bool.eq_iff_iff]; simp; try omega), hb⟩

end Go.Proofs.YtjlaelkdmgcniaaDoor
