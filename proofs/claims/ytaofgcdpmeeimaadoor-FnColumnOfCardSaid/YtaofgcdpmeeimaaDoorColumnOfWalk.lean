/- FnColumnOf: a walk. -/
import Derived.Test.YtaofgcdpmeeimaaDoorCellsDraw
import Derived.Test.YtaofgcdpmeeimaaDoorColumnOf
import Derived.Test.YtaofgcdpmeeimaaDoorSameS
import Derived.Test.YtaofgcdpmeeimaaDoorCardKit
import Derived.Deep.QuietTactic
import Derived.BigQuiet
namespace Go.Proofs.YtaofgcdpmeeimaaDoor
open Go.RowKit Go.ChangeShapes Go.WideShapes Go.ChangeAt Go.Joins

theorem short_ssize {B : Nat} : ∀ {xs : List Tx}, ShortS B xs → ssize xs ≤ B * xs.length
  | [], _ => by simp [ssize]
  | x :: t, h => by
    have h1 := short_ssize (xs := t) fun y hy => h y (by simp [hy])
    have h2 := h x (by simp)
    rw [ssize, List.length_cons, Nat.mul_add]
    omega
/-- x is a column of ps: the m-th cell of every row -/
def IsCol (ps x : List Tx) (m : Nat) : Prop := x.length = ps.length ∧ ∀ k (h : k < ps.length) (h' : k < x.length), ∃ cells : List Tx, readRow ps[k] = (cells, true) ∧ cells[m]? = some x[k]
theorem columnOf_cases (ps : List Tx) (col : Int) : columnOf ps col = ([], false) ∨ ∃ m : Nat, col = (m : Int) ∧ ∃ x, columnOf ps col = (x, true) ∧ IsCol ps x m := by
  unfold columnOf
  split
  · rename_i h
    right
    simp only [Bool.and_eq_true, decide_eq_true_eq, List.all_eq_true] at h
    obtain ⟨m, rfl⟩ := Int.eq_ofNat_of_zero_le h.1
    refine ⟨m, rfl, _, rfl, by simp [colTo], fun k hk hk' => ?_⟩
    have h2 := h.2 _ (List.getElem_mem hk)
    simp only [colOk, Bool.and_eq_true, decide_eq_true_eq] at h2
    have hml : m < (readRow ps[k]).1.length := by omega
    refine ⟨(readRow ps[k]).1, ?_, ?_⟩
    · rw [← h2.1]
    · simp [colTo, colAt, hml]
  · exact .inl rfl

set_option maxRecDepth 100000 in
set_option maxHeartbeats 2000000 in
theorem columnOf_walk (bs : Tx) (A : Option Addr) (c : Nat) (w : World) (hr : Rd w w.heap.size A (bcells bs)) (hc : bs.length ≤ c) (hm : bs.length ≤ maxLen) (hmx : Hm w) :
    Calls Tryd.prog 14 #[.slice A bs.length c] w fun e w' => e = .returned (.bool true) ∧ Below w.heap.size w w' := by
  unfold maxLen at hm
  by_cases h : 1048576 < bs.length
  · go_enter Tryd.func14, Tryd.ntmps14
    go_wp2
    go_ret
    exact ⟨rfl, Below.refl _ _⟩
  · have HD := Lib.hid (spec_DrawColumnOf bs A c w hr hc (by omega))
    have HM := Lib.hid hmx
    clear hr hmx
    go_enter Tryd.func14, Tryd.ntmps14
    go_wp2_with fail
    refine HD.out.mono ?_
    rintro e w1 ⟨A1, c1, ps, col, rfl, hlo, hhi, ho1, hn1, hs1, hb1⟩
    have hss := short_ssize hs1
    have HF : Hid (FitS ps) := fun x hx => Nat.le_trans (hs1 x hx) (by decide)
    have HSH := Lib.hid hs1
    have HL : Hid (ps.length ≤ maxLen) := by show _ ≤ _; unfold maxLen; omega
    have HO1 := Lib.hid ho1
    have HB1 := Lib.hid hb1
    clear ho1 hs1 hb1
    have HI := Lib.hid (fun w hr hA hM => impl_ColumnOf ps col A1 c1 w hr hA HF.out HL.out (by omega) hM)
    have HS := Lib.hid (fun w hr hA => spec_ColumnOf ps col A1 c1 w hr hA HF.out HL.out (by omega))
    have HLN := columnOf_len ps col hn1
    have HC := Lib.hid (columnOf_cases ps col)
    obtain ⟨r, hr⟩ : ∃ r, columnOf ps col = r := ⟨_, rfl⟩
    rw [hr] at HLN
    simp only [hr] at HI HS HC
    clear hr
    obtain ⟨x, ok⟩ := r
    dsimp only at HLN
    have HXL : Hid (x.length ≤ maxLen) := by show _ ≤ _; unfold maxLen; omega
    dsimp only
    go_wp2_with fail
    refine (HI.out _ (ownS_rd HO1.out) (own_none HO1.out) (HM.out.below HB1.out)).mono ?_
    rintro e w2 ⟨A2, c2, rfl, ho, hb⟩
    have HB2 := Lib.hid (HB1.out.trans (hb.mono HB1.out.size))
    have hz2 := HB2.out.size
    have HO1 := Lib.hid (ownS_keep HO1.out hb)
    have HO2 := Lib.hid ho
    clear hb ho
    dsimp only
    go_wp2_with fail
    refine (HS.out _ (ownS_rd HO1.out) (own_none HO1.out)).mono ?_
    rintro e w3 ⟨A3, c3, rfl, ho, hb⟩
    have HB3 := Lib.hid (HB2.out.trans (hb.mono HB2.out.size))
    have hz3 := HB3.out.size
    have HO1 := Lib.hid (ownS_keep HO1.out hb)
    have HO2 := Lib.hid (ownS_keep HO2.out hb)
    have HO3 := Lib.hid ho
    clear hb ho
    dsimp only
    go_wp2_with fail
    refine (laws_sameTexts x x A2 A3 c2 c3 _ (ownS_rd HO2.out) (ownS_rd HO3.out) HXL.out).mono ?_
    rw [beq_self_eq_true]
    rintro e w4 ⟨rfl, hb⟩
    have HB4 := Lib.hid (HB3.out.trans (hb.mono HB3.out.size))
    have hz4 := HB4.out.size
    have HO1 := Lib.hid (ownS_keep HO1.out hb)
    have HO2 := Lib.hid (ownS_keep HO2.out hb)
    have HO3 := Lib.hid (ownS_keep HO3.out hb)
    clear hb
    cases ok
    · have hx0 : x = [] := by
        rcases HC.out with h1 | ⟨_, _, _, h2, _⟩
        · injection h1
        · cases h2
      subst hx0
      go_wp2_with fail
      refine (laws_alive _).mono ?_
      rintro e w5 ⟨rfl, hb⟩
      have HB5 := Lib.hid (HB4.out.trans (hb.mono HB4.out.size))
      have hz5 := HB5.out.size
      have HO1 := Lib.hid (ownS_keep HO1.out hb)
      have HO2 := Lib.hid (ownS_keep HO2.out hb)
      have HO3 := Lib.hid (ownS_keep HO3.out hb)
      clear hb
      go_wp2
      go_ret
      exact ⟨rfl, HB5.out⟩
    · obtain ⟨m, rfl, hcol⟩ : ∃ m : Nat, col = (m : Int) ∧ Hid (IsCol ps x m) := by
        rcases HC.out with h1 | ⟨m, h1, y, h2, h3⟩
        · cases h1
        · injection h2 with h2; subst h2; exact ⟨m, h1, h3⟩
      have hxn : x.length = ps.length := hcol.out.1
      have HXN := Lib.hid hxn
      clear HC hxn
      go_wp2
      go_loopw [9] (fun i wr => ∃ (k : Nat), k ≤ ps.length ∧ i = .int .i64 k ∧ Below w4.heap.size w4 wr) (fun i _ => ps.length - (intOf i).toNat)
      case atStart => exact ⟨0, Nat.zero_le _, rfl, Below.refl _ _⟩
      case round =>
        obtain ⟨k, hk, rfl, hb⟩ := hrel
        have HB := Lib.hid (HB4.out.trans (hb.mono HB4.out.size))
        have HO1 := Lib.hid (ownS_keep HO1.out hb)
        have HO2 := Lib.hid (ownS_keep HO2.out hb)
        have HBB := Lib.hid hb
        clear hb
        by_cases hlt : k < ps.length
        · have hlx : k < x.length := by rw [HXN.out]; exact hlt
          obtain ⟨cells, hrow, hcx⟩ := hcol.out.2 k hlt hlx
          obtain ⟨hmc, hxm⟩ := List.getElem?_eq_some_iff.1 hcx
          obtain ⟨b, o, rfl, hab, hc0⟩ := (ownS_rd HO1.out).str hlt
          have h500 : ps[k].length ≤ 500 := HSH.out _ (List.getElem_mem hlt)
          have HR := Lib.hid (fun w hA => impl_ReadRow ps[k] (by unfold maxLen; omega) (by omega) w hA)
          rw [hrow] at HR
          have HXM := Lib.hid hcx
          clear hrow hcx hxm
          go_wp2_with fail
          refine (HR.out _ (HM.out.below HB.out)).mono ?_
          rintro e w5 ⟨A5, c5, rfl, ho, hb⟩
          have HB5 := Lib.hid (HBB.out.trans (hb.mono HBB.out.size))
          have HO5 := Lib.hid ho
          have HO2 := Lib.hid (ownS_keep HO2.out hb)
          clear ho hb
          obtain ⟨b2, o2, rfl, hab2, hc2⟩ := (ownS_rd HO2.out).str hlx
          obtain ⟨b5, o5, rfl, hab5, hc5⟩ := (ownS_rd HO5.out).str hmc
          rw [(List.getElem?_eq_some_iff.1 HXM.out).2] at hc5
          clear HXM
          generalize x[k] = y at *
          have g1 : decide ((m : Int) < 0) = false := by simp
          have g2 : decide (cells.length ≤ m) = false := by simp; omega
          clear hc0
          dsimp only
          go_wp2
          go_quiet (fail)
          go_wp2
          go_roundw
          case rel => exact ⟨k + 1, by omega, by go_num, below_drewN HB5.out _⟩
          case measure => simp [intOf]; omega
        · have hkn : k = ps.length := by omega
          subst hkn
          have e1 : ((x.length : Int) == (ps.length : Int)) = true := by rw [HXN.out]; simp
          have e2 : decide (ps.length < x.length) = false := by have := HXN.out; simp; omega
          go_wp2
          go_ret
          exact ⟨rfl, HB.out⟩

end Go.Proofs.YtaofgcdpmeeimaaDoor
