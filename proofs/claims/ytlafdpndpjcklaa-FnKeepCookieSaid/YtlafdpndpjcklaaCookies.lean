/- CookiesValid and KeepCookie of impl and of spec: walks. -/
import Derived.Test.YtlafdpndpjcklaaCookieS
import Derived.Test.YtlafdpndpjcklaaText
import Derived.Deep.QuietTactic
import Derived.BigQuiet
namespace Go.Proofs.Ytlafdpndpjcklaa
open Go.RowKit

def ckOk (p : Ck) : Bool := nameOk p.1 && valOk p.2.1 && decide (0 ≤ p.2.2) && decide (p.2.2 ≤ 9999)
/-- no earlier one has its name -/
def newName (ps : List Ck) (k : Nat) (n : Tx) : Bool := (ps.take k).all fun d => !(d.1 == n)
def okAt (ps : List Ck) (k : Nat) : Bool := match ps[k]? with
  | some p => ckOk p && newName ps k p.1
  | none => true
/-- all from k on are right -/
def okFrom (ps : List Ck) (k : Nat) : Bool := (List.range (ps.length - k)).all fun j => okAt ps (k + j)
def cookiesOk (ps : List Ck) : Bool := decide (ps.length ≤ 6) && okFrom ps 0

theorem okFrom_step (ps : List Ck) (k : Nat) (h : k < ps.length) : okFrom ps k = (ckOk ps[k] && newName ps k ps[k].1 && okFrom ps (k + 1)) := by
  unfold okFrom
  have e : ps.length - k = (ps.length - (k + 1)) + 1 := by omega
  rw [e, List.range_succ_eq_map, List.all_cons, List.all_map]
  have e0 : okAt ps (k + 0) = (ckOk ps[k] && newName ps k ps[k].1) := by
    simp only [okAt, Nat.add_zero, List.getElem?_eq_getElem h]
  rw [e0]
  congr 1
  refine congrArg (fun f => (List.range (ps.length - (k + 1))).all f) ?_
  funext j
  simp only [Function.comp_apply]
  rw [show k + (j + 1) = k + 1 + j by omega]
theorem okFrom_end (ps : List Ck) (k : Nat) (h : ¬ k < ps.length) : okFrom ps k = true := by
  unfold okFrom
  rw [show ps.length - k = 0 by omega]
  rfl

/-- the inner look at the names -/
theorem newName_step {ps : List Ck} {k j : Nat} {n : Tx} {r : Bool} (h : ((ps.take k).drop j).all (fun d => !(d.1 == n)) = r) (hj : j < k) (hk : k ≤ ps.length) :
    (!(ps[j].1 == n) && ((ps.take k).drop (j + 1)).all (fun d => !(d.1 == n))) = r := by
  have hl : j < (ps.take k).length := by rw [List.length_take]; omega
  rw [← h, drop_cons _ j hl, List.all_cons, List.getElem_take]

theorem okFrom_no {ps : List Ck} {k : Nat} {r : Bool} (h : okFrom ps k = r) (hk : k < ps.length) (hb : (ckOk ps[k] && newName ps k ps[k].1) = false) : false = r := by
  rw [okFrom_step ps k hk, hb, Bool.false_and] at h; exact h
theorem okFrom_yes {ps : List Ck} {k : Nat} {r : Bool} (h : okFrom ps k = r) (hk : k < ps.length) (hb : (ckOk ps[k] && newName ps k ps[k].1) = true) : okFrom ps (k + 1) = r := by
  rw [okFrom_step ps k hk, hb, Bool.true_and] at h; exact h

set_option maxRecDepth 100000 in
set_option maxHeartbeats 1000000 in
theorem impl_cookieOk (a b : Tx) (u : Int) (ha : a.length ≤ maxLen) (hb : b.length ≤ maxLen) (w : World) :
    Calls Try.prog 13 #[.agg #[.string ⟨a.toArray⟩, .string ⟨b.toArray⟩, .int .i64 u]] w fun e w' => e = .returned (.bool (ckOk (a, b, u))) ∧ Below w.heap.size w w' := by
  have HN := Lib.hid (fun w => impl_NameValid a ha w)
  have HV := Lib.hid (fun w => impl_valueOk b hb w)
  have T6 : Hid (ckOk (a, b, u) = (nameOk a && valOk b && decide (0 ≤ u) && decide (u ≤ 9999))) := rfl
  generalize ckOk (a, b, u) = r at *
  clear ha hb
  cases hnm : nameOk a
  · have HM := Lib.hid hnm
    clear hnm
    go_enter Try.func13, Try.ntmps13
    go_wp2_with (go_at_call 18; refine (HN.out _).mono ?_; rintro e w' ⟨rfl, rfl⟩; rw [HM.out])
    go_ret
    exact ⟨ret_bool (by rw [T6.out, HM.out]; simp), by go_grown⟩
  · have HM := Lib.hid hnm
    clear hnm
    cases hvl : valOk b
    · have HL := Lib.hid hvl
      clear hvl
      go_enter Try.func13, Try.ntmps13
      go_wp2_with (first | (go_at_call 18; refine (HN.out _).mono ?_; rintro e w' ⟨rfl, rfl⟩; rw [HM.out]) | (go_at_call 19; refine (HV.out _).mono ?_; rintro e w' ⟨rfl, rfl⟩; rw [HL.out]))
      go_ret
      exact ⟨ret_bool (by rw [T6.out, HM.out, HL.out]; simp), by go_grown⟩
    · have HL := Lib.hid hvl
      clear hvl
      have T7 : Hid (r = (decide (0 ≤ u) && decide (u ≤ 9999))) := by show _ = _; rw [T6.out, HM.out, HL.out]; simp
      by_cases h0 : 0 ≤ u
      · by_cases h1 : u ≤ 9999
        · go_enter Try.func13, Try.ntmps13
          go_wp2_with (first | (go_at_call 18; refine (HN.out _).mono ?_; rintro e w' ⟨rfl, rfl⟩; rw [HM.out]) | (go_at_call 19; refine (HV.out _).mono ?_; rintro e w' ⟨rfl, rfl⟩; rw [HL.out]))
          go_ret
          exact ⟨ret_bool (by rw [T7.out]; simp [h0, h1]), by go_grown⟩
        · go_enter Try.func13, Try.ntmps13
          go_wp2_with (first | (go_at_call 18; refine (HN.out _).mono ?_; rintro e w' ⟨rfl, rfl⟩; rw [HM.out]) | (go_at_call 19; refine (HV.out _).mono ?_; rintro e w' ⟨rfl, rfl⟩; rw [HL.out]))
          go_ret
          exact ⟨ret_bool (by rw [T7.out]; simp; omega), by go_grown⟩
      · go_enter Try.func13, Try.ntmps13
        go_wp2_with (first | (go_at_call 18; refine (HN.out _).mono ?_; rintro e w' ⟨rfl, rfl⟩; rw [HM.out]) | (go_at_call 19; refine (HV.out _).mono ?_; rintro e w' ⟨rfl, rfl⟩; rw [HL.out]))
        go_ret
        exact ⟨ret_bool (by rw [T7.out]; simp; omega), by go_grown⟩

set_option maxRecDepth 100000 in
set_option maxHeartbeats 4000000 in
theorem impl_CookiesValid (ps : List Ck) (A : Option Addr) (c : Nat) (w : World) (hr : Rd w w.heap.size A (ccells ps)) (hf : FitC ps) (hc : ps.length ≤ c) (hn : ps.length ≤ maxLen) :
    Calls Try.prog 9 #[.slice A ps.length c] w fun e w' => e = .returned (.bool (cookiesOk ps)) ∧ Below w.heap.size w w' := by
  unfold maxLen at hn
  by_cases h6 : ps.length ≤ 6
  · have d6 : decide (6 < (ps.length : Int)) = false := by simp; omega
    have T6 : Hid (cookiesOk ps = okFrom ps 0) := by show _ = _; simp [cookiesOk, h6]
    go_enter Try.func9, Try.ntmps9
    go_wp2
    go_loopw [12] (fun i wr => ∃ (k : Nat), k ≤ ps.length ∧ i = .int .i64 k ∧ okFrom ps k = okFrom ps 0 ∧ Below w.heap.size w wr) (fun i _ => ps.length - (intOf i).toNat)
    case atStart => exact ⟨0, Nat.zero_le _, rfl, rfl, Below.refl _ _⟩
    case round =>
      obtain ⟨k, hk, rfl, hall, hb⟩ := hrel
      obtain ⟨wo, rfl⟩ : ∃ wo : World, wo = wr := ⟨_, rfl⟩
      have H := Lib.hid hall
      have HB := Lib.hid hb
      by_cases hlt : k < ps.length
      · obtain ⟨b, o, rfl, hab, hc0, hc1, hc2⟩ := (hr.below hb).cookie hlt
        obtain ⟨hla, hlb⟩ := hf _ (List.getElem_mem hlt)
        have HK := Lib.hid (fun w => impl_cookieOk ps[k].1 ps[k].2.1 ps[k].2.2 hla hlb w)
        have hsz := hb.size
        clear hall hb hla hlb
        go_wp2_with fail
        refine (HK.out _).mono ?_
        rintro e w1 ⟨rfl, hb1⟩
        have hbx := below_cells hb1
        have hz1 := hb1.size
        (try simp at hz1)
        have HB1 := Lib.hid ((HB.out.alloc HB.out.size _).trans (hb1.mono (by simp; omega)))
        have hcx : w1.cell? ⟨wo.heap.size, 0, none⟩ = some (sv ps[k].1) := by rw [hbx _ _ (by simp)]; exact World.cell?_alloc_at _ _ _ _ rfl
        have HCX := Lib.hid hcx
        clear hbx hb1 hc0 hc1 hc2
        cases hck : ckOk ps[k]
        · have HCK2 := Lib.hid hck
          clear hck
          go_wp2
          go_ret
          exact ⟨ret_bool (by rw [T6.out]; exact okFrom_no H.out hlt (by rw [HCK2.out, Bool.false_and])), HB1.out⟩
        · have HCK2 := Lib.hid hck
          clear hck
          go_wp2
          go_loopw [24] (fun i wi => ∃ (j : Nat), j ≤ k ∧ i = .int .i64 j ∧ ((ps.take k).drop j).all (fun d => !(d.1 == ps[k].1)) = newName ps k ps[k].1 ∧ Below (wo.heap.size + 1) w1 wi ∧ Below w.heap.size w wi) (fun i _ => k - (intOf i).toNat)
          case atStart => exact ⟨0, Nat.zero_le _, rfl, rfl, Below.refl _ _, HB1.out⟩
          case round =>
            obtain ⟨j, hj, rfl, hin, hbi, hbw⟩ := hrel
            have HIN := Lib.hid hin
            have HBI := Lib.hid hbi
            have HBW := Lib.hid hbw
            have hszi := hbw.size
            by_cases hlj : j < k
            · have hjn : j < ps.length := by omega
              obtain ⟨b', o', he', hab', hd0, hd1, hd2⟩ := (hr.below hbw).cookie hjn
              simp only [Option.some.injEq, Addr.mk.injEq, and_true] at he'
              obtain ⟨rfl, rfl⟩ := he'
              have hcy : wr.cell? ⟨wo.heap.size, 0, none⟩ = some (sv ps[k].1) := (hbi.cell (p := ⟨wo.heap.size, 0, none⟩) (by simp)).trans HCX.out
              have hszj : wo.heap.size < wr.heap.size := by have := hbi.size; omega
              clear hin hbi hbw
              cases he : (ps[j].1 == ps[k].1)
              · have HE := Lib.hid he
                go_wp2
                go_roundw
                case rel =>
                  refine ⟨j + 1, by omega, by go_num, ?_, HBI.out.alloc (by omega) _, HBW.out.alloc (by omega) _⟩
                  have := newName_step HIN.out hlj (by omega)
                  rwa [HE.out, Bool.not_false, Bool.true_and] at this
                case measure => simp [intOf]; omega
              · have HE := Lib.hid he
                go_wp2
                go_ret
                refine ⟨ret_bool ?_, HBW.out.alloc (by omega) _⟩
                rw [T6.out]
                refine okFrom_no H.out hlt ?_
                have := newName_step HIN.out hlj (by omega)
                rw [HE.out, Bool.not_true, Bool.false_and] at this
                rw [← this, Bool.and_false]
            · clear hin hbi hbw
              go_wp2
              go_roundw
              case rel =>
                refine ⟨k + 1, by omega, by go_num, okFrom_yes H.out hlt ?_, HBW.out⟩
                have hjk : j = k := by omega
                subst hjk
                have := HIN.out
                rw [drop_nil _ _ (by rw [List.length_take]; omega)] at this
                rw [HCK2.out, ← this]
                rfl
              case measure => simp [intOf]; omega
      · go_wp2
        go_ret
        exact ⟨ret_bool (by rw [T6.out, ← H.out, okFrom_end ps k hlt]), hb⟩
  · have T6 : Hid (cookiesOk ps = false) := by show _ = _; simp [cookiesOk]; omega
    go_enter Try.func9, Try.ntmps9
    go_wp2
    go_ret
    exact ⟨ret_bool T6.out.symm, Below.refl _ _⟩

set_option maxRecDepth 100000 in
set_option maxHeartbeats 4000000 in
theorem spec_CookiesValid (ps : List Ck) (A : Option Addr) (c : Nat) (w : World) (hr : Rd w w.heap.size A (ccells ps)) (hf : FitC ps) (hn : ps.length ≤ maxLen) :
    Calls Try.prog 14 #[.slice A ps.length c] w fun e w' => e = .returned (.bool (cookiesOk ps)) ∧ Below w.heap.size w w' := by
  unfold maxLen at hn
  have T6 : Hid (cookiesOk ps = (decide (ps.length ≤ 6) && okFrom ps 0)) := rfl
  go_enter Try.func14, Try.ntmps14
  go_wp2
  go_loopw [3] (fun i wr => ∃ (k : Nat), k ≤ ps.length ∧ i = .int .i64 k ∧ okFrom ps k = okFrom ps 0 ∧ Below w.heap.size w wr) (fun i _ => ps.length - (intOf i).toNat)
  case atStart => exact ⟨0, Nat.zero_le _, rfl, rfl, Below.refl _ _⟩
  case round =>
    obtain ⟨k, hk, rfl, hall, hb⟩ := hrel
    obtain ⟨wo, rfl⟩ : ∃ wo : World, wo = wr := ⟨_, rfl⟩
    have H := Lib.hid hall
    have HB := Lib.hid hb
    by_cases hlt : k < ps.length
    · obtain ⟨b, o, rfl, hab, hc0, hc1, hc2⟩ := (hr.below hb).cookie hlt
      obtain ⟨hla, hlb⟩ := hf _ (List.getElem_mem hlt)
      have HN := Lib.hid (fun w => spec_NameValid ps[k].1 hla w)
      have HV := Lib.hid (fun w => spec_TextValid ps[k].2.1 hlb w)
      have HI := Lib.hid (fun w => spec_l1In ps[k].2.2 0 9999 w)
      have hsz := hb.size
      clear hall hb hla
      unfold maxLen at hlb
      have HCO : Hid (ckOk ps[k] = (nameOk ps[k].1 && (textOk ps[k].2.1 && decide (ps[k].2.1.length ≤ 40)) && decide (0 ≤ ps[k].2.2) && decide (ps[k].2.2 ≤ 9999))) := by show _ = _; simp only [ckOk, valOk, Bool.and_comm (textOk _)]
      cases hnm : nameOk ps[k].1
      · have HM := Lib.hid hnm
        clear hnm
        go_wp2_with (first | (go_at_call 20; refine (HN.out _).mono ?_; rintro e w' ⟨rfl, rfl⟩; rw [HM.out]) | (go_at_call 21; refine (HV.out _).mono ?_; rintro e w' ⟨rfl, rfl⟩; rw [HL.out]) | (go_at_call 15; refine (HI.out _).mono ?_; rintro e w' ⟨rfl, rfl⟩; rw [HJ.out]))
        go_ret
        exact ⟨ret_bool (by rw [T6.out, ← okFrom_no H.out hlt (by rw [HCO.out, HM.out]; rfl), Bool.and_false]), HB.out.alloc HB.out.size _⟩
      · have HM := Lib.hid hnm
        clear hnm
        cases hvl : textOk ps[k].2.1
        · have HL := Lib.hid hvl
          clear hvl
          go_wp2_with (first | (go_at_call 20; refine (HN.out _).mono ?_; rintro e w' ⟨rfl, rfl⟩; rw [HM.out]) | (go_at_call 21; refine (HV.out _).mono ?_; rintro e w' ⟨rfl, rfl⟩; rw [HL.out]) | (go_at_call 15; refine (HI.out _).mono ?_; rintro e w' ⟨rfl, rfl⟩; rw [HJ.out]))
          go_ret
          exact ⟨ret_bool (by rw [T6.out, ← okFrom_no H.out hlt (by rw [HCO.out, HM.out, HL.out]; rfl), Bool.and_false]), HB.out.alloc HB.out.size _⟩
        · have HL := Lib.hid hvl
          clear hvl
          by_cases h40 : ps[k].2.1.length ≤ 40
          · have HC1 : Hid (ckOk ps[k] = (decide (0 ≤ ps[k].2.2) && decide (ps[k].2.2 ≤ 9999))) := by show _ = _; rw [HCO.out, HM.out, HL.out]; simp [h40]
            cases hij : (decide (0 ≤ ps[k].2.2) && decide (ps[k].2.2 ≤ 9999))
            · have HJ := Lib.hid hij
              clear hij
              go_wp2_with (first | (go_at_call 20; refine (HN.out _).mono ?_; rintro e w' ⟨rfl, rfl⟩; rw [HM.out]) | (go_at_call 21; refine (HV.out _).mono ?_; rintro e w' ⟨rfl, rfl⟩; rw [HL.out]) | (go_at_call 15; refine (HI.out _).mono ?_; rintro e w' ⟨rfl, rfl⟩; rw [HJ.out]))
              go_ret
              exact ⟨ret_bool (by rw [T6.out, ← okFrom_no H.out hlt (by rw [HC1.out, HJ.out]; rfl), Bool.and_false]), HB.out.alloc HB.out.size _⟩
            · have HJ := Lib.hid hij
              clear hij
              have HCK2 : Hid (ckOk ps[k] = true) := by show _ = _; rw [HC1.out, HJ.out]
              go_wp2_with (first | (go_at_call 20; refine (HN.out _).mono ?_; rintro e w' ⟨rfl, rfl⟩; rw [HM.out]) | (go_at_call 21; refine (HV.out _).mono ?_; rintro e w' ⟨rfl, rfl⟩; rw [HL.out]) | (go_at_call 15; refine (HI.out _).mono ?_; rintro e w' ⟨rfl, rfl⟩; rw [HJ.out]))
              go_loopw [5] (fun i wi => ∃ (j : Nat), j ≤ k ∧ i = .int .i64 j ∧ ((ps.take k).drop j).all (fun d => !(d.1 == ps[k].1)) = newName ps k ps[k].1 ∧ wi.cell? ⟨wo.heap.size, 0, none⟩ = some (sv ps[k].1) ∧ wo.heap.size < wi.heap.size ∧ Below w.heap.size w wi) (fun i _ => k - (intOf i).toNat)
              case atStart => exact ⟨0, Nat.zero_le _, rfl, rfl, World.cell?_alloc_at _ _ _ _ rfl, by simp, HB.out.alloc HB.out.size _⟩
              case round =>
                obtain ⟨j, hj, rfl, hin, hcy, hszj, hbw⟩ := hrel
                have HIN := Lib.hid hin
                have HBW := Lib.hid hbw
                have HCY := Lib.hid hcy
                have hszi := hbw.size
                by_cases hlj : j < k
                · have hjn : j < ps.length := by omega
                  clear hc0 hc1 hc2
                  obtain ⟨b', o', he', hab', hd0, hd1, hd2⟩ := (hr.below hbw).cookie hjn
                  simp only [Option.some.injEq, Addr.mk.injEq, and_true] at he'
                  obtain ⟨rfl, rfl⟩ := he'
                  clear hin hbw
                  cases he : (ps[j].1 == ps[k].1)
                  · have HE := Lib.hid he
                    go_wp2_with (go_quiet (fail))
                    go_roundw
                    case rel =>
                      refine ⟨j + 1, by omega, by go_num, ?_, HCY.out, hszj, HBW.out.trans ⟨rfl, rfl, rfl, Nat.le_refl _, fun _ _ => rfl⟩⟩
                      have := newName_step HIN.out hlj (by omega)
                      rwa [HE.out, Bool.not_false, Bool.true_and] at this
                    case measure => simp [intOf]; omega
                  · have HE := Lib.hid he
                    go_wp2_with (go_quiet (fail))
                    go_ret
                    refine ⟨ret_bool ?_, HBW.out.trans ⟨rfl, rfl, rfl, Nat.le_refl _, fun _ _ => rfl⟩⟩
                    rw [T6.out, ← okFrom_no H.out hlt, Bool.and_false]
                    have := newName_step HIN.out hlj (by omega)
                    rw [HE.out, Bool.not_true, Bool.false_and] at this
                    rw [← this, Bool.and_false]
                · clear hin hbw
                  go_wp2
                  go_roundw
                  case rel =>
                    refine ⟨k + 1, by omega, by go_num, okFrom_yes H.out hlt ?_, HBW.out⟩
                    have hjk : j = k := by omega
                    subst hjk
                    have := HIN.out
                    rw [drop_nil _ _ (by rw [List.length_take]; omega)] at this
                    rw [HCK2.out, ← this]
                    rfl
                  case measure => simp [intOf]; omega
          · go_wp2_with (first | (go_at_call 20; refine (HN.out _).mono ?_; rintro e w' ⟨rfl, rfl⟩; rw [HM.out]) | (go_at_call 21; refine (HV.out _).mono ?_; rintro e w' ⟨rfl, rfl⟩; rw [HL.out]) | (go_at_call 15; refine (HI.out _).mono ?_; rintro e w' ⟨rfl, rfl⟩; rw [HJ.out]))
            go_ret
            exact ⟨ret_bool (by rw [T6.out, ← okFrom_no H.out hlt (by rw [HCO.out]; simp [h40]), Bool.and_false]), HB.out.alloc HB.out.size _⟩
    · go_wp2
      go_ret
      exact ⟨ret_bool (by rw [T6.out, ← H.out, okFrom_end ps k hlt, Bool.and_true, Bool.eq_iff_iff]; simp; try omega), hb⟩

end Go.Proofs.Ytlafdpndpjcklaa
