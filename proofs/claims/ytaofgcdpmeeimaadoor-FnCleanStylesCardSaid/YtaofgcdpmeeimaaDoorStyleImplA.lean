/- Styles: the walk of StyleSafe of impl at the names of colors. -/
import Derived.Test.YtaofgcdpmeeimaaDoorStylePlain
namespace Go.Proofs.YtaofgcdpmeeimaaDoor
open Go.RowKit

set_option maxHeartbeats 2000000 in
theorem impl_StyleSafe_name (n v : Tx) (hn : n = [99, 111, 108, 111, 114] ∨ n = [98, 97, 99, 107, 103, 114, 111, 117, 110, 100]) (hv : v = [98, 108, 97, 99, 107] ∨ v = [119, 104, 105, 116, 101] ∨ v = [114, 101, 100] ∨ v = [103, 114, 101, 101, 110] ∨ v = [98, 108, 117, 101]) (w : World) :
    Calls Tryd.prog 26 #[.agg #[.string ⟨n.toArray⟩, .string ⟨v.toArray⟩]] w fun e w' => e = .returned (.bool true) ∧ Below w.heap.size w w' := by
  rcases hn with rfl | rfl <;> rcases hv with rfl | rfl | rfl | rfl | rfl
  all_goals
    go_enter Tryd.func26, Tryd.ntmps26
    go_wp2
    go_ret
    exact ⟨rfl, by go_grown⟩

set_option maxHeartbeats 2000000 in
theorem impl_StyleSafe_hash (n v : Tx) (hn : n = [99, 111, 108, 111, 114] ∨ n = [98, 97, 99, 107, 103, 114, 111, 117, 110, 100]) (hl : v.length ≤ maxLen) (b1 : (v == [98, 108, 97, 99, 107]) = false) (b2 : (v == [119, 104, 105, 116, 101]) = false) (b3 : (v == [114, 101, 100]) = false) (b4 : (v == [103, 114, 101, 101, 110]) = false) (b5 : (v == [98, 108, 117, 101]) = false) (w : World) :
    Calls Tryd.prog 26 #[.agg #[.string ⟨n.toArray⟩, .string ⟨v.toArray⟩]] w fun e w' => e = .returned (.bool (hashOk v)) ∧ Below w.heap.size w w' := by
  unfold maxLen at hl
  by_cases h47 : v.length = 4 ∨ v.length = 7
  · have h0 : 0 < v.length := by omega
    by_cases hx : hdi v = 35
    · have T6 : Hid (hashOk v = (v.drop 1).all hexc) := by
        show hashOk v = _
        rcases h47 with h | h <;> simp [hashOk, hx, h]
      rw [hdi_get h0] at hx
      have HX := Lib.hid hx
      have hx1 : ((v[0].toNat : Int) != 35) = false := by simp [hx]
      clear hx
      have hx2 : (v[0].toNat : Int) ≤ 35 := by have := HX.out; omega
      have hx3 : 35 ≤ (v[0].toNat : Int) := by have := HX.out; omega
      rcases hn with rfl | rfl <;> rcases h47 with h | h
      all_goals
        have hle1 := Nat.le_of_eq h
        have hle2 := Nat.le_of_eq h.symm
        clear h
        go_enter Tryd.func26, Tryd.ntmps26
        go_wp2
        go_loop [4] (fun i => ∃ k : Nat, 1 ≤ k ∧ k ≤ v.length ∧ i = .int .i64 k ∧ (v.drop k).all hexc = (v.drop 1).all hexc) (fun i => v.length - (intOf i).toNat)
        case atStart => exact ⟨1, Nat.le_refl _, by omega, rfl, rfl⟩
        case round =>
          obtain ⟨k, hk1, hk, rfl, hall⟩ := hrel
          have H := Lib.hid hall
          clear hall
          by_cases hlt : k < v.length
          · go_wp2_with (go_at_call 62; refine (impl_isDigit _ _).mono ?_; rintro e w' ⟨rfl, rfl⟩)
            all_goals first
              | (go_round; (case rel => refine ⟨k + 1, by omega, by omega, by go_num, all_yes H.out hlt ?_⟩; go_light; simp_all [hexc]; try omega); (case measure => simp [intOf]; omega))
              | (go_ret; refine ⟨ret_bool ?_, by go_grown⟩; rw [T6.out]; refine all_no H.out hlt ?_; go_light; simp_all [hexc]; try omega)
          · go_wp2
            go_ret
            exact ⟨ret_bool (by rw [T6.out]; exact all_end H.out hlt), by go_grown⟩
    · have T6 : Hid (hashOk v = false) := by
        show hashOk v = _
        simp [hashOk, hx]
      rw [hdi_get h0] at hx
      have hx1 : ((v[0].toNat : Int) != 35) = true := by simp [hx]
      clear hx
      rcases hn with rfl | rfl <;> rcases h47 with h | h
      all_goals
        have hle1 := Nat.le_of_eq h
        have hle2 := Nat.le_of_eq h.symm
        clear h
        go_enter Tryd.func26, Tryd.ntmps26
        go_wp2
        go_ret
        exact ⟨ret_bool T6.out.symm, by go_grown⟩
  · have T6 : Hid (hashOk v = false) := by
      show hashOk v = _
      simp [hashOk]; omega
    have h4 : ((v.length : Int) != 4) = true := by simp; omega
    have h7 : ((v.length : Int) != 7) = true := by simp; omega
    clear h47
    rcases hn with rfl | rfl
    all_goals
      go_enter Tryd.func26, Tryd.ntmps26
      go_wp2
      go_ret
      exact ⟨ret_bool T6.out.symm, by go_grown⟩

end Go.Proofs.YtaofgcdpmeeimaaDoor
