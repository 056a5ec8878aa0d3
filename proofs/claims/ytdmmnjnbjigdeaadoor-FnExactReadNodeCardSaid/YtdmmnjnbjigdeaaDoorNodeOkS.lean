/- NodeValid of spec: walks. -/
import Derived.Test.YtdmmnjnbjigdeaaDoorNodeOkI
namespace Go.Proofs.YtdmmnjnbjigdeaaDoor
open Go.RowKit

theorem any_false {ns : List Tx} {x : Tx} {j : Nat} (h : ∀ q (hq : q < ns.length), q < j → ns[q] ≠ x) : ((ns.take j).any fun y => y == x) = false := by
  rw [Bool.eq_false_iff]
  intro hh
  obtain ⟨y, hy, e⟩ := List.any_eq_true.1 hh
  obtain ⟨q, hq, rfl⟩ := List.mem_iff_getElem.1 hy
  rw [List.length_take] at hq
  rw [List.getElem_take] at e
  exact h q (by omega) (by omega) (by simpa using e)
theorem any_true {ns : List Tx} {x : Tx} {j q : Nat} (hq : q < ns.length) (hj : q < j) (h : ns[q] = x) : ((ns.take j).any fun y => y == x) = true := by
  refine List.any_eq_true.2 ⟨ns[q], ?_, by rw [h]; simp⟩
  refine List.mem_iff_getElem.2 ⟨q, by rw [List.length_take]; omega, by rw [List.getElem_take]⟩
set_option maxRecDepth 100000 in
set_option maxHeartbeats 8000000 in
theorem spec_l26Good (a : Nd) : OkC 40 a := by
  induction a using Nd.ind with
  | h k n t ns xs ih =>
  intro d u w hd hu hsz
  obtain ⟨An, cn, Ai, ci, rfl, hrn, hcn, hci, hri⟩ := hu.parts
  simp only [Nd.size] at hsz
  have HSZ := Lib.hid hsz
  have hB0 := (Below.refl w.heap.size w).alloc (Nat.le_refl _) (.cells (ndCells k n t An ns.length cn Ai xs.length ci) 26)
  have HB0 := Lib.hid hB0
  have HX0 := Lib.hid (heap_alloc_new w (.cells (ndCells k n t An ns.length cn Ai xs.length ci) 26))
  have HR0 := Lib.hid (hri.now hB0)
  have HN0 := Lib.hid (hrn.now hB0)
  have HOK : Hid (Nd.ok (.mk k n t ns xs) d = (decide (d ≠ 0) && (headOkN k n t ns xs.length && Nd.oks xs (d - 1)))) := by show _ = _; simp only [Nd.ok]
  have HTV := Lib.hid (fun w => spec_TextValid t (by unfold maxLen; omega) w)
  have hxl : xs.length ≤ 1048576 := by omega
  have hnl : ns.length ≤ 1048576 := by omega
  have hzz : w.heap.size < (w.alloc (.cells (ndCells k n t An ns.length cn Ai xs.length ci) 26)).heap.size := by simp
  have IH := Lib.hid ih
  clear hu hrn hri hB0 ih hsz
  by_cases hk1 : k < 1
  · have HE : Hid (Nd.ok (.mk k n t ns xs) d = false) := by show _ = _; rw [HOK.out]; simp [headOkN]; intros; omega
    have a1 : decide (1 ≤ k) = false := by simp; omega
    go_enter Tryd.func40, Tryd.ntmps40
    go_wp2_with (first | (go_at_call 59; refine (HTV.out _).mono ?_; rintro e w' ⟨rfl, rfl⟩) | (go_at_call 58; refine (spec_l1In _ _ _ _).mono ?_; rintro e w' ⟨rfl, rfl⟩))
    all_goals (go_ret; exact ⟨ret_bool HE.out.symm, HB0.out⟩)
  by_cases hk6 : 6 < k
  · have HE : Hid (Nd.ok (.mk k n t ns xs) d = false) := by show _ = _; rw [HOK.out]; simp [headOkN]; intros; omega
    have a1 : decide (1 ≤ k) = true := by simp; omega
    have a2 : decide (k ≤ 6) = false := by simp; omega
    go_enter Tryd.func40, Tryd.ntmps40
    go_wp2_with (first | (go_at_call 59; refine (HTV.out _).mono ?_; rintro e w' ⟨rfl, rfl⟩) | (go_at_call 58; refine (spec_l1In _ _ _ _).mono ?_; rintro e w' ⟨rfl, rfl⟩))
    all_goals (go_ret; exact ⟨ret_bool HE.out.symm, HB0.out⟩)
  by_cases hd0 : d = 0
  · subst hd0
    have HE : Hid (Nd.ok (.mk k n t ns xs) 0 = false) := by show _ = _; rw [HOK.out]; rfl
    have a1 : decide (1 ≤ k) = true := by simp; omega
    have a2 : decide (k ≤ 6) = true := by simp; omega
    go_enter Tryd.func40, Tryd.ntmps40
    go_wp2_with (first | (go_at_call 59; refine (HTV.out _).mono ?_; rintro e w' ⟨rfl, rfl⟩) | (go_at_call 58; refine (spec_l1In _ _ _ _).mono ?_; rintro e w' ⟨rfl, rfl⟩))
    all_goals (go_ret; exact ⟨ret_bool HE.out.symm, HB0.out⟩)
  have hd1 : decide ((d : Int) < 1) = false := by simp; omega
  obtain rfl | rfl | rfl | rfl | rfl | rfl : k = 1 ∨ k = 2 ∨ k = 3 ∨ k = 4 ∨ k = 5 ∨ k = 6 := by omega
  all_goals clear hk1 hk6
  · by_cases hn : n = 0
    case neg =>
      have hn' : (n != 0) = true := by simpa using hn
      have HE : Hid (Nd.ok (.mk 1 n t ns xs) d = false) := by show _ = _; rw [HOK.out]; simp [headOkN, numOk, hn]
      clear hn
      go_enter Tryd.func40, Tryd.ntmps40
      go_wp2_with (first | (go_at_call 59; refine (HTV.out _).mono ?_; rintro e w' ⟨rfl, rfl⟩) | (go_at_call 58; refine (spec_l1In _ _ _ _).mono ?_; rintro e w' ⟨rfl, rfl⟩))
      all_goals (go_ret; exact ⟨ret_bool HE.out.symm, HB0.out⟩)
    subst hn
    by_cases ht : List.isEmpty t = true
    case neg =>
      have ht' : List.isEmpty t = false := by simpa using ht
      have HE : Hid (Nd.ok (.mk 1 0 t ns xs) d = false) := by show _ = _; rw [HOK.out]; simp [headOkN, txtOk]; intros; simp_all
      clear ht
      go_enter Tryd.func40, Tryd.ntmps40
      go_wp2_with (first | (go_at_call 59; refine (HTV.out _).mono ?_; rintro e w' ⟨rfl, rfl⟩) | (go_at_call 58; refine (spec_l1In _ _ _ _).mono ?_; rintro e w' ⟨rfl, rfl⟩))
      all_goals (go_ret; exact ⟨ret_bool HE.out.symm, HB0.out⟩)
    have htx : textOk t = true := by rw [show t = [] by simpa using ht]; rfl
    rw [htx] at HTV
    clear htx
    by_cases hx0 : xs.length = 0
    case neg =>
      have hx0' : decide ((0 : Int) < (xs.length : Int)) = true := by simp; omega
      have HE : Hid (Nd.ok (.mk 1 0 t ns xs) d = false) := by show _ = _; rw [HOK.out]; simp [headOkN, lenOk, hx0]
      go_enter Tryd.func40, Tryd.ntmps40
      go_wp2_with (first | (go_at_call 59; refine (HTV.out _).mono ?_; rintro e w' ⟨rfl, rfl⟩) | (go_at_call 58; refine (spec_l1In _ _ _ _).mono ?_; rintro e w' ⟨rfl, rfl⟩))
      all_goals (go_ret; exact ⟨ret_bool HE.out.symm, HB0.out⟩)
    by_cases hn0 : ns.length = 0
    case neg =>
      have hn0' : decide ((0 : Int) < (ns.length : Int)) = true := by simp; omega
      have HE : Hid (Nd.ok (.mk 1 0 t ns xs) d = false) := by show _ = _; rw [HOK.out]; simp [headOkN, lenOk, hn0]
      obtain rfl := List.eq_nil_of_length_eq_zero hx0
      clear hx0
      go_enter Tryd.func40, Tryd.ntmps40
      go_wp2_with (first | (go_at_call 59; refine (HTV.out _).mono ?_; rintro e w' ⟨rfl, rfl⟩) | (go_at_call 58; refine (spec_l1In _ _ _ _).mono ?_; rintro e w' ⟨rfl, rfl⟩))
      all_goals (go_ret; exact ⟨ret_bool HE.out.symm, HB0.out⟩)
    obtain rfl := List.eq_nil_of_length_eq_zero hx0
    obtain rfl := List.eq_nil_of_length_eq_zero hn0
    have ht0 : t = [] := by simpa using ht
    have HE : Hid (Nd.ok (.mk 1 0 t [] []) d = true) := by show _ = _; rw [HOK.out]; simp [headOkN, numOk, txtOk, lenOk, ht0, namesOk, Nd.oks, hd0]; try omega
    clear ht0
    go_enter Tryd.func40, Tryd.ntmps40
    go_wp2_with (first | (go_at_call 59; refine (HTV.out _).mono ?_; rintro e w' ⟨rfl, rfl⟩) | (go_at_call 58; refine (spec_l1In _ _ _ _).mono ?_; rintro e w' ⟨rfl, rfl⟩))
    refine wp_loop_rounds 1 ?_
    rw [rounds_succ]
    go_wp2
    refine wp_loop_rounds 1 ?_
    rw [rounds_succ]
    go_wp2
    go_ret
    exact ⟨ret_bool HE.out.symm, HB0.out⟩
  · by_cases hn : n = 0
    case pos =>
      subst hn
      by_cases ht : List.isEmpty t = true
      case neg =>
        have ht' : List.isEmpty t = false := by simpa using ht
        have HE : Hid (Nd.ok (.mk 2 0 t ns xs) d = false) := by show _ = _; rw [HOK.out]; simp [headOkN, txtOk]; intros; simp_all
        clear ht
        go_enter Tryd.func40, Tryd.ntmps40
        go_wp2_with (first | (go_at_call 59; refine (HTV.out _).mono ?_; rintro e w' ⟨rfl, rfl⟩) | (go_at_call 58; refine (spec_l1In _ _ _ _).mono ?_; rintro e w' ⟨rfl, rfl⟩))
        all_goals (go_ret; exact ⟨ret_bool HE.out.symm, HB0.out⟩)
      have htx : textOk t = true := by rw [show t = [] by simpa using ht]; rfl
      rw [htx] at HTV
      clear htx
      by_cases hx0 : xs.length = 0
      case neg =>
        have hx0' : decide ((0 : Int) < (xs.length : Int)) = true := by simp; omega
        have HE : Hid (Nd.ok (.mk 2 0 t ns xs) d = false) := by show _ = _; rw [HOK.out]; simp [headOkN, lenOk, hx0]
        go_enter Tryd.func40, Tryd.ntmps40
        go_wp2_with (first | (go_at_call 59; refine (HTV.out _).mono ?_; rintro e w' ⟨rfl, rfl⟩) | (go_at_call 58; refine (spec_l1In _ _ _ _).mono ?_; rintro e w' ⟨rfl, rfl⟩))
        all_goals (go_ret; exact ⟨ret_bool HE.out.symm, HB0.out⟩)
      by_cases hn0 : ns.length = 0
      case neg =>
        have hn0' : decide ((0 : Int) < (ns.length : Int)) = true := by simp; omega
        have HE : Hid (Nd.ok (.mk 2 0 t ns xs) d = false) := by show _ = _; rw [HOK.out]; simp [headOkN, lenOk, hn0]
        obtain rfl := List.eq_nil_of_length_eq_zero hx0
        clear hx0
        go_enter Tryd.func40, Tryd.ntmps40
        go_wp2_with (first | (go_at_call 59; refine (HTV.out _).mono ?_; rintro e w' ⟨rfl, rfl⟩) | (go_at_call 58; refine (spec_l1In _ _ _ _).mono ?_; rintro e w' ⟨rfl, rfl⟩))
        all_goals (go_ret; exact ⟨ret_bool HE.out.symm, HB0.out⟩)
      obtain rfl := List.eq_nil_of_length_eq_zero hx0
      obtain rfl := List.eq_nil_of_length_eq_zero hn0
      have ht0 : t = [] := by simpa using ht
      have HE : Hid (Nd.ok (.mk 2 0 t [] []) d = true) := by show _ = _; rw [HOK.out]; simp [headOkN, numOk, txtOk, lenOk, ht0, namesOk, Nd.oks, hd0]; try omega
      clear ht0
      go_enter Tryd.func40, Tryd.ntmps40
      go_wp2_with (first | (go_at_call 59; refine (HTV.out _).mono ?_; rintro e w' ⟨rfl, rfl⟩) | (go_at_call 58; refine (spec_l1In _ _ _ _).mono ?_; rintro e w' ⟨rfl, rfl⟩))
      refine wp_loop_rounds 1 ?_
      rw [rounds_succ]
      go_wp2
      refine wp_loop_rounds 1 ?_
      rw [rounds_succ]
      go_wp2
      go_ret
      exact ⟨ret_bool HE.out.symm, HB0.out⟩
    by_cases hn1 : n = 1
    case neg =>
      have hn' : (decide (0 ≤ n) && decide (n ≤ 1)) = false := by simp; omega
      have HE : Hid (Nd.ok (.mk 2 n t ns xs) d = false) := by show _ = _; rw [HOK.out]; simp [headOkN, numOk, hn, hn1]
      clear hn hn1
      go_enter Tryd.func40, Tryd.ntmps40
      go_wp2_with (first | (go_at_call 59; refine (HTV.out _).mono ?_; rintro e w' ⟨rfl, rfl⟩) | (go_at_call 58; refine (spec_l1In _ _ _ _).mono ?_; rintro e w' ⟨rfl, rfl⟩))
      all_goals (go_ret; exact ⟨ret_bool HE.out.symm, HB0.out⟩)
    clear hn
    subst hn1
    by_cases ht : List.isEmpty t = true
    case neg =>
      have ht' : List.isEmpty t = false := by simpa using ht
      have HE : Hid (Nd.ok (.mk 2 1 t ns xs) d = false) := by show _ = _; rw [HOK.out]; simp [headOkN, txtOk]; intros; simp_all
      clear ht
      go_enter Tryd.func40, Tryd.ntmps40
      go_wp2_with (first | (go_at_call 59; refine (HTV.out _).mono ?_; rintro e w' ⟨rfl, rfl⟩) | (go_at_call 58; refine (spec_l1In _ _ _ _).mono ?_; rintro e w' ⟨rfl, rfl⟩))
      all_goals (go_ret; exact ⟨ret_bool HE.out.symm, HB0.out⟩)
    have htx : textOk t = true := by rw [show t = [] by simpa using ht]; rfl
    rw [htx] at HTV
    clear htx
    by_cases hx0 : xs.length = 0
    case neg =>
      have hx0' : decide ((0 : Int) < (xs.length : Int)) = true := by simp; omega
      have HE : Hid (Nd.ok (.mk 2 1 t ns xs) d = false) := by show _ = _; rw [HOK.out]; simp [headOkN, lenOk, hx0]
      go_enter Tryd.func40, Tryd.ntmps40
      go_wp2_with (first | (go_at_call 59; refine (HTV.out _).mono ?_; rintro e w' ⟨rfl, rfl⟩) | (go_at_call 58; refine (spec_l1In _ _ _ _).mono ?_; rintro e w' ⟨rfl, rfl⟩))
      all_goals (go_ret; exact ⟨ret_bool HE.out.symm, HB0.out⟩)
    by_cases hn0 : ns.length = 0
    case neg =>
      have hn0' : decide ((0 : Int) < (ns.length : Int)) = true := by simp; omega
      have HE : Hid (Nd.ok (.mk 2 1 t ns xs) d = false) := by show _ = _; rw [HOK.out]; simp [headOkN, lenOk, hn0]
      obtain rfl := List.eq_nil_of_length_eq_zero hx0
      clear hx0
      go_enter Tryd.func40, Tryd.ntmps40
      go_wp2_with (first | (go_at_call 59; refine (HTV.out _).mono ?_; rintro e w' ⟨rfl, rfl⟩) | (go_at_call 58; refine (spec_l1In _ _ _ _).mono ?_; rintro e w' ⟨rfl, rfl⟩))
      all_goals (go_ret; exact ⟨ret_bool HE.out.symm, HB0.out⟩)
    obtain rfl := List.eq_nil_of_length_eq_zero hx0
    obtain rfl := List.eq_nil_of_length_eq_zero hn0
    have ht0 : t = [] := by simpa using ht
    have HE : Hid (Nd.ok (.mk 2 1 t [] []) d = true) := by show _ = _; rw [HOK.out]; simp [headOkN, numOk, txtOk, lenOk, ht0, namesOk, Nd.oks, hd0]; try omega
    clear ht0
    go_enter Tryd.func40, Tryd.ntmps40
    go_wp2_with (first | (go_at_call 59; refine (HTV.out _).mono ?_; rintro e w' ⟨rfl, rfl⟩) | (go_at_call 58; refine (spec_l1In _ _ _ _).mono ?_; rintro e w' ⟨rfl, rfl⟩))
    refine wp_loop_rounds 1 ?_
    rw [rounds_succ]
    go_wp2
    refine wp_loop_rounds 1 ?_
    rw [rounds_succ]
    go_wp2
    go_ret
    exact ⟨ret_bool HE.out.symm, HB0.out⟩
  · by_cases hl : -999999 ≤ n
    case neg =>
      have hl' : decide (-999999 ≤ n) = false := by simp; omega
      have HE : Hid (Nd.ok (.mk 3 n t ns xs) d = false) := by show _ = _; rw [HOK.out]; simp [headOkN, numOk]; intros; omega
      go_enter Tryd.func40, Tryd.ntmps40
      go_wp2_with (first | (go_at_call 59; refine (HTV.out _).mono ?_; rintro e w' ⟨rfl, rfl⟩) | (go_at_call 58; refine (spec_l1In _ _ _ _).mono ?_; rintro e w' ⟨rfl, rfl⟩))
      all_goals (go_ret; exact ⟨ret_bool HE.out.symm, HB0.out⟩)
    have hl' : decide (-999999 ≤ n) = true := by simp; omega
    by_cases hr : n ≤ 999999
    case neg =>
      have hr' : decide (n ≤ 999999) = false := by simp; omega
      have HE : Hid (Nd.ok (.mk 3 n t ns xs) d = false) := by show _ = _; rw [HOK.out]; simp [headOkN, numOk]; intros; omega
      go_enter Tryd.func40, Tryd.ntmps40
      go_wp2_with (first | (go_at_call 59; refine (HTV.out _).mono ?_; rintro e w' ⟨rfl, rfl⟩) | (go_at_call 58; refine (spec_l1In _ _ _ _).mono ?_; rintro e w' ⟨rfl, rfl⟩))
      all_goals (go_ret; exact ⟨ret_bool HE.out.symm, HB0.out⟩)
    have hr' : decide (n ≤ 999999) = true := by simp; omega
    by_cases ht : List.isEmpty t = true
    case neg =>
      have ht' : List.isEmpty t = false := by simpa using ht
      have HE : Hid (Nd.ok (.mk 3 n t ns xs) d = false) := by show _ = _; rw [HOK.out]; simp [headOkN, txtOk]; intros; simp_all
      clear ht
      go_enter Tryd.func40, Tryd.ntmps40
      go_wp2_with (first | (go_at_call 59; refine (HTV.out _).mono ?_; rintro e w' ⟨rfl, rfl⟩) | (go_at_call 58; refine (spec_l1In _ _ _ _).mono ?_; rintro e w' ⟨rfl, rfl⟩))
      all_goals (go_ret; exact ⟨ret_bool HE.out.symm, HB0.out⟩)
    have htx : textOk t = true := by rw [show t = [] by simpa using ht]; rfl
    rw [htx] at HTV
    clear htx
    by_cases hx0 : xs.length = 0
    case neg =>
      have hx0' : decide ((0 : Int) < (xs.length : Int)) = true := by simp; omega
      have HE : Hid (Nd.ok (.mk 3 n t ns xs) d = false) := by show _ = _; rw [HOK.out]; simp [headOkN, lenOk, hx0]
      go_enter Tryd.func40, Tryd.ntmps40
      go_wp2_with (first | (go_at_call 59; refine (HTV.out _).mono ?_; rintro e w' ⟨rfl, rfl⟩) | (go_at_call 58; refine (spec_l1In _ _ _ _).mono ?_; rintro e w' ⟨rfl, rfl⟩))
      all_goals (go_ret; exact ⟨ret_bool HE.out.symm, HB0.out⟩)
    by_cases hn0 : ns.length = 0
    case neg =>
      have hn0' : decide ((0 : Int) < (ns.length : Int)) = true := by simp; omega
      have HE : Hid (Nd.ok (.mk 3 n t ns xs) d = false) := by show _ = _; rw [HOK.out]; simp [headOkN, lenOk, hn0]
      obtain rfl := List.eq_nil_of_length_eq_zero hx0
      clear hx0
      go_enter Tryd.func40, Tryd.ntmps40
      go_wp2_with (first | (go_at_call 59; refine (HTV.out _).mono ?_; rintro e w' ⟨rfl, rfl⟩) | (go_at_call 58; refine (spec_l1In _ _ _ _).mono ?_; rintro e w' ⟨rfl, rfl⟩))
      all_goals (go_ret; exact ⟨ret_bool HE.out.symm, HB0.out⟩)
    obtain rfl := List.eq_nil_of_length_eq_zero hx0
    obtain rfl := List.eq_nil_of_length_eq_zero hn0
    have ht0 : t = [] := by simpa using ht
    have HE : Hid (Nd.ok (.mk 3 n t [] []) d = true) := by show _ = _; rw [HOK.out]; simp [headOkN, numOk, txtOk, lenOk, ht0, namesOk, Nd.oks, hd0]; try omega
    clear ht0
    go_enter Tryd.func40, Tryd.ntmps40
    go_wp2_with (first | (go_at_call 59; refine (HTV.out _).mono ?_; rintro e w' ⟨rfl, rfl⟩) | (go_at_call 58; refine (spec_l1In _ _ _ _).mono ?_; rintro e w' ⟨rfl, rfl⟩))
    refine wp_loop_rounds 1 ?_
    rw [rounds_succ]
    go_wp2
    refine wp_loop_rounds 1 ?_
    rw [rounds_succ]
    go_wp2
    go_ret
    exact ⟨ret_bool HE.out.symm, HB0.out⟩
  · by_cases hn : n = 0
    case neg =>
      have hn' : (n != 0) = true := by simpa using hn
      have HE : Hid (Nd.ok (.mk 4 n t ns xs) d = false) := by show _ = _; rw [HOK.out]; simp [headOkN, numOk, hn]
      clear hn
      go_enter Tryd.func40, Tryd.ntmps40
      go_wp2_with (first | (go_at_call 59; refine (HTV.out _).mono ?_; rintro e w' ⟨rfl, rfl⟩) | (go_at_call 58; refine (spec_l1In _ _ _ _).mono ?_; rintro e w' ⟨rfl, rfl⟩))
      all_goals (go_ret; exact ⟨ret_bool HE.out.symm, HB0.out⟩)
    subst hn
    cases htv : textOk t
    · rw [htv] at HTV
      have HE : Hid (Nd.ok (.mk 4 0 t ns xs) d = false) := by show _ = _; rw [HOK.out]; simp [headOkN, txtOk, htv]
      clear htv
      go_enter Tryd.func40, Tryd.ntmps40
      go_wp2_with (first | (go_at_call 59; refine (HTV.out _).mono ?_; rintro e w' ⟨rfl, rfl⟩) | (go_at_call 58; refine (spec_l1In _ _ _ _).mono ?_; rintro e w' ⟨rfl, rfl⟩))
      all_goals (go_ret; exact ⟨ret_bool HE.out.symm, HB0.out⟩)
    rw [htv] at HTV
    by_cases hx0 : xs.length = 0
    case neg =>
      have hx0' : decide ((0 : Int) < (xs.length : Int)) = true := by simp; omega
      have HE : Hid (Nd.ok (.mk 4 0 t ns xs) d = false) := by show _ = _; rw [HOK.out]; simp [headOkN, lenOk, hx0]
      go_enter Tryd.func40, Tryd.ntmps40
      go_wp2_with (first | (go_at_call 59; refine (HTV.out _).mono ?_; rintro e w' ⟨rfl, rfl⟩) | (go_at_call 58; refine (spec_l1In _ _ _ _).mono ?_; rintro e w' ⟨rfl, rfl⟩))
      all_goals (go_ret; exact ⟨ret_bool HE.out.symm, HB0.out⟩)
    by_cases hn0 : ns.length = 0
    case neg =>
      have hn0' : decide ((0 : Int) < (ns.length : Int)) = true := by simp; omega
      have HE : Hid (Nd.ok (.mk 4 0 t ns xs) d = false) := by show _ = _; rw [HOK.out]; simp [headOkN, lenOk, hn0]
      obtain rfl := List.eq_nil_of_length_eq_zero hx0
      clear hx0
      go_enter Tryd.func40, Tryd.ntmps40
      go_wp2_with (first | (go_at_call 59; refine (HTV.out _).mono ?_; rintro e w' ⟨rfl, rfl⟩) | (go_at_call 58; refine (spec_l1In _ _ _ _).mono ?_; rintro e w' ⟨rfl, rfl⟩))
      all_goals (go_ret; exact ⟨ret_bool HE.out.symm, HB0.out⟩)
    obtain rfl := List.eq_nil_of_length_eq_zero hx0
    obtain rfl := List.eq_nil_of_length_eq_zero hn0
    have HE : Hid (Nd.ok (.mk 4 0 t [] []) d = true) := by show _ = _; rw [HOK.out]; simp [headOkN, numOk, txtOk, lenOk, htv, namesOk, Nd.oks, hd0]
    clear htv
    go_enter Tryd.func40, Tryd.ntmps40
    go_wp2_with (first | (go_at_call 59; refine (HTV.out _).mono ?_; rintro e w' ⟨rfl, rfl⟩) | (go_at_call 58; refine (spec_l1In _ _ _ _).mono ?_; rintro e w' ⟨rfl, rfl⟩))
    refine wp_loop_rounds 1 ?_
    rw [rounds_succ]
    go_wp2
    refine wp_loop_rounds 1 ?_
    rw [rounds_succ]
    go_wp2
    go_ret
    exact ⟨ret_bool HE.out.symm, HB0.out⟩
  · by_cases hn : n = 0
    case neg =>
      have hn' : (n != 0) = true := by simpa using hn
      have HE : Hid (Nd.ok (.mk 5 n t ns xs) d = false) := by show _ = _; rw [HOK.out]; simp [headOkN, numOk, hn]
      clear hn
      go_enter Tryd.func40, Tryd.ntmps40
      go_wp2_with (first | (go_at_call 59; refine (HTV.out _).mono ?_; rintro e w' ⟨rfl, rfl⟩) | (go_at_call 58; refine (spec_l1In _ _ _ _).mono ?_; rintro e w' ⟨rfl, rfl⟩))
      all_goals (go_ret; exact ⟨ret_bool HE.out.symm, HB0.out⟩)
    subst hn
    by_cases ht : List.isEmpty t = true
    case neg =>
      have ht' : List.isEmpty t = false := by simpa using ht
      have HE : Hid (Nd.ok (.mk 5 0 t ns xs) d = false) := by show _ = _; rw [HOK.out]; simp [headOkN, txtOk]; intros; simp_all
      clear ht
      go_enter Tryd.func40, Tryd.ntmps40
      go_wp2_with (first | (go_at_call 59; refine (HTV.out _).mono ?_; rintro e w' ⟨rfl, rfl⟩) | (go_at_call 58; refine (spec_l1In _ _ _ _).mono ?_; rintro e w' ⟨rfl, rfl⟩))
      all_goals (go_ret; exact ⟨ret_bool HE.out.symm, HB0.out⟩)
    have htx : textOk t = true := by rw [show t = [] by simpa using ht]; rfl
    rw [htx] at HTV
    clear htx
    by_cases hn0 : ns.length = 0
    case neg =>
      have hn0' : decide ((0 : Int) < (ns.length : Int)) = true := by simp; omega
      have HE : Hid (Nd.ok (.mk 5 0 t ns xs) d = false) := by show _ = _; rw [HOK.out]; simp [headOkN, lenOk, hn0]
      go_enter Tryd.func40, Tryd.ntmps40
      go_wp2_with (first | (go_at_call 59; refine (HTV.out _).mono ?_; rintro e w' ⟨rfl, rfl⟩) | (go_at_call 58; refine (spec_l1In _ _ _ _).mono ?_; rintro e w' ⟨rfl, rfl⟩))
      all_goals (go_ret; exact ⟨ret_bool HE.out.symm, HB0.out⟩)
    obtain rfl := List.eq_nil_of_length_eq_zero hn0
    by_cases hm5 : 5 < xs.length
    case pos =>
      have HE : Hid (Nd.ok (.mk 5 0 t [] xs) d = false) := by show _ = _; rw [HOK.out]; simp [headOkN, lenOk]; intros; omega
      have hm5' : decide ((5 : Int) < (xs.length : Int)) = true := by simp; omega
      go_enter Tryd.func40, Tryd.ntmps40
      go_wp2_with (first | (go_at_call 59; refine (HTV.out _).mono ?_; rintro e w' ⟨rfl, rfl⟩) | (go_at_call 58; refine (spec_l1In _ _ _ _).mono ?_; rintro e w' ⟨rfl, rfl⟩))
      all_goals (go_ret; exact ⟨ret_bool HE.out.symm, HB0.out⟩)
    have hm5' : decide ((5 : Int) < (xs.length : Int)) = false := by simp; omega
    have HS : Hid (Nd.ok (.mk 5 0 t [] xs) d = Nd.oks xs (d - 1)) := by
      show _ = _
      have ht0 : t = [] := by simpa using ht
      rw [HOK.out]
      simp [headOkN, numOk, txtOk, lenOk, namesOk, hd0, ht0]
      intros
      omega
    go_enter Tryd.func40, Tryd.ntmps40
    go_wp2_with (first | (go_at_call 59; refine (HTV.out _).mono ?_; rintro e w' ⟨rfl, rfl⟩) | (go_at_call 58; refine (spec_l1In _ _ _ _).mono ?_; rintro e w' ⟨rfl, rfl⟩))
    generalize w.alloc (.cells (ndCells 5 0 t An 0 cn Ai xs.length ci) 26) = w0 at *
    obtain ⟨⟨x0, x1, x2, x3, x4⟩, -⟩ := box_five HX0.out
    refine wp_loop_rounds 1 ?_
    rw [rounds_succ]
    go_wp2
    have HBQ := Lib.hid (Below.refl w0.heap.size w0)
    obtain ⟨e, rfl⟩ : ∃ e, d = e + 1 := ⟨d - 1, by omega⟩
    rw [Nat.add_sub_cancel] at HS
    go_loopw [7] (fun i wx => ∃ (j : Nat), j ≤ xs.length ∧ i = .int .i64 j ∧ Nd.oks (xs.drop j) e = Nd.oks xs e ∧ Below w0.heap.size w0 wx) (fun i _ => xs.length - (intOf i).toNat)
    case atStart => exact ⟨0, Nat.zero_le _, rfl, rfl, HBQ.out⟩
    case round =>
      obtain ⟨j, hj, rfl, hsm, hb⟩ := hrel
      have HSM := Lib.hid hsm
      have HB := Lib.hid hb
      obtain ⟨⟨x0, x1, x2, x3, x4⟩, -⟩ := box_five (bx_keep HX0.out hb)
      clear hsm hb
      by_cases hlt : j < xs.length
      · obtain ⟨b1, o1, hA1, hb1, kd, nn, tt, An1, ln1, cn1, Ai1, li1, ci1, hin, c0, c1, c2, c3, c4⟩ := (HR0.out.now HB.out).at hlt
        have HCALL := Lib.hid (IH.out xs[j] (List.getElem_mem hlt) e _ _ (by omega) hin (by have := Nd.size_mem (List.getElem_mem hlt); have := HSZ.out; omega))
        have HST := Lib.hid (Nd.oks_step HSM.out hlt)
        generalize Nd.ok xs[j] e = r at *
        clear hin
        subst hA1
        go_wp2_with fail
        refine HCALL.out.mono ?_
        rintro e2 w2 ⟨rfl, hb⟩
        have HB2 := Lib.hid (HB.out.trans (hb.mono HB.out.size))
        clear hb
        cases r
        · have HE : Hid (Nd.oks xs e = false) := HST.out.symm
          go_wp2
          go_ret
          exact ⟨ret_bool (by rw [HS.out, HE.out]), HB0.out.trans (HB2.out.mono HB0.out.size)⟩
        · rw [Bool.true_and] at HST
          go_wp2
          go_roundw
          case rel => first | exact ⟨j + 1, by omega, by go_num, HST.out, HB2.out⟩ | ((repeat apply Exists.intro); exact ⟨⟨j + 1, by omega, by go_num, HST.out, HB2.out⟩, rfl⟩)
          case measure => simp [intOf]; omega
      · have HE := Lib.hid (Nd.oks_end HSM.out hlt)
        go_wp2
        go_ret
        exact ⟨ret_bool (by rw [HS.out]; exact HE.out), HB0.out.trans (HB.out.mono HB0.out.size)⟩
  · by_cases hn : n = 0
    case neg =>
      have hn' : (n != 0) = true := by simpa using hn
      have HE : Hid (Nd.ok (.mk 6 n t ns xs) d = false) := by show _ = _; rw [HOK.out]; simp [headOkN, numOk, hn]
      clear hn
      go_enter Tryd.func40, Tryd.ntmps40
      go_wp2_with (first | (go_at_call 59; refine (HTV.out _).mono ?_; rintro e w' ⟨rfl, rfl⟩) | (go_at_call 58; refine (spec_l1In _ _ _ _).mono ?_; rintro e w' ⟨rfl, rfl⟩))
      all_goals (go_ret; exact ⟨ret_bool HE.out.symm, HB0.out⟩)
    subst hn
    by_cases ht : List.isEmpty t = true
    case neg =>
      have ht' : List.isEmpty t = false := by simpa using ht
      have HE : Hid (Nd.ok (.mk 6 0 t ns xs) d = false) := by show _ = _; rw [HOK.out]; simp [headOkN, txtOk]; intros; simp_all
      clear ht
      go_enter Tryd.func40, Tryd.ntmps40
      go_wp2_with (first | (go_at_call 59; refine (HTV.out _).mono ?_; rintro e w' ⟨rfl, rfl⟩) | (go_at_call 58; refine (spec_l1In _ _ _ _).mono ?_; rintro e w' ⟨rfl, rfl⟩))
      all_goals (go_ret; exact ⟨ret_bool HE.out.symm, HB0.out⟩)
    have htx : textOk t = true := by rw [show t = [] by simpa using ht]; rfl
    rw [htx] at HTV
    clear htx
    by_cases hn0 : ns.length = xs.length
    case neg =>
      have hn0' : ((ns.length : Int) != (xs.length : Int)) = true := by simp; omega
      have HE : Hid (Nd.ok (.mk 6 0 t ns xs) d = false) := by show _ = _; rw [HOK.out]; simp [headOkN, lenOk, hn0]
      clear hn0
      go_enter Tryd.func40, Tryd.ntmps40
      go_wp2_with (first | (go_at_call 59; refine (HTV.out _).mono ?_; rintro e w' ⟨rfl, rfl⟩) | (go_at_call 58; refine (spec_l1In _ _ _ _).mono ?_; rintro e w' ⟨rfl, rfl⟩))
      all_goals (go_ret; exact ⟨ret_bool HE.out.symm, HB0.out⟩)
    have hn0' : ((ns.length : Int) != (xs.length : Int)) = false := by simp [hn0]
    by_cases hm5 : 5 < xs.length
    case pos =>
      have HE : Hid (Nd.ok (.mk 6 0 t ns xs) d = false) := by show _ = _; rw [HOK.out]; simp [headOkN, lenOk]; intros; omega
      have hm5' : decide ((5 : Int) < (xs.length : Int)) = true := by simp; omega
      clear hn0
      go_enter Tryd.func40, Tryd.ntmps40
      go_wp2_with (first | (go_at_call 59; refine (HTV.out _).mono ?_; rintro e w' ⟨rfl, rfl⟩) | (go_at_call 58; refine (spec_l1In _ _ _ _).mono ?_; rintro e w' ⟨rfl, rfl⟩))
      all_goals (go_ret; exact ⟨ret_bool HE.out.symm, HB0.out⟩)
    have hm5' : decide ((5 : Int) < (xs.length : Int)) = false := by simp; omega
    have HS0 : Hid (Nd.ok (.mk 6 0 t ns xs) d = (namesOk ns && Nd.oks xs (d - 1))) := by
      show _ = _
      have ht0 : t = [] := by simpa using ht
      rw [HOK.out]
      have h5 : xs.length ≤ 5 := by omega
      simp [headOkN, numOk, txtOk, lenOk, hd0, ht0, hn0, h5]
    clear hn0
    go_enter Tryd.func40, Tryd.ntmps40
    go_wp2_with (first | (go_at_call 59; refine (HTV.out _).mono ?_; rintro e w' ⟨rfl, rfl⟩) | (go_at_call 58; refine (spec_l1In _ _ _ _).mono ?_; rintro e w' ⟨rfl, rfl⟩))
    generalize w.alloc (.cells (ndCells 6 0 t An ns.length cn Ai xs.length ci) 26) = w0 at *
    go_loopw [5] (fun i wr => ∃ (j : Nat), j ≤ ns.length ∧ i = .int .i64 j ∧ (∀ q, q < j → nmAt ns q = true) ∧ Below w0.heap.size w0 wr) (fun i _ => ns.length - (intOf i).toNat)
    case atStart => exact ⟨0, Nat.zero_le _, rfl, fun q hq => absurd hq (by omega), Below.refl _ _⟩
    case round =>
      obtain ⟨j, hj, rfl, hall, hbj⟩ := hrel
      have HALL := Lib.hid hall
      have HBQ := Lib.hid hbj
      clear hall hbj
      obtain ⟨⟨x0, x1, x2, x3, x4⟩, -⟩ := box_five (bx_keep HX0.out HBQ.out)
      by_cases hlt : j < ns.length
      · obtain ⟨b1, o1, hA1, hb1, hc0⟩ := (HN0.out.now HBQ.out).str hlt
        have HNV := Lib.hid (fun w => spec_NameValid ns[j] (by have := ns_len (List.getElem_mem hlt) HSZ.out; unfold maxLen; omega) w)
        have HAT := Lib.hid (nmAt_any ns j hlt)
        have HNO := Lib.hid (fun h => namesOk_no (ns := ns) hlt h)
        obtain ⟨nm, hnm⟩ : ∃ nm, ns[j] = nm := ⟨_, rfl⟩
        rw [hnm] at hc0 HNV HAT
        have HNM := Lib.hid hnm
        clear hnm
        subst hA1
        cases h1 : nameOk nm
        · rw [h1] at HNV HAT
          have HE : Hid (Nd.ok (.mk 6 0 t ns xs) d = false) := by show _ = _; rw [HS0.out, HNO.out HAT.out]; rfl
          clear h1
          go_wp2_with (go_at_call 60; refine (HNV.out _).mono ?_; rintro e w' ⟨rfl, rfl⟩)
          go_ret
          exact ⟨ret_bool HE.out.symm, HB0.out.trans (HBQ.out.mono HB0.out.size)⟩
        · rw [h1] at HNV HAT
          rw [Bool.true_and] at HAT
          clear h1
          go_wp2_with (go_at_call 60; refine (HNV.out _).mono ?_; rintro e w' ⟨rfl, rfl⟩)
          clear hc0 x0 x1 x2 x3 x4
          go_loopw [6] (fun i wx => ∃ (q : Nat), q ≤ j ∧ i = .int .i64 q ∧ (∀ p (hp : p < ns.length), p < q → ns[p] ≠ nm) ∧ Below w0.heap.size w0 wx) (fun i _ => j - (intOf i).toNat)
          case atStart => exact ⟨0, Nat.zero_le _, rfl, fun p _ hp => absurd hp (by omega), HBQ.out⟩
          case round =>
            obtain ⟨q, hq, rfl, hne, hbx⟩ := hrel
            have HNE := Lib.hid hne
            have HB := Lib.hid hbx
            clear hne hbx
            obtain ⟨⟨x0, x1, x2, x3, x4⟩, -⟩ := box_five (bx_keep HX0.out HB.out)
            by_cases hlq : q < j
            · have hlq2 : q < ns.length := by omega
              obtain ⟨b2, o2, hA2, hb2, hc0⟩ := (HN0.out.now HB.out).str hlt
              obtain ⟨b3, o3, hA3, hb3, hc1⟩ := (HN0.out.now HB.out).str hlq2
              rw [HNM.out] at hc0
              cases hA2
              cases hA3
              have HY := Lib.hid (fun h => any_true (ns := ns) (x := nm) hlq2 hlq h)
              have HZ : Hid (ns[q] ≠ nm → ∀ p (hp : p < ns.length), p < q + 1 → ns[p] ≠ nm) := by
                show _ → _
                intro h p hp hpq
                rcases Nat.lt_or_ge p q with h1 | h1
                · exact HNE.out p hp h1
                · have : p = q := by omega
                  subst this; exact h
              generalize ns[q] = nq at *
              cases h1 : (nq == nm)
              · have hz := HZ.out (by simpa using h1)
                have HZ2 := Lib.hid hz
                clear HZ hz HY
                go_wp2_with fail
                go_quiet (fail)
                go_wp2
                go_roundw
                case rel => first | exact ⟨q + 1, by omega, by go_num, HZ2.out, below_drewN HB.out _⟩ | ((repeat apply Exists.intro); exact ⟨⟨q + 1, by omega, by go_num, HZ2.out, below_drewN HB.out _⟩, rfl⟩)
                case measure => simp [intOf]; omega
              · have HE : Hid (Nd.ok (.mk 6 0 t ns xs) d = false) := by
                  show _ = _
                  rw [HY.out (by simpa using h1)] at HAT
                  rw [HS0.out, HNO.out HAT.out]; rfl
                clear HZ HY
                go_wp2_with fail
                go_quiet (fail)
                go_wp2
                go_ret
                exact ⟨ret_bool HE.out.symm, below_drewN (HB0.out.trans (HB.out.mono HB0.out.size)) _⟩
            · have HAT2 : Hid (nmAt ns j = true) := by
                show _ = _
                rw [HAT.out, any_false (fun p hp h => HNE.out p hp (by omega))]; rfl
              go_wp2
              go_roundw
              case rel => first | exact ⟨j + 1, by omega, by go_num, fun q hq => by
                  rcases Nat.lt_or_ge q j with h | h
                  · exact HALL.out q h
                  · have : q = j := by omega
                    subst this; exact HAT2.out, HB.out⟩ | ((repeat apply Exists.intro); exact ⟨⟨j + 1, by omega, by go_num, fun q hq => by
                  rcases Nat.lt_or_ge q j with h | h
                  · exact HALL.out q h
                  · have : q = j := by omega
                    subst this; exact HAT2.out, HB.out⟩, rfl⟩)
              case measure => simp [intOf]; omega
      · have hnm : namesOk ns = true := namesOk_yes (fun q hq => HALL.out q (by omega))
        have HS : Hid (Nd.ok (.mk 6 0 t ns xs) d = Nd.oks xs (d - 1)) := by show _ = _; rw [HS0.out, hnm]; rfl
        clear hnm
        go_wp2
        obtain ⟨e, rfl⟩ : ∃ e, d = e + 1 := ⟨d - 1, by omega⟩
        rw [Nat.add_sub_cancel] at HS
        go_loopw [7] (fun i wx => ∃ (j : Nat), j ≤ xs.length ∧ i = .int .i64 j ∧ Nd.oks (xs.drop j) e = Nd.oks xs e ∧ Below w0.heap.size w0 wx) (fun i _ => xs.length - (intOf i).toNat)
        case atStart => exact ⟨0, Nat.zero_le _, rfl, rfl, HBQ.out⟩
        case round =>
          obtain ⟨j, hj, rfl, hsm, hb⟩ := hrel
          have HSM := Lib.hid hsm
          have HB := Lib.hid hb
          obtain ⟨⟨x0, x1, x2, x3, x4⟩, -⟩ := box_five (bx_keep HX0.out hb)
          clear hsm hb
          by_cases hlt : j < xs.length
          · obtain ⟨b1, o1, hA1, hb1, kd, nn, tt, An1, ln1, cn1, Ai1, li1, ci1, hin, c0, c1, c2, c3, c4⟩ := (HR0.out.now HB.out).at hlt
            have HCALL := Lib.hid (IH.out xs[j] (List.getElem_mem hlt) e _ _ (by omega) hin (by have := Nd.size_mem (List.getElem_mem hlt); have := HSZ.out; omega))
            have HST := Lib.hid (Nd.oks_step HSM.out hlt)
            generalize Nd.ok xs[j] e = r at *
            clear hin
            subst hA1
            go_wp2_with fail
            refine HCALL.out.mono ?_
            rintro e2 w2 ⟨rfl, hb⟩
            have HB2 := Lib.hid (HB.out.trans (hb.mono HB.out.size))
            clear hb
            cases r
            · have HE : Hid (Nd.oks xs e = false) := HST.out.symm
              go_wp2
              go_ret
              exact ⟨ret_bool (by rw [HS.out, HE.out]), HB0.out.trans (HB2.out.mono HB0.out.size)⟩
            · rw [Bool.true_and] at HST
              go_wp2
              go_roundw
              case rel => first | exact ⟨j + 1, by omega, by go_num, HST.out, HB2.out⟩ | ((repeat apply Exists.intro); exact ⟨⟨j + 1, by omega, by go_num, HST.out, HB2.out⟩, rfl⟩)
              case measure => simp [intOf]; omega
          · have HE := Lib.hid (Nd.oks_end HSM.out hlt)
            go_wp2
            go_ret
            exact ⟨ret_bool (by rw [HS.out]; exact HE.out), HB0.out.trans (HB.out.mono HB0.out.size)⟩
end Go.Proofs.YtdmmnjnbjigdeaaDoor
