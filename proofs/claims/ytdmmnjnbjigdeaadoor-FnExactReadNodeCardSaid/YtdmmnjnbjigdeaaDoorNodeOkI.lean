/- NodeValid of impl: walks. -/
import Derived.Test.YtdmmnjnbjigdeaaDoorNodeV
namespace Go.Proofs.YtdmmnjnbjigdeaaDoor
open Go.RowKit

theorem contains_tx (ns : List Tx) (j : Nat) (hj : j ≤ ns.length) (x : Tx) (A : Option Addr) (c : Nat) (w : World) {S : Nat → Prop} (hx : RdIn w S A (scells ns)) (hn : ns.length ≤ maxLen) :
    Calls Tryd.prog 52 #[.slice A j c, sv x] w fun e w' => e = .returned (.bool ((ns.take j).any fun y => y == x)) ∧ w = w' := by
  unfold maxLen at hn
  by_cases h0 : j = 0
  · subst h0
    exact (Tryd.slices_Contains_string_empty A c ⟨x.toArray⟩ w).mono fun e w' ⟨he, hw⟩ => ⟨by rw [he]; rfl, hw.symm⟩
  · obtain ⟨b1, o1, rfl, _, hc1⟩ := hx (by intro e; have := congrArg List.length e; rw [List.length_map, List.length_nil] at this; omega)
    refine (Tryd.slices_Contains_string b1 o1 j c (ns.map fun x => ⟨x.toArray⟩) ⟨x.toArray⟩ w (by simpa using hj) (by omega) (tx_cells hc1)).mono fun e w' ⟨he, hw⟩ => ⟨?_, hw.symm⟩
    rw [he]
    refine ret_bool ?_
    rw [← List.map_take, Bool.eq_iff_iff, Lib.containsS_iff, List.any_eq_true]
    constructor
    · intro h
      obtain ⟨y, hy, e⟩ := List.mem_map.1 h
      refine ⟨y, hy, ?_⟩
      have := congrArg (fun z : ByteArray => z.data.toList) e
      simpa using this
    · rintro ⟨y, hy, e⟩
      exact List.mem_map.2 ⟨y, hy, by rw [beq_iff_eq.1 e]⟩
theorem nmAt_any (ns : List Tx) (j : Nat) (h : j < ns.length) : nmAt ns j = (nameOk ns[j] && !((ns.take j).any fun y => y == ns[j])) := by
  unfold nmAt
  rw [show ns.getD j [] = ns[j] by rw [List.getD_eq_getElem?_getD, List.getElem?_eq_getElem h]; rfl]
  congr 1
  rw [Bool.eq_iff_iff]
  simp

/-- nodeOk's contract at one node -/
def OkC (f : FuncId) (x : Nd) : Prop := ∀ (d : Nat) (u : Value) (w : World), d ≤ 4 → InN w (All w) x u → Nd.size x ≤ 1048576 →
    Calls Tryd.prog f #[u, .int .i64 (d : Int)] w fun e w' => e = .returned (.bool (Nd.ok x d)) ∧ Below w.heap.size w w'
theorem ns_len {ns : List Tx} {x : Tx} (h : x ∈ ns) {a b m : Nat} (hs : a + (ns.length + ssize ns) + b ≤ m) : x.length ≤ m := by
  have : x.length ≤ ssize ns := by
    clear hs
    induction ns with
    | nil => cases h
    | cons z s ih2 =>
      rcases List.mem_cons.1 h with e | h
      · subst e; simp only [ssize]; omega
      · have := ih2 h; simp only [ssize]; omega
  omega
set_option maxRecDepth 100000 in
set_option maxHeartbeats 8000000 in
theorem impl_nodeOk (a : Nd) : OkC 30 a := by
  induction a using Nd.ind with
  | h k n t ns xs ih =>
  intro d u w hd hu hsz
  obtain ⟨An, cn, Ai, ci, rfl, hrn, hcn, hci, hri⟩ := hu.parts
  simp only [Nd.size] at hsz
  have HSZ := Lib.hid hsz
  have hB0 := (Below.refl w.heap.size w).alloc (Nat.le_refl _) (.cells (ndCells k n t An ns.length cn Ai xs.length ci) 26)
  have HB0 := Lib.hid hB0
  have HX0 := Lib.hid (heap_alloc_new w (.cells (ndCells k n t An ns.length cn Ai xs.length ci) 26))
  have HR0 := Lib.hid (hri.now hB0)
  have HN0 := Lib.hid (hrn.now hB0)
  have HOK : Hid (Nd.ok (.mk k n t ns xs) d = (decide (d ≠ 0) && (headOkN k n t ns xs.length && Nd.oks xs (d - 1)))) := by show _ = _; simp only [Nd.ok]
  have HTV := Lib.hid (fun w => impl_TextValid t (by unfold maxLen; omega) w)
  have hxl : xs.length ≤ 1048576 := by omega
  have hnl : ns.length ≤ 1048576 := by omega
  have hzz : w.heap.size < (w.alloc (.cells (ndCells k n t An ns.length cn Ai xs.length ci) 26)).heap.size := by simp
  have IH := Lib.hid ih
  clear hu hrn hri hB0 ih hsz
  by_cases hd0 : d = 0
  · subst hd0
    have HE : Hid (Nd.ok (.mk k n t ns xs) 0 = false) := by show _ = _; rw [HOK.out]; rfl
    go_enter Tryd.func30, Tryd.ntmps30
    go_wp2_with (go_at_call 50; refine (HTV.out _).mono ?_; rintro e w' ⟨rfl, rfl⟩)
    all_goals (go_ret; exact ⟨ret_bool HE.out.symm, HB0.out⟩)
  have hd1 : ((d : Int) == 0) = false := by simp; omega
  by_cases hk1 : k < 1
  · have HE : Hid (Nd.ok (.mk k n t ns xs) d = false) := by show _ = _; rw [HOK.out]; simp [headOkN]; intros; omega
    go_enter Tryd.func30, Tryd.ntmps30
    go_wp2_with (go_at_call 50; refine (HTV.out _).mono ?_; rintro e w' ⟨rfl, rfl⟩)
    all_goals (go_ret; exact ⟨ret_bool HE.out.symm, HB0.out⟩)
  by_cases hk6 : 6 < k
  · have HE : Hid (Nd.ok (.mk k n t ns xs) d = false) := by show _ = _; rw [HOK.out]; simp [headOkN]; intros; omega
    go_enter Tryd.func30, Tryd.ntmps30
    go_wp2_with (go_at_call 50; refine (HTV.out _).mono ?_; rintro e w' ⟨rfl, rfl⟩)
    all_goals (go_ret; exact ⟨ret_bool HE.out.symm, HB0.out⟩)
  by_cases hm5 : 5 < xs.length
  · have HE : Hid (Nd.ok (.mk k n t ns xs) d = false) := by show _ = _; rw [HOK.out]; simp [headOkN, lenOk]; intros; omega
    have hm5' : decide ((5 : Int) < (xs.length : Int)) = true := by simp; omega
    go_enter Tryd.func30, Tryd.ntmps30
    go_wp2_with (go_at_call 50; refine (HTV.out _).mono ?_; rintro e w' ⟨rfl, rfl⟩)
    all_goals (go_ret; exact ⟨ret_bool HE.out.symm, HB0.out⟩)
  have hm5' : decide ((5 : Int) < (xs.length : Int)) = false := by simp; omega
  obtain rfl | rfl | rfl | rfl | rfl | rfl : k = 1 ∨ k = 2 ∨ k = 3 ∨ k = 4 ∨ k = 5 ∨ k = 6 := by omega
  all_goals clear hk1 hk6
  · by_cases hn : n = 0
    case neg =>
      have hn' : (n != 0) = true := by simpa using hn
      have HE : Hid (Nd.ok (.mk 1 n t ns xs) d = false) := by show _ = _; rw [HOK.out]; simp [headOkN, numOk, hn]
      clear hn
      go_enter Tryd.func30, Tryd.ntmps30
      go_wp2_with (go_at_call 50; refine (HTV.out _).mono ?_; rintro e w' ⟨rfl, rfl⟩)
      all_goals (go_ret; exact ⟨ret_bool HE.out.symm, HB0.out⟩)
    subst hn
    by_cases ht : List.isEmpty t = true
    case neg =>
      have ht' : List.isEmpty t = false := by simpa using ht
      have HE : Hid (Nd.ok (.mk 1 0 t ns xs) d = false) := by show _ = _; rw [HOK.out]; simp [headOkN, txtOk]; intros; simp_all
      clear ht
      go_enter Tryd.func30, Tryd.ntmps30
      go_wp2_with (go_at_call 50; refine (HTV.out _).mono ?_; rintro e w' ⟨rfl, rfl⟩)
      all_goals (go_ret; exact ⟨ret_bool HE.out.symm, HB0.out⟩)
    by_cases hx0 : xs.length = 0
    case neg =>
      have hx0' : decide ((0 : Int) < (xs.length : Int)) = true := by simp; omega
      have HE : Hid (Nd.ok (.mk 1 0 t ns xs) d = false) := by show _ = _; rw [HOK.out]; simp [headOkN, lenOk, hx0]
      go_enter Tryd.func30, Tryd.ntmps30
      go_wp2_with (go_at_call 50; refine (HTV.out _).mono ?_; rintro e w' ⟨rfl, rfl⟩)
      all_goals (go_ret; exact ⟨ret_bool HE.out.symm, HB0.out⟩)
    by_cases hn0 : ns.length = 0
    case neg =>
      have hn0' : ((ns.length : Int) != 0) = true := by simp; intro e; apply hn0; rw [e]; rfl
      have HE : Hid (Nd.ok (.mk 1 0 t ns xs) d = false) := by show _ = _; rw [HOK.out]; simp [headOkN, lenOk, hn0]
      obtain rfl := List.eq_nil_of_length_eq_zero hx0
      clear hn0 hx0
      go_enter Tryd.func30, Tryd.ntmps30
      go_wp2_with (go_at_call 50; refine (HTV.out _).mono ?_; rintro e w' ⟨rfl, rfl⟩)
      all_goals (go_ret; exact ⟨ret_bool HE.out.symm, HB0.out⟩)
    obtain rfl := List.eq_nil_of_length_eq_zero hx0
    obtain rfl := List.eq_nil_of_length_eq_zero hn0
    have ht0 : t = [] := by simpa using ht
    have HE : Hid (Nd.ok (.mk 1 0 t [] []) d = true) := by show _ = _; rw [HOK.out]; simp [headOkN, numOk, txtOk, lenOk, ht0, namesOk, Nd.oks, hd0]; try omega
    clear ht0
    go_enter Tryd.func30, Tryd.ntmps30
    go_wp2_with (go_at_call 50; refine (HTV.out _).mono ?_; rintro e w' ⟨rfl, rfl⟩)
    refine wp_loop_rounds 1 ?_
    rw [rounds_succ]
    go_wp2
    refine wp_loop_rounds 1 ?_
    rw [rounds_succ]
    go_wp2
    go_ret
    exact ⟨ret_bool HE.out.symm, HB0.out⟩
  · by_cases hn : n = 0
    case pos =>
      subst hn
      by_cases ht : List.isEmpty t = true
      case neg =>
        have ht' : List.isEmpty t = false := by simpa using ht
        have HE : Hid (Nd.ok (.mk 2 0 t ns xs) d = false) := by show _ = _; rw [HOK.out]; simp [headOkN, txtOk]; intros; simp_all
        clear ht
        go_enter Tryd.func30, Tryd.ntmps30
        go_wp2_with (go_at_call 50; refine (HTV.out _).mono ?_; rintro e w' ⟨rfl, rfl⟩)
        all_goals (go_ret; exact ⟨ret_bool HE.out.symm, HB0.out⟩)
      by_cases hx0 : xs.length = 0
      case neg =>
        have hx0' : decide ((0 : Int) < (xs.length : Int)) = true := by simp; omega
        have HE : Hid (Nd.ok (.mk 2 0 t ns xs) d = false) := by show _ = _; rw [HOK.out]; simp [headOkN, lenOk, hx0]
        go_enter Tryd.func30, Tryd.ntmps30
        go_wp2_with (go_at_call 50; refine (HTV.out _).mono ?_; rintro e w' ⟨rfl, rfl⟩)
        all_goals (go_ret; exact ⟨ret_bool HE.out.symm, HB0.out⟩)
      by_cases hn0 : ns.length = 0
      case neg =>
        have hn0' : ((ns.length : Int) != 0) = true := by simp; intro e; apply hn0; rw [e]; rfl
        have HE : Hid (Nd.ok (.mk 2 0 t ns xs) d = false) := by show _ = _; rw [HOK.out]; simp [headOkN, lenOk, hn0]
        obtain rfl := List.eq_nil_of_length_eq_zero hx0
        clear hn0 hx0
        go_enter Tryd.func30, Tryd.ntmps30
        go_wp2_with (go_at_call 50; refine (HTV.out _).mono ?_; rintro e w' ⟨rfl, rfl⟩)
        all_goals (go_ret; exact ⟨ret_bool HE.out.symm, HB0.out⟩)
      obtain rfl := List.eq_nil_of_length_eq_zero hx0
      obtain rfl := List.eq_nil_of_length_eq_zero hn0
      have ht0 : t = [] := by simpa using ht
      have HE : Hid (Nd.ok (.mk 2 0 t [] []) d = true) := by show _ = _; rw [HOK.out]; simp [headOkN, numOk, txtOk, lenOk, ht0, namesOk, Nd.oks, hd0]; try omega
      clear ht0
      go_enter Tryd.func30, Tryd.ntmps30
      go_wp2_with (go_at_call 50; refine (HTV.out _).mono ?_; rintro e w' ⟨rfl, rfl⟩)
      refine wp_loop_rounds 1 ?_
      rw [rounds_succ]
      go_wp2
      refine wp_loop_rounds 1 ?_
      rw [rounds_succ]
      go_wp2
      go_ret
      exact ⟨ret_bool HE.out.symm, HB0.out⟩
    by_cases hn1 : n = 1
    case neg =>
      have hn' : (n != 0) = true := by simpa using hn
      have hn1' : (n != 1) = true := by simpa using hn1
      have HE : Hid (Nd.ok (.mk 2 n t ns xs) d = false) := by show _ = _; rw [HOK.out]; simp [headOkN, numOk, hn, hn1]
      clear hn hn1
      go_enter Tryd.func30, Tryd.ntmps30
      go_wp2_with (go_at_call 50; refine (HTV.out _).mono ?_; rintro e w' ⟨rfl, rfl⟩)
      all_goals (go_ret; exact ⟨ret_bool HE.out.symm, HB0.out⟩)
    clear hn
    subst hn1
    by_cases ht : List.isEmpty t = true
    case neg =>
      have ht' : List.isEmpty t = false := by simpa using ht
      have HE : Hid (Nd.ok (.mk 2 1 t ns xs) d = false) := by show _ = _; rw [HOK.out]; simp [headOkN, txtOk]; intros; simp_all
      clear ht
      go_enter Tryd.func30, Tryd.ntmps30
      go_wp2_with (go_at_call 50; refine (HTV.out _).mono ?_; rintro e w' ⟨rfl, rfl⟩)
      all_goals (go_ret; exact ⟨ret_bool HE.out.symm, HB0.out⟩)
    by_cases hx0 : xs.length = 0
    case neg =>
      have hx0' : decide ((0 : Int) < (xs.length : Int)) = true := by simp; omega
      have HE : Hid (Nd.ok (.mk 2 1 t ns xs) d = false) := by show _ = _; rw [HOK.out]; simp [headOkN, lenOk, hx0]
      go_enter Tryd.func30, Tryd.ntmps30
      go_wp2_with (go_at_call 50; refine (HTV.out _).mono ?_; rintro e w' ⟨rfl, rfl⟩)
      all_goals (go_ret; exact ⟨ret_bool HE.out.symm, HB0.out⟩)
    by_cases hn0 : ns.length = 0
    case neg =>
      have hn0' : ((ns.length : Int) != 0) = true := by simp; intro e; apply hn0; rw [e]; rfl
      have HE : Hid (Nd.ok (.mk 2 1 t ns xs) d = false) := by show _ = _; rw [HOK.out]; simp [headOkN, lenOk, hn0]
      obtain rfl := List.eq_nil_of_length_eq_zero hx0
      clear hn0 hx0
      go_enter Tryd.func30, Tryd.ntmps30
      go_wp2_with (go_at_call 50; refine (HTV.out _).mono ?_; rintro e w' ⟨rfl, rfl⟩)
      all_goals (go_ret; exact ⟨ret_bool HE.out.symm, HB0.out⟩)
    obtain rfl := List.eq_nil_of_length_eq_zero hx0
    obtain rfl := List.eq_nil_of_length_eq_zero hn0
    have ht0 : t = [] := by simpa using ht
    have HE : Hid (Nd.ok (.mk 2 1 t [] []) d = true) := by show _ = _; rw [HOK.out]; simp [headOkN, numOk, txtOk, lenOk, ht0, namesOk, Nd.oks, hd0]; try omega
    clear ht0
    go_enter Tryd.func30, Tryd.ntmps30
    go_wp2_with (go_at_call 50; refine (HTV.out _).mono ?_; rintro e w' ⟨rfl, rfl⟩)
    refine wp_loop_rounds 1 ?_
    rw [rounds_succ]
    go_wp2
    refine wp_loop_rounds 1 ?_
    rw [rounds_succ]
    go_wp2
    go_ret
    exact ⟨ret_bool HE.out.symm, HB0.out⟩
  · by_cases hl : -999999 ≤ n
    case neg =>
      have hl' : decide (n < -999999) = true := by simp; omega
      have HE : Hid (Nd.ok (.mk 3 n t ns xs) d = false) := by show _ = _; rw [HOK.out]; simp [headOkN, numOk]; intros; omega
      go_enter Tryd.func30, Tryd.ntmps30
      go_wp2_with (go_at_call 50; refine (HTV.out _).mono ?_; rintro e w' ⟨rfl, rfl⟩)
      all_goals (go_ret; exact ⟨ret_bool HE.out.symm, HB0.out⟩)
    have hl' : decide (n < -999999) = false := by simp; omega
    by_cases hr : n ≤ 999999
    case neg =>
      have hr' : decide (999999 < n) = true := by simp; omega
      have HE : Hid (Nd.ok (.mk 3 n t ns xs) d = false) := by show _ = _; rw [HOK.out]; simp [headOkN, numOk]; intros; omega
      go_enter Tryd.func30, Tryd.ntmps30
      go_wp2_with (go_at_call 50; refine (HTV.out _).mono ?_; rintro e w' ⟨rfl, rfl⟩)
      all_goals (go_ret; exact ⟨ret_bool HE.out.symm, HB0.out⟩)
    have hr' : decide (999999 < n) = false := by simp; omega
    by_cases ht : List.isEmpty t = true
    case neg =>
      have ht' : List.isEmpty t = false := by simpa using ht
      have HE : Hid (Nd.ok (.mk 3 n t ns xs) d = false) := by show _ = _; rw [HOK.out]; simp [headOkN, txtOk]; intros; simp_all
      clear ht
      go_enter Tryd.func30, Tryd.ntmps30
      go_wp2_with (go_at_call 50; refine (HTV.out _).mono ?_; rintro e w' ⟨rfl, rfl⟩)
      all_goals (go_ret; exact ⟨ret_bool HE.out.symm, HB0.out⟩)
    by_cases hx0 : xs.length = 0
    case neg =>
      have hx0' : decide ((0 : Int) < (xs.length : Int)) = true := by simp; omega
      have HE : Hid (Nd.ok (.mk 3 n t ns xs) d = false) := by show _ = _; rw [HOK.out]; simp [headOkN, lenOk, hx0]
      go_enter Tryd.func30, Tryd.ntmps30
      go_wp2_with (go_at_call 50; refine (HTV.out _).mono ?_; rintro e w' ⟨rfl, rfl⟩)
      all_goals (go_ret; exact ⟨ret_bool HE.out.symm, HB0.out⟩)
    by_cases hn0 : ns.length = 0
    case neg =>
      have hn0' : ((ns.length : Int) != 0) = true := by simp; intro e; apply hn0; rw [e]; rfl
      have HE : Hid (Nd.ok (.mk 3 n t ns xs) d = false) := by show _ = _; rw [HOK.out]; simp [headOkN, lenOk, hn0]
      obtain rfl := List.eq_nil_of_length_eq_zero hx0
      clear hn0 hx0
      go_enter Tryd.func30, Tryd.ntmps30
      go_wp2_with (go_at_call 50; refine (HTV.out _).mono ?_; rintro e w' ⟨rfl, rfl⟩)
      all_goals (go_ret; exact ⟨ret_bool HE.out.symm, HB0.out⟩)
    obtain rfl := List.eq_nil_of_length_eq_zero hx0
    obtain rfl := List.eq_nil_of_length_eq_zero hn0
    have ht0 : t = [] := by simpa using ht
    have HE : Hid (Nd.ok (.mk 3 n t [] []) d = true) := by show _ = _; rw [HOK.out]; simp [headOkN, numOk, txtOk, lenOk, ht0, namesOk, Nd.oks, hd0]; try omega
    clear ht0
    go_enter Tryd.func30, Tryd.ntmps30
    go_wp2_with (go_at_call 50; refine (HTV.out _).mono ?_; rintro e w' ⟨rfl, rfl⟩)
    refine wp_loop_rounds 1 ?_
    rw [rounds_succ]
    go_wp2
    refine wp_loop_rounds 1 ?_
    rw [rounds_succ]
    go_wp2
    go_ret
    exact ⟨ret_bool HE.out.symm, HB0.out⟩
  · by_cases hn : n = 0
    case neg =>
      have hn' : (n != 0) = true := by simpa using hn
      have HE : Hid (Nd.ok (.mk 4 n t ns xs) d = false) := by show _ = _; rw [HOK.out]; simp [headOkN, numOk, hn]
      clear hn
      go_enter Tryd.func30, Tryd.ntmps30
      go_wp2_with (go_at_call 50; refine (HTV.out _).mono ?_; rintro e w' ⟨rfl, rfl⟩)
      all_goals (go_ret; exact ⟨ret_bool HE.out.symm, HB0.out⟩)
    subst hn
    cases htv : textOk t
    · rw [htv] at HTV
      have HE : Hid (Nd.ok (.mk 4 0 t ns xs) d = false) := by show _ = _; rw [HOK.out]; simp [headOkN, txtOk, htv]
      clear htv
      go_enter Tryd.func30, Tryd.ntmps30
      go_wp2_with (go_at_call 50; refine (HTV.out _).mono ?_; rintro e w' ⟨rfl, rfl⟩)
      all_goals (go_ret; exact ⟨ret_bool HE.out.symm, HB0.out⟩)
    rw [htv] at HTV
    by_cases hx0 : xs.length = 0
    case neg =>
      have hx0' : decide ((0 : Int) < (xs.length : Int)) = true := by simp; omega
      have HE : Hid (Nd.ok (.mk 4 0 t ns xs) d = false) := by show _ = _; rw [HOK.out]; simp [headOkN, lenOk, hx0]
      go_enter Tryd.func30, Tryd.ntmps30
      go_wp2_with (go_at_call 50; refine (HTV.out _).mono ?_; rintro e w' ⟨rfl, rfl⟩)
      all_goals (go_ret; exact ⟨ret_bool HE.out.symm, HB0.out⟩)
    by_cases hn0 : ns.length = 0
    case neg =>
      have hn0' : ((ns.length : Int) != 0) = true := by simp; intro e; apply hn0; rw [e]; rfl
      have HE : Hid (Nd.ok (.mk 4 0 t ns xs) d = false) := by show _ = _; rw [HOK.out]; simp [headOkN, lenOk, hn0]
      obtain rfl := List.eq_nil_of_length_eq_zero hx0
      clear hn0 hx0
      go_enter Tryd.func30, Tryd.ntmps30
      go_wp2_with (go_at_call 50; refine (HTV.out _).mono ?_; rintro e w' ⟨rfl, rfl⟩)
      all_goals (go_ret; exact ⟨ret_bool HE.out.symm, HB0.out⟩)
    obtain rfl := List.eq_nil_of_length_eq_zero hx0
    obtain rfl := List.eq_nil_of_length_eq_zero hn0
    have HE : Hid (Nd.ok (.mk 4 0 t [] []) d = true) := by show _ = _; rw [HOK.out]; simp [headOkN, numOk, txtOk, lenOk, htv, namesOk, Nd.oks, hd0]
    clear htv
    go_enter Tryd.func30, Tryd.ntmps30
    go_wp2_with (go_at_call 50; refine (HTV.out _).mono ?_; rintro e w' ⟨rfl, rfl⟩)
    refine wp_loop_rounds 1 ?_
    rw [rounds_succ]
    go_wp2
    refine wp_loop_rounds 1 ?_
    rw [rounds_succ]
    go_wp2
    go_ret
    exact ⟨ret_bool HE.out.symm, HB0.out⟩
  · by_cases hn : n = 0
    case neg =>
      have hn' : (n != 0) = true := by simpa using hn
      have HE : Hid (Nd.ok (.mk 5 n t ns xs) d = false) := by show _ = _; rw [HOK.out]; simp [headOkN, numOk, hn]
      clear hn
      go_enter Tryd.func30, Tryd.ntmps30
      go_wp2_with (go_at_call 50; refine (HTV.out _).mono ?_; rintro e w' ⟨rfl, rfl⟩)
      all_goals (go_ret; exact ⟨ret_bool HE.out.symm, HB0.out⟩)
    subst hn
    by_cases ht : List.isEmpty t = true
    case neg =>
      have ht' : List.isEmpty t = false := by simpa using ht
      have HE : Hid (Nd.ok (.mk 5 0 t ns xs) d = false) := by show _ = _; rw [HOK.out]; simp [headOkN, txtOk]; intros; simp_all
      clear ht
      go_enter Tryd.func30, Tryd.ntmps30
      go_wp2_with (go_at_call 50; refine (HTV.out _).mono ?_; rintro e w' ⟨rfl, rfl⟩)
      all_goals (go_ret; exact ⟨ret_bool HE.out.symm, HB0.out⟩)
    by_cases hn0 : ns.length = 0
    case neg =>
      have hn0' : ((ns.length : Int) != 0) = true := by simp; intro e; apply hn0; rw [e]; rfl
      have HE : Hid (Nd.ok (.mk 5 0 t ns xs) d = false) := by show _ = _; rw [HOK.out]; simp [headOkN, lenOk, hn0]
      clear hn0
      go_enter Tryd.func30, Tryd.ntmps30
      go_wp2_with (go_at_call 50; refine (HTV.out _).mono ?_; rintro e w' ⟨rfl, rfl⟩)
      all_goals (go_ret; exact ⟨ret_bool HE.out.symm, HB0.out⟩)
    obtain rfl := List.eq_nil_of_length_eq_zero hn0
    have HS : Hid (Nd.ok (.mk 5 0 t [] xs) d = Nd.oks xs (d - 1)) := by
      show _ = _
      have ht0 : t = [] := by simpa using ht
      rw [HOK.out]
      simp [headOkN, numOk, txtOk, lenOk, namesOk, hd0, ht0]
      intros
      omega
    have hX4 := HX0.out
    obtain ⟨⟨x0, x1, x2, x3, x4⟩, -⟩ := box_five hX4
    clear hX4
    go_enter Tryd.func30, Tryd.ntmps30
    go_wp2_with (go_at_call 50; refine (HTV.out _).mono ?_; rintro e w' ⟨rfl, rfl⟩)
    generalize w.alloc (.cells (ndCells 5 0 t An 0 cn Ai xs.length ci) 26) = w0 at *
    refine wp_loop_rounds 1 ?_
    rw [rounds_succ]
    go_wp2
    obtain ⟨e, rfl⟩ : ∃ e, d = e + 1 := ⟨d - 1, by omega⟩
    rw [Nat.add_sub_cancel] at HS
    go_loopw [117] (fun i wr => ∃ (j : Nat), j ≤ xs.length ∧ i = .int .i64 j ∧ Nd.oks (xs.drop j) e = Nd.oks xs e ∧ Below w0.heap.size w0 wr) (fun i _ => xs.length - (intOf i).toNat)
    case atStart => exact ⟨0, Nat.zero_le _, rfl, rfl, Below.refl _ _⟩
    case round =>
      obtain ⟨j, hj, rfl, hsm, hb⟩ := hrel
      have HSM := Lib.hid hsm
      have HB := Lib.hid hb
      clear hsm hb
      by_cases hlt : j < xs.length
      · obtain ⟨b1, o1, hA1, hb1, kd, nn, tt, An1, ln1, cn1, Ai1, li1, ci1, hin, c0, c1, c2, c3, c4⟩ := (HR0.out.now HB.out).at hlt
        have HA1 := Lib.hid ((Below.refl wr.heap.size wr).alloc (Nat.le_refl _) (.cells (ndCells kd nn tt An1 ln1 cn1 Ai1 li1 ci1) 26))
        have HCALL := Lib.hid (IH.out xs[j] (List.getElem_mem hlt) e _ _ (by omega) (hin.now HA1.out) (by have := Nd.size_mem (List.getElem_mem hlt); have := HSZ.out; omega))
        have HST := Lib.hid (Nd.oks_step HSM.out hlt)
        have HB1 := Lib.hid (HB.out.trans (HA1.out.mono HB.out.size))
        generalize Nd.ok xs[j] e = r at *
        clear hin
        subst hA1
        go_wp2_with fail
        refine HCALL.out.mono ?_
        rintro e2 w2 ⟨rfl, hb⟩
        have HB2 := Lib.hid (HB1.out.trans (hb.mono HB1.out.size))
        clear hb
        cases r
        · have HE : Hid (Nd.oks xs e = false) := HST.out.symm
          go_wp2
          go_ret
          exact ⟨ret_bool (by rw [HS.out, HE.out]), HB0.out.trans (HB2.out.mono HB0.out.size)⟩
        · rw [Bool.true_and] at HST
          go_wp2
          go_roundw
          case rel => first | exact ⟨j + 1, by omega, by go_num, HST.out, HB2.out⟩ | ((repeat apply Exists.intro); exact ⟨⟨j + 1, by omega, by go_num, HST.out, HB2.out⟩, rfl⟩)
          case measure => simp [intOf]; omega
      · have HE := Lib.hid (Nd.oks_end HSM.out hlt)
        go_wp2
        go_ret
        exact ⟨ret_bool (by rw [HS.out]; exact HE.out), HB0.out.trans (HB.out.mono HB0.out.size)⟩
  · by_cases hn : n = 0
    case neg =>
      have hn' : (n != 0) = true := by simpa using hn
      have HE : Hid (Nd.ok (.mk 6 n t ns xs) d = false) := by show _ = _; rw [HOK.out]; simp [headOkN, numOk, hn]
      clear hn
      go_enter Tryd.func30, Tryd.ntmps30
      go_wp2_with (go_at_call 50; refine (HTV.out _).mono ?_; rintro e w' ⟨rfl, rfl⟩)
      all_goals (go_ret; exact ⟨ret_bool HE.out.symm, HB0.out⟩)
    subst hn
    by_cases ht : List.isEmpty t = true
    case neg =>
      have ht' : List.isEmpty t = false := by simpa using ht
      have HE : Hid (Nd.ok (.mk 6 0 t ns xs) d = false) := by show _ = _; rw [HOK.out]; simp [headOkN, txtOk]; intros; simp_all
      clear ht
      go_enter Tryd.func30, Tryd.ntmps30
      go_wp2_with (go_at_call 50; refine (HTV.out _).mono ?_; rintro e w' ⟨rfl, rfl⟩)
      all_goals (go_ret; exact ⟨ret_bool HE.out.symm, HB0.out⟩)
    by_cases hn0 : ns.length = xs.length
    case neg =>
      have hn0' : ((ns.length : Int) != (xs.length : Int)) = true := by simp; omega
      have HE : Hid (Nd.ok (.mk 6 0 t ns xs) d = false) := by show _ = _; rw [HOK.out]; simp [headOkN, lenOk, hn0]
      clear hn0
      go_enter Tryd.func30, Tryd.ntmps30
      go_wp2_with (go_at_call 50; refine (HTV.out _).mono ?_; rintro e w' ⟨rfl, rfl⟩)
      all_goals (go_ret; exact ⟨ret_bool HE.out.symm, HB0.out⟩)
    have hn0' : ((ns.length : Int) != (xs.length : Int)) = false := by simp [hn0]
    have HS0 : Hid (Nd.ok (.mk 6 0 t ns xs) d = (namesOk ns && Nd.oks xs (d - 1))) := by
      show _ = _
      have ht0 : t = [] := by simpa using ht
      rw [HOK.out]
      have h5 : xs.length ≤ 5 := by omega
      simp [headOkN, numOk, txtOk, lenOk, hd0, ht0, hn0, h5]
    clear hn0
    have hX4 := HX0.out
    obtain ⟨⟨x0, x1, x2, x3, x4⟩, -⟩ := box_five hX4
    clear hX4
    go_enter Tryd.func30, Tryd.ntmps30
    go_wp2_with (go_at_call 50; refine (HTV.out _).mono ?_; rintro e w' ⟨rfl, rfl⟩)
    generalize w.alloc (.cells (ndCells 6 0 t An ns.length cn Ai xs.length ci) 26) = w0 at *
    go_loop [97] (fun i => ∃ (j : Nat), j ≤ ns.length ∧ i = .int .i64 j ∧ ∀ q, q < j → nmAt ns q = true) (fun i => ns.length - (intOf i).toNat)
    case atStart => exact ⟨0, Nat.zero_le _, rfl, fun q hq => absurd hq (by omega)⟩
    case round =>
      obtain ⟨j, hj, rfl, hall⟩ := hrel
      have HALL := Lib.hid hall
      clear hall
      by_cases hlt : j < ns.length
      · obtain ⟨b1, o1, hA1, hb1, hc0⟩ := HN0.out.str hlt
        have HNV := Lib.hid (fun w => impl_NameValid ns[j] (by have := ns_len (List.getElem_mem hlt) HSZ.out; unfold maxLen; omega) w)
        have HCT := Lib.hid (contains_tx ns j (by omega) ns[j] An cn w0 HN0.out (by unfold maxLen; omega))
        have HAT := Lib.hid (nmAt_any ns j hlt)
        have HNO := Lib.hid (fun h => namesOk_no (ns := ns) hlt h)
        generalize ns[j] = nm at *
        subst hA1
        cases h1 : nameOk nm
        · rw [h1] at HNV HAT
          have HE : Hid (Nd.ok (.mk 6 0 t ns xs) d = false) := by show _ = _; rw [HS0.out, HNO.out HAT.out]; rfl
          clear h1
          go_wp2_with (go_at_call 51; refine (HNV.out _).mono ?_; rintro e w' ⟨rfl, rfl⟩)
          go_ret
          exact ⟨ret_bool HE.out.symm, HB0.out⟩
        · rw [h1] at HNV HAT
          cases h2 : ((ns.take j).any fun y => y == nm)
          · rw [h2] at HCT HAT
            clear h1 h2
            go_wp2_with (first | (go_at_call 51; refine (HNV.out _).mono ?_; rintro e w' ⟨rfl, rfl⟩) | (go_at_call 52; refine HCT.out.mono ?_; rintro e w' ⟨rfl, rfl⟩))
            go_round
            case rel => exact ⟨j + 1, by omega, by go_num, fun q hq => by
              rcases Nat.lt_or_ge q j with h | h
              · exact HALL.out q h
              · have : q = j := by omega
                subst this; exact HAT.out⟩
            case measure => simp [intOf]; omega
          · rw [h2] at HCT HAT
            have HE : Hid (Nd.ok (.mk 6 0 t ns xs) d = false) := by show _ = _; rw [HS0.out, HNO.out HAT.out]; rfl
            clear h1 h2
            go_wp2_with (first | (go_at_call 51; refine (HNV.out _).mono ?_; rintro e w' ⟨rfl, rfl⟩) | (go_at_call 52; refine HCT.out.mono ?_; rintro e w' ⟨rfl, rfl⟩))
            go_ret
            exact ⟨ret_bool HE.out.symm, HB0.out⟩
      · have hnm : namesOk ns = true := namesOk_yes (fun q hq => HALL.out q (by omega))
        have HS : Hid (Nd.ok (.mk 6 0 t ns xs) d = Nd.oks xs (d - 1)) := by show _ = _; rw [HS0.out, hnm]; rfl
        clear hnm
        go_wp2
        obtain ⟨e, rfl⟩ : ∃ e, d = e + 1 := ⟨d - 1, by omega⟩
        rw [Nat.add_sub_cancel] at HS
        go_loopw [117] (fun i wr => ∃ (j : Nat), j ≤ xs.length ∧ i = .int .i64 j ∧ Nd.oks (xs.drop j) e = Nd.oks xs e ∧ Below w0.heap.size w0 wr) (fun i _ => xs.length - (intOf i).toNat)
        case atStart => exact ⟨0, Nat.zero_le _, rfl, rfl, Below.refl _ _⟩
        case round =>
          obtain ⟨j, hj, rfl, hsm, hb⟩ := hrel
          have HSM := Lib.hid hsm
          have HB := Lib.hid hb
          clear hsm hb
          by_cases hlt : j < xs.length
          · obtain ⟨b1, o1, hA1, hb1, kd, nn, tt, An1, ln1, cn1, Ai1, li1, ci1, hin, c0, c1, c2, c3, c4⟩ := (HR0.out.now HB.out).at hlt
            have HA1 := Lib.hid ((Below.refl wr.heap.size wr).alloc (Nat.le_refl _) (.cells (ndCells kd nn tt An1 ln1 cn1 Ai1 li1 ci1) 26))
            have HCALL := Lib.hid (IH.out xs[j] (List.getElem_mem hlt) e _ _ (by omega) (hin.now HA1.out) (by have := Nd.size_mem (List.getElem_mem hlt); have := HSZ.out; omega))
            have HST := Lib.hid (Nd.oks_step HSM.out hlt)
            have HB1 := Lib.hid (HB.out.trans (HA1.out.mono HB.out.size))
            generalize Nd.ok xs[j] e = r at *
            clear hin
            subst hA1
            go_wp2_with fail
            refine HCALL.out.mono ?_
            rintro e2 w2 ⟨rfl, hb⟩
            have HB2 := Lib.hid (HB1.out.trans (hb.mono HB1.out.size))
            clear hb
            cases r
            · have HE : Hid (Nd.oks xs e = false) := HST.out.symm
              go_wp2
              go_ret
              exact ⟨ret_bool (by rw [HS.out, HE.out]), HB0.out.trans (HB2.out.mono HB0.out.size)⟩
            · rw [Bool.true_and] at HST
              go_wp2
              go_roundw
              case rel => first | exact ⟨j + 1, by omega, by go_num, HST.out, HB2.out⟩ | ((repeat apply Exists.intro); exact ⟨⟨j + 1, by omega, by go_num, HST.out, HB2.out⟩, rfl⟩)
              case measure => simp [intOf]; omega
          · have HE := Lib.hid (Nd.oks_end HSM.out hlt)
            go_wp2
            go_ret
            exact ⟨ret_bool (by rw [HS.out]; exact HE.out), HB0.out.trans (HB.out.mono HB0.out.size)⟩
end Go.Proofs.YtdmmnjnbjigdeaaDoor
