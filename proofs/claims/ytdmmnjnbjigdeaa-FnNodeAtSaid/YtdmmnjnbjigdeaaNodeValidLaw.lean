/- For every code: the drawn node is judged by the program as by the reference; what is in a valid one is valid; without a kind a node is not valid: the law FnNodeValid holds. No conditions. -/
import Derived.Test.YtdmmnjnbjigdeaaNodeValid
import Derived.Test.YtdmmnjnbjigdeaaNodeDrew
import Derived.Test.YtdmmnjnbjigdeaaLower
namespace Go.Proofs.Ytdmmnjnbjigdeaa
open Go.RowKit Go.ChangeShapes Go.WideShapes Go.ChangeAt Go.Joins

namespace Nd
theorem ok_up (x : Nd) : ∀ d, ok x d = true → ok x (d + 1) = true := by
  induction x using ind with
  | h k n t ns xs ih =>
    intro d h
    cases d with
    | zero => simp [ok] at h
    | succ d =>
      simp only [ok, Bool.and_eq_true, decide_eq_true_eq] at h ⊢
      refine ⟨by omega, h.2.1, ?_⟩
      have h2 := h.2.2
      simp only [Nat.add_sub_cancel] at h2 ⊢
      clear h
      induction xs with
      | nil => rfl
      | cons y s ih2 =>
        simp only [oks, Bool.and_eq_true] at h2 ⊢
        exact ⟨ih y (by simp) d h2.1, ih2 (fun z hz => ih z (List.mem_cons_of_mem _ hz)) h2.2⟩
theorem oks_mem : ∀ {xs : List Nd} {d : Nat} {x : Nd}, oks xs d = true → x ∈ xs → ok x d = true
  | y :: s, d, x, h, hx => by
    simp only [oks, Bool.and_eq_true] at h
    rcases List.mem_cons.1 hx with e | hx
    · subst e; exact h.1
    · exact oks_mem h.2 hx
theorem count_mem : ∀ {xs : List Nd} {x : Nd}, x ∈ xs → count x ≤ counts xs
  | y :: s, x, h => by
    rcases List.mem_cons.1 h with e | h
    · subst e; simp only [counts]; omega
    · have := count_mem h; simp only [counts]; omega
theorem valid_mem {k n : Int} {t : Tx} {ns : List Tx} {xs : List Nd} {x : Nd} (h : valid (.mk k n t ns xs) = true) (hx : x ∈ xs) : valid x = true := by
  have h3 : (ok (.mk k n t ns xs) 4 && decide (count (.mk k n t ns xs) ≤ 30)) = true := h
  rw [Bool.and_eq_true, decide_eq_true_eq] at h3
  have h2 : 1 + counts xs ≤ 30 := by have := h3.2; simp only [count] at this; exact this
  have h4 := h3.1
  simp only [ok, Bool.and_eq_true, decide_eq_true_eq] at h4
  have h1 := count_mem hx
  show (ok x 4 && decide (count x ≤ 30)) = true
  rw [Bool.and_eq_true, decide_eq_true_eq]
  exact ⟨ok_up x 3 (oks_mem h4.2.2 hx), by omega⟩
theorem valid_bare (n : Int) (t : Tx) : valid (.mk 0 n t [] []) = false := by simp [valid, ok, headOkN]
end Nd

set_option maxRecDepth 100000 in
set_option maxHeartbeats 4000000 in
theorem nodeValid_walk (bs : Tx) (A : Option Addr) (c : Nat) (w : World) (hr : Rd w w.heap.size A (bcells bs)) (hc : bs.length ≤ c) (hm : bs.length ≤ maxLen) :
    Calls Try.prog 4 #[.slice A bs.length c] w fun e w' => e = .returned (.bool true) ∧ Below w.heap.size w w' := by
  unfold maxLen at hm
  by_cases h : 1048576 < bs.length
  · go_enter Try.func4, Try.ntmps4
    go_wp2
    go_ret
    exact ⟨rfl, Below.refl _ _⟩
  have HD := Lib.hid (spec_DrawNodeValid bs A c w hr hc (by omega))
  clear hr
  go_enter Try.func4, Try.ntmps4
  go_wp2_with fail
  refine HD.out.mono ?_
  rintro e w1 ⟨x, k, n, t, An, ln, cn, Ai, li, ci, rfl, hin1, hs1, hb1⟩
  obtain ⟨k, n, t, An, ln, cn, Ai, li, ci, ns, xs, hp1, hp2, hp3, hp4, e⟩ : ∃ k2 n2 t2 An2 ln2 cn2 Ai2 li2 ci2 ns xs, x = .mk k2 n2 t2 ns xs ∧ ln2 = ns.length ∧ li2 = xs.length ∧ RdN w1 (All w1) Ai2 xs ∧ ndV k n t An ln cn Ai li ci = ndV k2 n2 t2 An2 ln2 cn2 Ai2 li2 ci2 := by
    cases x with
    | mk k2 n2 t2 ns xs =>
      obtain ⟨An', cn', Ai', ci', e, _, _, _, hr⟩ := hin1.all.parts
      exact ⟨k2, n2, t2, An', _, cn', Ai', _, ci', ns, xs, rfl, rfl, rfl, hr, e⟩
  rw [e] at hin1 ⊢
  clear e
  subst hp1 hp2 hp3
  have hX0 := heap_alloc_new w1 (.cells (ndCells k n t An ns.length cn Ai xs.length ci) 30)
  have hA0 := (Below.refl w1.heap.size w1).alloc (Nat.le_refl _) (.cells (ndCells k n t An ns.length cn Ai xs.length ci) 30)
  have HX0 := Lib.hid hX0
  have HU0 := Lib.hid (hin1.all.now hA0)
  have HR0 := Lib.hid (hp4.now hA0)
  have HB0 := Lib.hid (hb1.trans (hA0.mono hb1.size))
  have hZ : Nd.size (.mk k n t ns xs) ≤ 1048576 := by omega
  have hxl : xs.length ≤ 1048576 := by simp only [Nd.size] at hZ; omega
  have HM : Hid (∀ x ∈ xs, Nd.size x ≤ 1048576) := fun x hx => by have h1 := Nd.size_mem hx; simp only [Nd.size] at hZ; omega
  have HV := Lib.hid (fun (h : Nd.valid (.mk k n t ns xs) = true) x hx => Nd.valid_mem (x := x) h hx)
  have HT := Lib.hid (show t.length ≤ 1048576 by simp only [Nd.size] at hZ; omega)
  have HIM := Lib.hid (impl_NodeValid (.mk k n t ns xs) _ _ HU0.out hZ)
  have HSP := Lib.hid (fun w3 (hb : Below _ _ w3) => spec_NodeValid (.mk k n t ns xs) _ w3 (HU0.out.now hb) hZ)
  generalize Nd.valid (.mk k n t ns xs) = r at *
  have hrr : (r != r) = false := by simp
  clear hin1 hs1 hb1 hA0 hX0 hp4 hZ HD
  go_wp2_with fail
  refine HIM.out.mono ?_
  rintro e w2 ⟨rfl, hb⟩
  have HSP2 := Lib.hid (HSP.out w2 hb)
  have HX2 := Lib.hid (bx_keep HX0.out hb)
  have HR2 := Lib.hid (HR0.out.now hb)
  have HB2 := Lib.hid (HB0.out.trans (hb.mono HB0.out.size))
  obtain ⟨⟨f0, f1, f2, f3, f4⟩, -⟩ := box_five HX2.out
  clear hb
  go_wp2_with fail
  refine HSP2.out.mono ?_
  rintro e w3 ⟨rfl, hb⟩
  have HX3 := Lib.hid (bx_keep HX2.out hb)
  have HR3 := Lib.hid (HR2.out.now hb)
  have HB3 := Lib.hid (HB2.out.trans (hb.mono HB2.out.size))
  clear hb f0 f1 f2 f3 f4
  go_wp2
  go_loopw [5] (fun i wr => ∃ (j : Nat), j ≤ xs.length ∧ i = .int .i64 j ∧ Below w3.heap.size w3 wr) (fun i _ => xs.length - (intOf i).toNat)
  case atStart => exact ⟨0, Nat.zero_le _, rfl, Below.refl _ _⟩
  case round =>
    obtain ⟨j, hj, rfl, hb⟩ := hrel
    have HB := Lib.hid hb
    obtain ⟨⟨f0, f1, f2, f3, f4⟩, -⟩ := box_five (bx_keep HX3.out hb)
    clear hb
    by_cases hlt : j < xs.length
    · cases r
      ·
        have hq := impl_NodeValid (.mk 0 n t [] []) _ wr inN_const (by have := HT.out; simp only [Nd.size, ssize, Nd.sizes, List.length_nil]; omega)
        rw [Nd.valid_bare] at hq
        have HQ := Lib.hid hq
        clear hq
        go_wp2_with fail
        refine HQ.out.mono ?_
        rintro e w5 ⟨rfl, hb⟩
        have HB5 := Lib.hid (HB3.out.trans ((HB.out.trans (hb.mono HB.out.size)).mono HB3.out.size))
        clear hb
        go_wp2_with fail
        refine (laws_alive _).mono ?_
        rintro e w6 ⟨rfl, hb⟩
        have HB6 := Lib.hid (HB5.out.trans (hb.mono HB5.out.size))
        clear hb
        go_wp2
        go_ret
        exact ⟨rfl, HB6.out⟩
      · obtain ⟨b1, o1, hA1, hb1, kd, nn, tt, An1, ln1, cn1, Ai1, li1, ci1, hin, c0, c1, c2, c3, c4⟩ := (HR3.out.now HB.out).at hlt
        have hq := impl_NodeValid xs[j] _ wr hin (HM.out _ (List.getElem_mem hlt))
        rw [HV.out rfl xs[j] (List.getElem_mem hlt)] at hq
        have HQ := Lib.hid hq
        clear hin hq
        subst hA1
        go_wp2_with fail
        refine HQ.out.mono ?_
        rintro e w4 ⟨rfl, hb⟩
        have HB4 := Lib.hid (HB.out.trans (hb.mono HB.out.size))
        clear hb
        go_wp2
        go_roundw
        case rel => exact ⟨j + 1, by omega, by go_num, HB4.out⟩
        case measure => simp [intOf]; omega
    · cases r
      ·
        have hq := impl_NodeValid (.mk 0 n t [] []) _ wr inN_const (by have := HT.out; simp only [Nd.size, ssize, Nd.sizes, List.length_nil]; omega)
        rw [Nd.valid_bare] at hq
        have HQ := Lib.hid hq
        clear hq
        go_wp2_with fail
        refine HQ.out.mono ?_
        rintro e w5 ⟨rfl, hb⟩
        have HB5 := Lib.hid (HB3.out.trans ((HB.out.trans (hb.mono HB.out.size)).mono HB3.out.size))
        clear hb
        go_wp2_with fail
        refine (laws_alive _).mono ?_
        rintro e w6 ⟨rfl, hb⟩
        have HB6 := Lib.hid (HB5.out.trans (hb.mono HB5.out.size))
        clear hb
        go_wp2
        go_ret
        exact ⟨rfl, HB6.out⟩
      ·
        have hq := impl_NodeValid (.mk 0 n t [] []) _ wr inN_const (by have := HT.out; simp only [Nd.size, ssize, Nd.sizes, List.length_nil]; omega)
        rw [Nd.valid_bare] at hq
        have HQ := Lib.hid hq
        clear hq
        go_wp2_with fail
        refine HQ.out.mono ?_
        rintro e w5 ⟨rfl, hb⟩
        have HB5 := Lib.hid (HB3.out.trans ((HB.out.trans (hb.mono HB.out.size)).mono HB3.out.size))
        clear hb
        go_wp2_with fail
        refine (laws_alive _).mono ?_
        rintro e w6 ⟨rfl, hb⟩
        have HB6 := Lib.hid (HB5.out.trans (hb.mono HB5.out.size))
        clear hb
        go_wp2
        go_ret
        exact ⟨rfl, HB6.out⟩

set_option maxRecDepth 100000 in
theorem fnNodeValid_lifted (os : Os) (started : os.Started) (H : Type) (enc : TypeId × Value → H) :
    ReturnsInHanded {} Try.checked os 4 .any (Rows.fnNodeValidSpec.pre6 enc Try.prog Try.f4 Rows.fnNodeValidRow.domain false)
      (Rows.fnNodeValidSpec.post enc Try.prog Try.f4 false true false false) := by
  refine returnsInHanded_of_change (C := Try.checked) Try.own started (by kernel_rfl) Try.func4
    (ChangeSpec.witness6 (enc := enc) (C := Try.checked) false ⟨#[], #[.slice none 0 0], []⟩ 8 (by kernel_rfl) (by kernel_rfl) (by kernel_rfl) (by kernel_rfl)) ?_
  intro W base args ds gs before hval0 hW _ _
  have hval : ∀ (j : Nat) t v, Try.f4.params[j]? = some t → args[j]? = some v → Value.okWide Try.prog W .any base t v := hval0
  have hW' := hW
  obtain ⟨p, q, hA0, hV, rfl, _, _⟩ := hW
  have hA : DataW.TrodAll enc Try.prog W 0 (fun _ => true) true Try.f4.params.toList args.toList ds p := hA0
  rw [Try.params4] at hA hval
  obtain ⟨v0, d0, rfl, rfl, h0⟩ := trodAll_one hA
  obtain ⟨rfl, rfl⟩ := trodVars_none hV
  obtain ⟨A, c, bs, rfl, hr, hlc, hcm⟩ := open_bytes Try.underlying33 Try.underlying5 (by kernel_rfl) (hval 0 _ v0 rfl rfl) h0
  refine (nodeValid_walk bs A c W hr hlc (Nat.le_trans hlc hcm)).mono fun e W' ⟨he, hw⟩ => ?_
  subst he
  exact ⟨_, rfl, law_post hW' rfl rfl (by kernel_rfl) Try.underlying4 Try.laidOut (of_decide_eq_true (by kernel_rfl)) hw⟩

theorem fnNodeValid_holds : Rows.FnNodeValidSaid :=
  OpenClaim.holds_of_wide 4 Try.f4 rfl rfl rfl rfl rfl rfl rfl ⟨rfl, rfl, rfl, rfl, rfl⟩ rfl rfl rfl rfl rfl (by kernel_rfl) Try.func4 (by kernel_rfl)
    (of_decide_eq_true (by kernel_rfl)) (by unfold Func.isWrapper; first | (rw [if_pos (by decide +kernel)]; kernel_rfl) | (rw [if_neg (by decide +kernel)]; exact ⟨rfl, rfl⟩))
    (fun os started H enc _ => fnNodeValid_lifted os started H enc)

#print axioms fnNodeValid_holds
end Go.Proofs.Ytdmmnjnbjigdeaa
