/- For every code: the node that NodeAt finds in the drawn node by the drawn name is the reference's, lies in the record behind the name, and is valid: the law FnNodeAt holds. No conditions. -/
import Derived.Test.YtdmmnjnbjigdeaaNodeAt
import Derived.Test.YtdmmnjnbjigdeaaNodeSt
import Derived.Test.YtdmmnjnbjigdeaaNodeValidLaw
namespace Go.Proofs.Ytdmmnjnbjigdeaa
open Go.RowKit Go.ChangeShapes Go.WideShapes Go.ChangeAt Go.Joins

theorem nodeAt_valid {a x : Nd} {nm : Tx} (h : nodeAt a nm = some x) : Nd.valid x = true := by
  cases a with
  | mk k n t ns xs =>
    unfold nodeAt at h
    split at h
    · next hv => exact Nd.valid_mem hv (look_mem h)
    · cases h
theorem nodeAt_look {k n : Int} {t : Tx} {ns : List Tx} {xs : List Nd} {x : Nd} {nm : Tx} (h : nodeAt (.mk k n t ns xs) nm = some x) : look ns xs nm = some x ∧ ns.length ≤ xs.length := by
  unfold nodeAt at h
  split at h
  · next hv =>
    refine ⟨h, ?_⟩
    have := valid_lens hv
    split at this <;> omega
  · cases h
set_option maxRecDepth 100000 in
set_option maxHeartbeats 8000000 in
theorem nodeAt_walk (bs : Tx) (A : Option Addr) (c : Nat) (w : World) (hr : Rd w w.heap.size A (bcells bs)) (hc : bs.length ≤ c) (hm : bs.length ≤ maxLen) :
    Calls Try.prog 6 #[.slice A bs.length c] w fun e w' => e = .returned (.bool true) ∧ Below w.heap.size w w' := by
  unfold maxLen at hm
  by_cases h : 1048576 < bs.length
  · go_enter Try.func6, Try.ntmps6
    go_wp2
    go_ret
    exact ⟨rfl, Below.refl _ _⟩
  have HD := Lib.hid (spec_DrawNodeAt bs A c w hr hc (by omega))
  clear hr
  go_enter Try.func6, Try.ntmps6
  go_wp2_with fail
  refine HD.out.mono ?_
  rintro e w1 ⟨x, k, n, t, An, ln, cn, Ai, li, ci, nm, rfl, hin1, hs1, hnm, hb1⟩
  obtain ⟨k, n, t, An, ln, cn, Ai, li, ci, ns, xs, hp1, hp2, hp3, hp4, hp5, e⟩ : ∃ k2 n2 t2 An2 ln2 cn2 Ai2 li2 ci2 ns xs, x = .mk k2 n2 t2 ns xs ∧ ln2 = ns.length ∧ li2 = xs.length ∧ RdN w1 (All w1) Ai2 xs ∧ RdIn w1 (All w1) An2 (scells ns) ∧ ndV k n t An ln cn Ai li ci = ndV k2 n2 t2 An2 ln2 cn2 Ai2 li2 ci2 := by
    cases x with
    | mk k2 n2 t2 ns xs =>
      obtain ⟨An', cn', Ai', ci', e, h1, _, _, hr⟩ := hin1.all.parts
      exact ⟨k2, n2, t2, An', _, cn', Ai', _, ci', ns, xs, rfl, rfl, rfl, hr, h1, e⟩
  rw [e] at hin1 ⊢
  clear e
  subst hp1 hp2 hp3
  have hX0 := heap_alloc_new w1 (.cells (ndCells k n t An ns.length cn Ai xs.length ci) 30)
  have hA0 := (Below.refl w1.heap.size w1).alloc (Nat.le_refl _) (.cells (ndCells k n t An ns.length cn Ai xs.length ci) 30)
  have HX0 := Lib.hid hX0
  have HU0 := Lib.hid (hin1.all.now hA0)
  have HR0 := Lib.hid (hp4.now hA0)
  have HN0 := Lib.hid (hp5.now hA0)
  have HB0 := Lib.hid (hb1.trans (hA0.mono hb1.size))
  have hZ : Nd.size (.mk k n t ns xs) ≤ 1048576 := by omega
  have hxl : xs.length ≤ 1048576 := by simp only [Nd.size] at hZ; omega
  have hnl : ns.length ≤ 1048576 := by simp only [Nd.size] at hZ; omega
  have HM : Hid (∀ x ∈ xs, Nd.size x ≤ 1048576) := fun x hx => by have h1 := Nd.size_mem hx; simp only [Nd.size] at hZ; omega
  have HNV := Lib.hid (fun x (h : nodeAt (.mk k n t ns xs) nm = some x) => nodeAt_valid h)
  have HNL := Lib.hid (fun x (h : nodeAt (.mk k n t ns xs) nm = some x) => nodeAt_look h)
  have HIM := Lib.hid (impl_NodeAt (.mk k n t ns xs) nm _ _ HU0.out hZ)
  have HSP := Lib.hid (fun w3 (hb : Below _ _ w3) => spec_NodeAt (.mk k n t ns xs) nm _ w3 (HU0.out.now hb) hZ)
  generalize nodeAt (.mk k n t ns xs) nm = o at *
  have hsz0 : w1.heap.size < (w1.alloc (.cells (ndCells k n t An ns.length cn Ai xs.length ci) 30)).heap.size := by simp
  clear hin1 hs1 hb1 hA0 hX0 hp4 hp5 hZ HD
  go_wp2_with fail
  refine HIM.out.mono ?_
  rintro e w2 ⟨⟨k2, n2, t2, An2, l2, cn2, Ai2, m2, ci2⟩, L2, rfl, ho2, _, _, hb⟩
  have HA2 := Lib.hid ((Below.refl w2.heap.size w2).alloc (Nat.le_refl _) (.cells (ndCells k2 n2 t2 An2 l2 cn2 Ai2 m2 ci2) 30))
  have HB02 := Lib.hid (hb.trans (HA2.out.mono hb.size))
  have HB2 := Lib.hid (HB0.out.trans (HB02.out.mono HB0.out.size))
  have HSP2 := Lib.hid (HSP.out _ HB02.out)
  have HX2 := Lib.hid (bx_keep HX0.out HB02.out)
  have HY2 := Lib.hid (heap_alloc_new w2 (.cells (ndCells k2 n2 t2 An2 l2 cn2 Ai2 m2 ci2) 30))
  have HI2 := Lib.hid ((OwT.inN (S := All w2) _ _ _ ho2 (fun b hb => OwT.lt _ _ _ ho2 b hb)).now HA2.out)
  have hsz2 : w2.heap.size < (w2.alloc (.cells (ndCells k2 n2 t2 An2 l2 cn2 Ai2 m2 ci2) 30)).heap.size := by simp
  obtain ⟨⟨f0, f1, f2, f3, f4⟩, -⟩ := box_five HX2.out
  clear hb ho2 HIM HSP
  go_wp2_with fail
  refine HSP2.out.mono ?_
  rintro e w3 ⟨k3, n3, t3, An3, l3, cn3, Ai3, m3, ci3, rfl, hin3, hb⟩
  have HA3 := Lib.hid ((Below.refl w3.heap.size w3).alloc (Nat.le_refl _) (.cells (ndCells k3 n3 t3 An3 l3 cn3 Ai3 m3 ci3) 30))
  have HB23 := Lib.hid (hb.trans (HA3.out.mono hb.size))
  have HB3 := Lib.hid (HB2.out.trans (HB23.out.mono HB2.out.size))
  have HX3 := Lib.hid (bx_keep HX2.out HB23.out)
  have HY3 := Lib.hid (bx_keep HY2.out HB23.out)
  have HZ3 := Lib.hid (heap_alloc_new w3 (.cells (ndCells k3 n3 t3 An3 l3 cn3 Ai3 m3 ci3) 30))
  have HI3 := Lib.hid (HI2.out.now HB23.out)
  have HJ3 := Lib.hid (hin3.all.now HA3.out)
  have hxs : Nd.size (o.getD zeroNd) ≤ 1048576 := by
    cases o with
    | none => simp [zeroNd, Nd.size, Nd.sizes, ssize]
    | some y => exact HM.out y (look_mem (HNL.out y rfl).1)
  have HSN := Lib.hid (impl_SameNode (o.getD zeroNd) (o.getD zeroNd) _ _ _ HI3.out HJ3.out (Nd.fit_size _ hxs) (Nd.fit_size _ hxs))
  rw [Nd.same_self] at HSN
  obtain ⟨⟨y0, y1, y2, y3, y4⟩, -⟩ := box_five HY3.out
  obtain ⟨⟨z0, z1, z2, z3, z4⟩, -⟩ := box_five HZ3.out
  clear hb hin3 HSP2 f0 f1 f2 f3 f4
  go_wp2_with fail
  refine HSN.out.mono ?_
  rintro e w4 ⟨rfl, hb⟩
  have HB04 := Lib.hid ((HB02.out.trans (HB23.out.mono HB02.out.size)).trans (hb.mono (HB02.out.trans (HB23.out.mono HB02.out.size)).size))
  have HB4 := Lib.hid (HB0.out.trans (HB04.out.mono HB0.out.size))
  have HX4 := Lib.hid (bx_keep HX3.out hb)
  have HY4 := Lib.hid (bx_keep HY3.out hb)
  have HI4 := Lib.hid (HI3.out.now hb)
  have HR4 := Lib.hid (HR0.out.now HB04.out)
  have HN4 := Lib.hid (HN0.out.now HB04.out)
  have hszx : w1.heap.size < w4.heap.size := by have := HB04.out.size; omega
  have hszy : w2.heap.size < w4.heap.size := by have := HB23.out.size; have := hb.size; omega
  obtain ⟨⟨p0, p1, p2, p3, p4⟩, -⟩ := box_five HY4.out
  obtain ⟨⟨q0, q1, q2, q3, q4⟩, -⟩ := box_five HX4.out
  clear hb HSN y0 y1 y2 y3 y4 z0 z1 z2 z3 z4 HB02 HB23 HX0 HU0 HR0 HN0 HX2 HY2 HI2 HX3 HY3 HZ3 HI3 HJ3 HB2 HB3
  have hbb : (o.isSome != o.isSome) = false := by simp
  cases o with
  | none =>
    simp only [Option.getD_none, zeroNd] at HI4
    obtain ⟨An9, cn9, Ai9, ci9, e9, _⟩ := HI4.out.parts
    have hk2 : k2 = 0 := by injection e9 with e9; simp at e9; exact e9.1
    subst hk2
    have HAL := Lib.hid (laws_alive w4)
    clear e9
    simp only [Option.isSome_none] at hbb ⊢
    go_wp2_with fail
    refine HAL.out.mono ?_
    rintro e w5 ⟨rfl, hb⟩
    have HB5 := Lib.hid (HB4.out.trans (hb.mono HB4.out.size))
    clear hb
    go_wp2
    go_ret
    exact ⟨rfl, HB5.out⟩
  | some x =>
    simp only [Option.getD_some, Option.isSome_some] at *
    have HLX := Lib.hid (HNL.out x rfl)
    have hln : ns.length ≤ xs.length := HLX.out.2
    have HVX := Lib.hid (HNV.out x rfl)
    have HFX := Lib.hid (Nd.fit_size _ hxs)
    have hxs2 := hxs
    clear HNL HNV
    go_wp2
    go_loopw [9, 10] (fun f i wr => ∃ (j : Nat) (b : Bool), j ≤ ns.length ∧ i = .int .i64 j ∧ f = .bool b ∧ (b = true ∨ look (ns.drop j) (xs.drop j) nm = some x) ∧ Below w4.heap.size w4 wr) (fun _ i _ => ns.length - (intOf i).toNat)
    case atStart => exact ⟨0, false, Nat.zero_le _, rfl, rfl, .inr HLX.out.1, Below.refl _ _⟩
    case round =>
      obtain ⟨j, b, hj, rfl, rfl, hlk, hb⟩ := hrel
      have HB := Lib.hid hb
      have HLK := Lib.hid hlk
      obtain ⟨⟨p0, p1, p2, p3, p4⟩, -⟩ := box_five (bx_keep HY4.out hb)
      obtain ⟨⟨q0, q1, q2, q3, q4⟩, -⟩ := box_five (bx_keep HX4.out hb)
      have HCP := Lib.hid (And.intro p0 (And.intro p1 (And.intro p2 (And.intro p3 p4))))
      clear hb hlk
      by_cases hlt : j < ns.length
      · have hlx : j < xs.length := by omega
        obtain ⟨b1, o1, hAn, hab, hc0⟩ := ((HN4.out.now HB.out).rd (fun _ h => h)).str hlt
        obtain ⟨b2, o2, hA2, hb2, kd, nn, tt, An1, ln1, cn1, Ai1, li1, ci1, hin, c0, c1, c2, c3, c4⟩ := (HR4.out.now HB.out).at hlx
        subst hAn
        subst hA2
        have hszw := HB.out.size
        have HIN := Lib.hid hin
        clear hin
        cases b
        case true =>
          go_wp2_with fail
          go_quiet (fail)
          go_wp2
          go_roundw
          case rel => exact ⟨j + 1, true, by omega, by go_num, rfl, .inl rfl, below_drewN HB.out _⟩
          case measure => simp [intOf]; omega
        case false =>
          have hlk : look (ns.drop j) (xs.drop j) nm = some x := by
            rcases HLK.out with e | e
            · cases e
            · exact e
          have hst := look_step hlk hlt hlx
          cases hq : (ns[j] == nm)
          · rw [hq, if_neg (by decide)] at hst
            have HST := Lib.hid hst
            clear hst hlk
            go_wp2_with fail
            go_quiet (fail)
            go_wp2
            go_roundw
            case rel => exact ⟨j + 1, false, by omega, by go_num, rfl, .inr HST.out, below_drewN HB.out _⟩
            case measure => simp [intOf]; omega
          · rw [hq, if_pos rfl] at hst
            injection hst with hst
            have HST := Lib.hid hst
            have HSJ := Lib.hid (fun w9 (hb : Below wr.heap.size wr w9) => impl_SameNode xs[j] x _ _ w9 (HIN.out.now hb) (HI4.out.now (HB.out.trans (hb.mono HB.out.size))) (Nd.fit_size _ (HM.out _ (List.getElem_mem hlx))) HFX.out)
            rw [HST.out, Nd.same_self] at HSJ
            have HKP : Hid (∀ w9, Below wr.heap.size wr w9 → w9.cell? ⟨b1, o1 + j, none⟩ = some (sv ns[j]) ∧ w9.cell? ⟨b2, o2 + j * 5, none⟩ = some (.int .i64 kd) ∧ w9.cell? ⟨b2, o2 + j * 5 + 1, none⟩ = some (.int .i64 nn) ∧ w9.cell? ⟨b2, o2 + j * 5 + 2, none⟩ = some (sv tt) ∧ w9.cell? ⟨b2, o2 + j * 5 + 3, none⟩ = some (.slice An1 ln1 cn1) ∧ w9.cell? ⟨b2, o2 + j * 5 + 4, none⟩ = some (.slice Ai1 li1 ci1) ∧
                w9.cell? ⟨w1.heap.size, 3, none⟩ = some (.slice (some ⟨b1, o1, none⟩) ns.length cn) ∧ w9.cell? ⟨w1.heap.size, 4, none⟩ = some (.slice (some ⟨b2, o2, none⟩) xs.length ci) ∧ w9.cell? ⟨w2.heap.size, 0, none⟩ = some (.int .i64 k2) ∧ w9.cell? ⟨w2.heap.size, 1, none⟩ = some (.int .i64 n2) ∧ w9.cell? ⟨w2.heap.size, 2, none⟩ = some (sv t2) ∧ w9.cell? ⟨w2.heap.size, 3, none⟩ = some (.slice An2 l2 cn2) ∧ w9.cell? ⟨w2.heap.size, 4, none⟩ = some (.slice Ai2 m2 ci2)) := fun w9 hb =>
              ⟨(hb.cell (p := ⟨b1, o1 + j, none⟩) hab).trans hc0, (hb.cell (p := ⟨b2, o2 + j * 5, none⟩) hb2).trans c0, (hb.cell (p := ⟨b2, o2 + j * 5 + 1, none⟩) hb2).trans c1, (hb.cell (p := ⟨b2, o2 + j * 5 + 2, none⟩) hb2).trans c2, (hb.cell (p := ⟨b2, o2 + j * 5 + 3, none⟩) hb2).trans c3, (hb.cell (p := ⟨b2, o2 + j * 5 + 4, none⟩) hb2).trans c4,
                (hb.cell (p := ⟨w1.heap.size, 3, none⟩) (by show w1.heap.size < wr.heap.size; omega)).trans q3, (hb.cell (p := ⟨w1.heap.size, 4, none⟩) (by show w1.heap.size < wr.heap.size; omega)).trans q4, (hb.cell (p := ⟨w2.heap.size, 0, none⟩) (by show w2.heap.size < wr.heap.size; omega)).trans p0, (hb.cell (p := ⟨w2.heap.size, 1, none⟩) (by show w2.heap.size < wr.heap.size; omega)).trans p1, (hb.cell (p := ⟨w2.heap.size, 2, none⟩) (by show w2.heap.size < wr.heap.size; omega)).trans p2, (hb.cell (p := ⟨w2.heap.size, 3, none⟩) (by show w2.heap.size < wr.heap.size; omega)).trans p3, (hb.cell (p := ⟨w2.heap.size, 4, none⟩) (by show w2.heap.size < wr.heap.size; omega)).trans p4⟩
            clear hst hlk
            go_wp2_with fail
            go_region_held3 (fun w9 => w9.cell? ⟨b1, o1 + j, none⟩ = some (sv ns[j]) ∧ w9.cell? ⟨b2, o2 + j * 5, none⟩ = some (.int .i64 kd) ∧ w9.cell? ⟨b2, o2 + j * 5 + 1, none⟩ = some (.int .i64 nn) ∧ w9.cell? ⟨b2, o2 + j * 5 + 2, none⟩ = some (sv tt) ∧ w9.cell? ⟨b2, o2 + j * 5 + 3, none⟩ = some (.slice An1 ln1 cn1) ∧ w9.cell? ⟨b2, o2 + j * 5 + 4, none⟩ = some (.slice Ai1 li1 ci1) ∧
                w9.cell? ⟨w1.heap.size, 3, none⟩ = some (.slice (some ⟨b1, o1, none⟩) ns.length cn) ∧ w9.cell? ⟨w1.heap.size, 4, none⟩ = some (.slice (some ⟨b2, o2, none⟩) xs.length ci) ∧ w9.cell? ⟨w2.heap.size, 0, none⟩ = some (.int .i64 k2) ∧ w9.cell? ⟨w2.heap.size, 1, none⟩ = some (.int .i64 n2) ∧ w9.cell? ⟨w2.heap.size, 2, none⟩ = some (sv t2) ∧ w9.cell? ⟨w2.heap.size, 3, none⟩ = some (.slice An2 l2 cn2) ∧ w9.cell? ⟨w2.heap.size, 4, none⟩ = some (.slice Ai2 m2 ci2))
              (first | exact HKP.out _ (Below.refl _ _).drew | exact HKP.out _ ((Below.refl _ _).drew.trans hbq))
              (first | (go_at_call 11; refine (HSJ.out _ (Below.refl _ _).drew).mono ?_; rintro e wq ⟨rfl, hbq⟩))
            have HB9 := Lib.hid (HB.out.trans (((Below.refl _ wr).drew.trans hbq).mono HB.out.size))
            clear hbq
            go_simp
            go_wp2
            go_roundw
            case rel => exact ⟨j + 1, true, by omega, by go_num, rfl, .inl rfl, HB9.out⟩
            case measure => simp [intOf]; omega
      · cases b
        case false =>
          exfalso
          rcases HLK.out with e | e
          · cases e
          · exact absurd (look_end e hlt) (by intro e2; cases e2)
        case true =>
          have HVC := impl_NodeValid x _ wr (HI4.out.now HB.out) hxs2
          rw [HVX.out] at HVC
          have HVD := Lib.hid HVC
          clear HVC
          go_wp2_with fail
          refine HVD.out.mono ?_
          rintro e w5 ⟨rfl, hb⟩
          have HB5 := Lib.hid (HB4.out.trans ((HB.out.trans (hb.mono HB.out.size)).mono HB4.out.size))
          clear hb
          go_wp2
          go_ret
          exact ⟨rfl, HB5.out⟩

set_option maxRecDepth 100000 in
theorem fnNodeAt_lifted (os : Os) (started : os.Started) (H : Type) (enc : TypeId × Value → H) :
    ReturnsInHanded {} Try.checked os 6 .any (Rows.fnNodeAtSpec.pre6 enc Try.prog Try.f6 Rows.fnNodeAtRow.domain false)
      (Rows.fnNodeAtSpec.post enc Try.prog Try.f6 false true false false) := by
  refine returnsInHanded_of_change (C := Try.checked) Try.own started (by kernel_rfl) Try.func6
    (ChangeSpec.witness6 (enc := enc) (C := Try.checked) false ⟨#[], #[.slice none 0 0], []⟩ 8 (by kernel_rfl) (by kernel_rfl) (by kernel_rfl) (by kernel_rfl)) ?_
  intro W base args ds gs before hval0 hW _ _
  have hval : ∀ (j : Nat) t v, Try.f6.params[j]? = some t → args[j]? = some v → Value.okWide Try.prog W .any base t v := hval0
  have hW' := hW
  obtain ⟨p, q, hA0, hV, rfl, _, _⟩ := hW
  have hA : DataW.TrodAll enc Try.prog W 0 (fun _ => true) true Try.f6.params.toList args.toList ds p := hA0
  rw [Try.params6] at hA hval
  obtain ⟨v0, d0, rfl, rfl, h0⟩ := trodAll_one hA
  obtain ⟨rfl, rfl⟩ := trodVars_none hV
  obtain ⟨A, c, bs, rfl, hr, hlc, hcm⟩ := open_bytes Try.underlying33 Try.underlying5 (by kernel_rfl) (hval 0 _ v0 rfl rfl) h0
  refine (nodeAt_walk bs A c W hr hlc (Nat.le_trans hlc hcm)).mono fun e W' ⟨he, hw⟩ => ?_
  subst he
  exact ⟨_, rfl, law_post hW' rfl rfl (by kernel_rfl) Try.underlying4 Try.laidOut (of_decide_eq_true (by kernel_rfl)) hw⟩

theorem fnNodeAt_holds : Rows.FnNodeAtSaid :=
  OpenClaim.holds_of_wide 6 Try.f6 rfl rfl rfl rfl rfl rfl rfl ⟨rfl, rfl, rfl, rfl, rfl⟩ rfl rfl rfl rfl rfl (by kernel_rfl) Try.func6 (by kernel_rfl)
    (of_decide_eq_true (by kernel_rfl)) (by unfold Func.isWrapper; first | (rw [if_pos (by decide +kernel)]; kernel_rfl) | (rw [if_neg (by decide +kernel)]; exact ⟨rfl, rfl⟩))
    (fun os started H enc _ => fnNodeAt_lifted os started H enc)

#print axioms fnNodeAt_holds
end Go.Proofs.Ytdmmnjnbjigdeaa
