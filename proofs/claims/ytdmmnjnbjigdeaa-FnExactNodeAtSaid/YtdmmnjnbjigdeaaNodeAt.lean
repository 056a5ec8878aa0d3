/- NodeAt of impl and of spec: walks. -/
import Derived.Test.YtdmmnjnbjigdeaaNodeCopyI
import Derived.Test.YtdmmnjnbjigdeaaNodeValid
namespace Go.Proofs.Ytdmmnjnbjigdeaa
open Go.RowKit

/-- the first node with the name -/
def look : List Tx → List Nd → Tx → Option Nd
  | n :: ns, x :: xs, nm => if n == nm then some x else look ns xs nm
  | _, _, _ => none
theorem look_step {ns : List Tx} {xs : List Nd} {nm : Tx} {r : Option Nd} {j : Nat} (h : look (ns.drop j) (xs.drop j) nm = r) (hn : j < ns.length) (hx : j < xs.length) : (if ns[j] == nm then some xs[j] else look (ns.drop (j + 1)) (xs.drop (j + 1)) nm) = r := by
  rw [drop_cons ns j hn, drop_cons xs j hx, look] at h; exact h
theorem look_end {ns : List Tx} {xs : List Nd} {nm : Tx} {r : Option Nd} {j : Nat} (h : look (ns.drop j) (xs.drop j) nm = r) (hn : ¬ j < ns.length) : none = r := by
  rw [drop_nil ns j (by omega), look] at h
  · exact h
  · intro _ _ _ _ e; cases e
def zeroNd : Nd := .mk 0 0 [] [] []
def nodeAt (a : Nd) (nm : Tx) : Option Nd := if Nd.valid a then look a.names a.inside nm else none
theorem look_mem : ∀ {ns : List Tx} {xs : List Nd} {nm : Tx} {x : Nd}, look ns xs nm = some x → x ∈ xs
  | n :: ns, y :: xs, nm, x, h => by
    rw [look] at h
    split at h
    · injection h with h; subst h; simp
    · exact List.mem_cons_of_mem _ (look_mem h)
  | [], _, _, _, h => by simp [look] at h
  | _ :: _, [], _, _, h => by simp [look] at h
theorem valid_lens {k n : Int} {t : Tx} {ns : List Tx} {xs : List Nd} (h : Nd.valid (.mk k n t ns xs) = true) : ns.length = if k = 6 then xs.length else 0 := by
  have h3 : (Nd.ok (.mk k n t ns xs) 4 && decide (Nd.count (.mk k n t ns xs) ≤ 30)) = true := h
  simp only [Nd.ok, headOkN, lenOk, Bool.and_eq_true, decide_eq_true_eq] at h3
  exact h3.1.2.1.2.2.2.1.2
/-- a node and whether there is one -/
def NewTB (w : World) (o : Option Nd) (e : Ending) (w' : World) : Prop :=
  ∃ (r : Raw) (L : List Nat), e = .returned (.tuple #[r.v, .bool o.isSome]) ∧ OwT w' (o.getD zeroNd) r L ∧ L.Nodup ∧ (∀ b ∈ L, w.heap.size ≤ b) ∧ Below w.heap.size w w'
def NewNB (w : World) (o : Option Nd) (e : Ending) (w' : World) : Prop :=
  ∃ k n t An ln cn Ai li ci, e = .returned (.tuple #[ndV k n t An ln cn Ai li ci, .bool o.isSome]) ∧ InN w' (Fresh w w') (o.getD zeroNd) (ndV k n t An ln cn Ai li ci) ∧ Below w.heap.size w w'
theorem owT_zero (w : World) : OwT w zeroNd ⟨0, 0, [], none, 0, 0, none, 0, 0⟩ [] := by
  rw [zeroNd, OwT]
  refine ⟨rfl, rfl, rfl, rfl, rfl, World.ownsRow_nil w 0 _ 1, [], [], ownN_nil _ _, by rw [OwTs]; exact ⟨rfl, rfl⟩, rfl⟩
theorem inN_zero {w : World} {S : Nat → Prop} : InN w S zeroNd (ndV 0 0 [] none 0 0 none 0 0) := by
  rw [zeroNd]
  exact InN.mk (fun h => absurd rfl h) (Nat.le_refl 0) (Nat.le_refl 0) (fun h => absurd rfl h)

set_option maxRecDepth 100000 in
set_option maxHeartbeats 8000000 in
theorem impl_NodeAt (a : Nd) (nm : Tx) (u : Value) (w : World) (hu : InN w (All w) a u) (hsz : Nd.size a ≤ 1048576) :
    Calls Try.prog 18 #[u, .string ⟨nm.toArray⟩] w (NewTB w (nodeAt a nm)) := by
  cases a with
  | mk k n t ns xs =>
  obtain ⟨An, cn, Ai, ci, rfl, hrn, hcn, hci, hri⟩ := hu.parts
  have HV := Lib.hid (fun w1 u (hu : InN w1 (All w1) (.mk k n t ns xs) u) => impl_NodeValid (.mk k n t ns xs) u w1 hu hsz)
  have HM : Hid (∀ x ∈ xs, Nd.size x ≤ 1048576) := fun x hx => by have h1 := Nd.size_mem hx; simp only [Nd.size] at hsz; omega
  simp only [Nd.size] at hsz
  obtain ⟨hB0, hX0, hY0⟩ := two_boxes w (ndCells k n t An ns.length cn Ai xs.length ci) #[.int .i64 0, .int .i64 0, .string ⟨#[]⟩, .slice none 0 0, .slice none 0 0] 30 30
  have hs0 : ((w.alloc (.cells (ndCells k n t An ns.length cn Ai xs.length ci) 30)).alloc (.cells #[.int .i64 0, .int .i64 0, .string ⟨#[]⟩, .slice none 0 0, .slice none 0 0] 30)).heap.size = w.heap.size + 2 := by simp
  have HB0 := Lib.hid hB0
  have HX0 := Lib.hid hX0
  have HY0 := Lib.hid hY0
  have HS0 := Lib.hid hs0
  have HU0 := Lib.hid (hu.now hB0)
  have HRN := Lib.hid (hrn.now hB0)
  have HRI := Lib.hid (hri.now hB0)
  have HNA : Hid (nodeAt (.mk k n t ns xs) nm = if Nd.valid (.mk k n t ns xs) then look ns xs nm else none) := rfl
  have HVL := Lib.hid (fun (h : Nd.valid (.mk k n t ns xs) = true) => valid_lens h)
  generalize Nd.valid (.mk k n t ns xs) = vd at *
  have hnl : ns.length ≤ 1048576 := by omega
  have hxl : xs.length ≤ 1048576 := by omega
  clear hu hrn hri hB0 hX0 hY0 hs0 hsz
  go_enter Try.func18, Try.ntmps18
  go_upto_region 1 with fail
  generalize (w.alloc (.cells (ndCells k n t An ns.length cn Ai xs.length ci) 30)).alloc (.cells #[.int .i64 0, .int .i64 0, .string ⟨#[]⟩, .slice none 0 0, .slice none 0 0] 30) = w0 at *
  obtain ⟨⟨x0, x1, x2, x3, x4⟩, -⟩ := box_five HX0.out
  have HVC := Lib.hid (HV.out _ _ HU0.out)
  go_wp2_with fail
  refine HVC.out.mono ?_
  rintro e w1 ⟨rfl, hb⟩
  have HB1 := Lib.hid (HB0.out.trans (hb.mono HB0.out.size))
  have HX1 := Lib.hid (bx_keep HX0.out hb)
  have HY1 := Lib.hid (bx_keep HY0.out hb)
  have HRN1 := Lib.hid (HRN.out.now hb)
  have HRI1 := Lib.hid (HRI.out.now hb)
  have hz1 : w.heap.size + 2 ≤ w1.heap.size := by have := hb.size; have := HS0.out; omega
  obtain ⟨⟨p0, p1, p2, p3, p4⟩, -⟩ := box_five HX1.out
  obtain ⟨⟨y0, y1, y2, y3, y4⟩, y5, y6, y7, y8, y9⟩ := box_five HY1.out
  clear hb x0 x1 x2 x3 x4 HV HVC
  cases vd
  · have HNO : Hid (nodeAt (.mk k n t ns xs) nm = none) := HNA.out
    go_wp2
    refine bodyPost_ret (v := .tuple #[ndV 0 0 [] none 0 0 none 0 0, .bool false]) (by simp [results, Try.results18, go_sem, *]) rfl ?_
    rw [HNO.out]
    refine ⟨⟨0, 0, [], none, 0, 0, none, 0, 0⟩, [], rfl, owT_zero _, List.nodup_nil, fun b hb => (by cases hb), Below.setCell (Below.setCell (Below.setCell (Below.setCell (Below.setCell HB1.out ?_ _) ?_ _) ?_ _) ?_ _) ?_ _⟩
    all_goals (show w.heap.size ≤ w.heap.size + 1; omega)
  have HNL : Hid (nodeAt (.mk k n t ns xs) nm = look ns xs nm) := HNA.out
  have hlen := HVL.out rfl
  by_cases hk : k = 6
  case neg =>
    have HNO : Hid (nodeAt (.mk k n t ns xs) nm = none) := by
      show _ = _
      rw [if_neg hk] at hlen
      rw [HNL.out, List.eq_nil_of_length_eq_zero hlen]
      cases xs <;> simp [look]
    have hkb : (k != 6) = true := by simpa using hk
    clear hlen
    go_wp2
    refine bodyPost_ret (v := .tuple #[ndV 0 0 [] none 0 0 none 0 0, .bool false]) (by simp [results, Try.results18, go_sem, *]) rfl ?_
    rw [HNO.out]
    refine ⟨⟨0, 0, [], none, 0, 0, none, 0, 0⟩, [], rfl, owT_zero _, List.nodup_nil, fun b hb => (by cases hb), Below.setCell (Below.setCell (Below.setCell (Below.setCell (Below.setCell HB1.out ?_ _) ?_ _) ?_ _) ?_ _) ?_ _⟩
    all_goals (show w.heap.size ≤ w.heap.size + 1; omega)
  subst hk
  rw [if_pos rfl] at hlen
  have HLEN := Lib.hid hlen
  clear hlen HVL HNA
  go_wp2
  go_loopw [20] (fun i wr => ∃ (j : Nat), j ≤ ns.length ∧ i = .int .i64 j ∧ look (ns.drop j) (xs.drop j) nm = look ns xs nm ∧ wr = w1) (fun i _ => ns.length - (intOf i).toNat)
  case atStart => exact ⟨0, Nat.zero_le _, rfl, rfl, rfl⟩
  case round =>
    obtain ⟨j, hj, rfl, hlk, rfl⟩ := hrel
    have HLK := Lib.hid hlk
    clear hlk
    by_cases hlt : j < ns.length
    · have hlx : j < xs.length := by have := HLEN.out; omega
      obtain ⟨b, o, hAn, hab, hc0⟩ := (HRN1.out.rd (fun _ h => h)).str hlt
      obtain ⟨b1, o1, hA1, hb1, kd, nn, tt, An1, ln1, cn1, Ai1, li1, ci1, hin, c0, c1, c2, c3, c4⟩ := HRI1.out.at hlx
      have HST := Lib.hid (look_step HLK.out hlt hlx)
      have HCALL := Lib.hid (impl_copyNode xs[j] _ _ hin (HM.out _ (List.getElem_mem hlx)))
      subst hAn
      subst hA1
      clear hin
      cases hq : (ns[j] == nm)
      · have HS2 := HST.out
        rw [hq, if_neg (by decide)] at HS2
        have HS3 := Lib.hid HS2
        clear HS2
        go_wp2
        go_roundw
        case rel => exact ⟨j + 1, by omega, by go_num, HS3.out, trivial⟩
        case measure => simp [intOf]; omega
      · have HS2 := HST.out
        rw [hq, if_pos rfl] at HS2
        have HS3 := Lib.hid HS2
        clear HS2
        go_wp2_with fail
        refine HCALL.out.mono ?_
        rintro e w2 ⟨⟨k2, n2, t2, An2, l2, cn2, Ai2, m2, ci2⟩, L2, rfl, ho2, hn2, hr2, hb⟩
        have HB2 := Lib.hid (HB1.out.trans (hb.mono HB1.out.size))
        have HO2 := Lib.hid ho2
        have HN2 := Lib.hid hn2
        have HR2 := Lib.hid hr2
        obtain ⟨⟨f0, f1, f2, f3, f4⟩, f5, f6, f7, f8, f9⟩ := box_five (bx_keep HY1.out hb)
        clear hb ho2 hn2 hr2 c0 c1 c2 c3 c4 y0 y1 y2 y3 y4 y5 y6 y7 y8 y9 p0 p1 p2 p3 p4
        go_wp2
        refine bodyPost_ret (v := .tuple #[ndV k2 n2 t2 An2 l2 cn2 Ai2 m2 ci2, .bool true]) (by simp [results, Try.results18, go_sem, *]) rfl ?_
        rw [HNL.out, ← HS3.out]
        refine ⟨⟨k2, n2, t2, An2, l2, cn2, Ai2, m2, ci2⟩, L2, rfl, OwT.keep _ _ _ HO2.out (fun b hb => ?_), HN2.out, fun b hb => by have := HR2.out b hb; omega, Below.setCell (Below.setCell (Below.setCell (Below.setCell (Below.setCell HB2.out ?_ _) ?_ _) ?_ _) ?_ _) ?_ _⟩
        · have hb2 := HR2.out b hb
          rw [Below.heap_setCell _ _ _ _ (by show b ≠ w.heap.size + 1; omega), Below.heap_setCell _ _ _ _ (by show b ≠ w.heap.size + 1; omega), Below.heap_setCell _ _ _ _ (by show b ≠ w.heap.size + 1; omega), Below.heap_setCell _ _ _ _ (by show b ≠ w.heap.size + 1; omega), Below.heap_setCell _ _ _ _ (by show b ≠ w.heap.size + 1; omega)]
        all_goals (show w.heap.size ≤ w.heap.size + 1; omega)
    · have HNO : Hid (nodeAt (.mk 6 n t ns xs) nm = none) := by
        show _ = _
        rw [HNL.out]; exact (look_end HLK.out hlt).symm
      go_wp2
      refine bodyPost_ret (v := .tuple #[ndV 0 0 [] none 0 0 none 0 0, .bool false]) (by simp [results, Try.results18, go_sem, *]) rfl ?_
      rw [HNO.out]
      refine ⟨⟨0, 0, [], none, 0, 0, none, 0, 0⟩, [], rfl, owT_zero _, List.nodup_nil, fun b hb => (by cases hb), Below.setCell (Below.setCell (Below.setCell (Below.setCell (Below.setCell HB1.out ?_ _) ?_ _) ?_ _) ?_ _) ?_ _⟩
      all_goals (show w.heap.size ≤ w.heap.size + 1; omega)
set_option maxRecDepth 100000 in
set_option maxHeartbeats 8000000 in
theorem spec_NodeAt (a : Nd) (nm : Tx) (u : Value) (w : World) (hu : InN w (All w) a u) (hsz : Nd.size a ≤ 1048576) :
    Calls Try.prog 19 #[u, .string ⟨nm.toArray⟩] w (NewNB w (nodeAt a nm)) := by
  cases a with
  | mk k n t ns xs =>
  obtain ⟨An, cn, Ai, ci, rfl, hrn, hcn, hci, hri⟩ := hu.parts
  have HV := Lib.hid (fun w1 u (hu : InN w1 (All w1) (.mk k n t ns xs) u) => spec_NodeValid (.mk k n t ns xs) u w1 hu hsz)
  have HOC := Lib.hid (fun w1 u (hu : InN w1 (All w1) (.mk k n t ns xs) u) => spec_l1OwnNode (.mk k n t ns xs) u w1 hu hsz)
  have hnl : ns.length ≤ 1048576 := by simp only [Nd.size] at hsz; omega
  have hxl : xs.length ≤ 1048576 := by simp only [Nd.size] at hsz; omega
  obtain ⟨hB0, hX0, hY0⟩ := two_boxes w (ndCells k n t An ns.length cn Ai xs.length ci) #[.int .i64 0, .int .i64 0, .string ⟨#[]⟩, .slice none 0 0, .slice none 0 0] 30 30
  have hs0 : ((w.alloc (.cells (ndCells k n t An ns.length cn Ai xs.length ci) 30)).alloc (.cells #[.int .i64 0, .int .i64 0, .string ⟨#[]⟩, .slice none 0 0, .slice none 0 0] 30)).heap.size = w.heap.size + 2 := by simp
  have HB0 := Lib.hid hB0
  have HX0 := Lib.hid hX0
  have HY0 := Lib.hid hY0
  have HS0 := Lib.hid hs0
  have HU0 := Lib.hid (hu.now hB0)
  have HNA : Hid (nodeAt (.mk k n t ns xs) nm = if Nd.valid (.mk k n t ns xs) then look ns xs nm else none) := rfl
  have HVL := Lib.hid (fun (h : Nd.valid (.mk k n t ns xs) = true) => valid_lens h)
  clear hu hrn hri hB0 hX0 hY0 hs0 hsz
  go_enter Try.func19, Try.ntmps19
  go_upto_region 1 with fail
  generalize (w.alloc (.cells (ndCells k n t An ns.length cn Ai xs.length ci) 30)).alloc (.cells #[.int .i64 0, .int .i64 0, .string ⟨#[]⟩, .slice none 0 0, .slice none 0 0] 30) = w0 at *
  obtain ⟨⟨x0, x1, x2, x3, x4⟩, -⟩ := box_five HX0.out
  have HCC := Lib.hid (HOC.out _ _ HU0.out)
  go_wp2_with fail
  refine HCC.out.mono ?_
  rintro e w1 ⟨k2, n2, t2, An2, ln2, cn2, Ai2, li2, ci2, rfl, hin, hb⟩
  obtain ⟨An3, cn3, Ai3, ci3, e3, hrn, hcn3, hci3, hri⟩ := hin.parts
  rw [e3] at hin ⊢
  clear e3
  have hz1 : w.heap.size + 2 ≤ w1.heap.size := by have := hb.size; have := HS0.out; omega
  have HBa := Lib.hid (HB0.out.trans (hb.mono HB0.out.size))
  have HXa := Lib.hid (bx_keep HX0.out hb)
  have HYa := Lib.hid (bx_keep HY0.out hb)
  have HINa := Lib.hid hin
  have HRNa := Lib.hid hrn
  have HRIa := Lib.hid hri
  obtain ⟨⟨p0, p1, p2, p3, p4⟩, p5, p6, p7, p8, p9⟩ := box_five HXa.out
  clear hb x0 x1 x2 x3 x4 HOC HCC hin hrn hri
  go_upto_region 2 with fail
  have hset : ∀ (W : World) (o : Nat) (u : Value) (p : Addr), w.heap.size + 1 ≤ p.block → (W.setCell ⟨w.heap.size, o, none⟩ u).cell? p = W.cell? p := fun W o u p h1 => World.cell?_of_block (Below.heap_setCell _ _ _ _ (by show p.block ≠ w.heap.size; omega))
  have hz2 : (((((w1.setCell ⟨w.heap.size, 0, none⟩ (.int .i64 k)).setCell ⟨w.heap.size, 1, none⟩ (.int .i64 n)).setCell ⟨w.heap.size, 2, none⟩ (sv t)).setCell ⟨w.heap.size, 3, none⟩ (.slice An3 ns.length cn3)).setCell ⟨w.heap.size, 4, none⟩ (.slice Ai3 xs.length ci3)).heap.size = w1.heap.size := by simp [World.setCell]
  have HBb := Lib.hid (Below.setCell (Below.setCell (Below.setCell (Below.setCell (Below.setCell HBa.out (p := ⟨w.heap.size, 0, none⟩) (Nat.le_refl _) (.int .i64 k)) (p := ⟨w.heap.size, 1, none⟩) (Nat.le_refl _) (.int .i64 n)) (p := ⟨w.heap.size, 2, none⟩) (Nat.le_refl _) (sv t)) (p := ⟨w.heap.size, 3, none⟩) (Nat.le_refl _) (.slice An3 ns.length cn3)) (p := ⟨w.heap.size, 4, none⟩) (Nat.le_refl _) (.slice Ai3 xs.length ci3))
  have HXb : Hid ((((((w1.setCell ⟨w.heap.size, 0, none⟩ (.int .i64 k)).setCell ⟨w.heap.size, 1, none⟩ (.int .i64 n)).setCell ⟨w.heap.size, 2, none⟩ (sv t)).setCell ⟨w.heap.size, 3, none⟩ (.slice An3 ns.length cn3)).setCell ⟨w.heap.size, 4, none⟩ (.slice Ai3 xs.length ci3)).heap[w.heap.size]? = some (.cells (ndCells k n t An3 ns.length cn3 Ai3 xs.length ci3) 30 (0, 0))) := cells_set (cells_set (cells_set (cells_set (cells_set HXa.out))))
  have HYb : Hid ((((((w1.setCell ⟨w.heap.size, 0, none⟩ (.int .i64 k)).setCell ⟨w.heap.size, 1, none⟩ (.int .i64 n)).setCell ⟨w.heap.size, 2, none⟩ (sv t)).setCell ⟨w.heap.size, 3, none⟩ (.slice An3 ns.length cn3)).setCell ⟨w.heap.size, 4, none⟩ (.slice Ai3 xs.length ci3)).heap[w.heap.size + 1]? = some (.cells #[.int .i64 0, .int .i64 0, .string ⟨#[]⟩, .slice none 0 0, .slice none 0 0] 30 (0, 0))) := by
    show _ = _
    rw [Below.heap_setCell _ _ _ _ (by show w.heap.size + 1 ≠ w.heap.size; omega), Below.heap_setCell _ _ _ _ (by show w.heap.size + 1 ≠ w.heap.size; omega), Below.heap_setCell _ _ _ _ (by show w.heap.size + 1 ≠ w.heap.size; omega), Below.heap_setCell _ _ _ _ (by show w.heap.size + 1 ≠ w.heap.size; omega), Below.heap_setCell _ _ _ _ (by show w.heap.size + 1 ≠ w.heap.size; omega)]
    exact HYa.out
  have HSET := Lib.hid hset
  have HS0b := HS0.out
  have HKC : Hid (∀ p : Addr, w0.heap.size ≤ p.block → (((((w1.setCell ⟨w.heap.size, 0, none⟩ (.int .i64 k)).setCell ⟨w.heap.size, 1, none⟩ (.int .i64 n)).setCell ⟨w.heap.size, 2, none⟩ (sv t)).setCell ⟨w.heap.size, 3, none⟩ (.slice An3 ns.length cn3)).setCell ⟨w.heap.size, 4, none⟩ (.slice Ai3 xs.length ci3)).cell? p = w1.cell? p) := fun p hp => by
    rw [HSET.out _ _ _ _ (by omega), HSET.out _ _ _ _ (by omega), HSET.out _ _ _ _ (by omega), HSET.out _ _ _ _ (by omega), HSET.out _ _ _ _ (by omega)]
  have HINb := Lib.hid (InN.keep (S' := fun b => w0.heap.size ≤ b ∧ b < w1.heap.size) (fun p hp => HKC.out p hp.1) (fun _ h => h) _ _ HINa.out)
  have HRNb := Lib.hid (HRNa.out.keep (S' := fun b => w0.heap.size ≤ b ∧ b < w1.heap.size) (fun p hp => HKC.out p hp.1) (fun _ h => h))
  have HRIb := Lib.hid (HRIa.out.keep (S' := fun b => w0.heap.size ≤ b ∧ b < w1.heap.size) (fun p hp => HKC.out p hp.1) (fun _ h => h))
  clear p0 p1 p2 p3 p4 p5 p6 p7 p8 p9 hset HSET HKC HINa HRNa HRIa HXa HYa HBa
  generalize (((((w1.setCell ⟨w.heap.size, 0, none⟩ (.int .i64 k)).setCell ⟨w.heap.size, 1, none⟩ (.int .i64 n)).setCell ⟨w.heap.size, 2, none⟩ (sv t)).setCell ⟨w.heap.size, 3, none⟩ (.slice An3 ns.length cn3)).setCell ⟨w.heap.size, 4, none⟩ (.slice Ai3 xs.length ci3)) = w2 at *
  have HVD := Lib.hid (fun w3 (hb : Below w2.heap.size w2 w3) => HV.out w3 _ (InN.keep (fun p hp => hb.cell (by rw [hz2]; exact hp.2)) (fun b h => by have := hb.size; have := h.2; omega) _ _ HINb.out))
  generalize Nd.valid (.mk k n t ns xs) = vd at *
  go_wp2
  go_loopw [6] (fun i wr => ∃ (j : Nat), j ≤ ns.length ∧ i = .int .i64 j ∧ (vd = true → look (ns.drop j) (xs.drop j) nm = look ns xs nm) ∧ Below w2.heap.size w2 wr) (fun i _ => ns.length - (intOf i).toNat)
  case atStart => exact ⟨0, Nat.zero_le _, rfl, fun _ => rfl, Below.refl _ _⟩
  case round =>
    obtain ⟨j, hj, rfl, hlk, hb⟩ := hrel
    have HLK := Lib.hid hlk
    have HB := Lib.hid hb
    have HX3 := Lib.hid (bx_keep HXb.out hb)
    obtain ⟨⟨x0, x1, x2, x3, x4⟩, -⟩ := box_five HX3.out
    clear hlk hb
    by_cases hlt : j < ns.length
    · have HVC := Lib.hid (HVD.out wr HB.out)
      go_wp2_with fail
      refine HVC.out.mono ?_
      rintro e w4 ⟨rfl, hb⟩
      have HB24 := Lib.hid (HB.out.trans (hb.mono HB.out.size))
      have HB4 := Lib.hid (HBb.out.trans (HB24.out.mono HBb.out.size))
      have HX4 := Lib.hid (bx_keep HX3.out hb)
      have HY4 := Lib.hid (bx_keep HYb.out HB24.out)
      have hz4 : w1.heap.size ≤ w4.heap.size := by have := HB24.out.size; omega
      obtain ⟨⟨y0, y1, y2, y3, y4⟩, y5, y6, y7, y8, y9⟩ := box_five HY4.out
      obtain ⟨⟨q0, q1, q2, q3, q4⟩, -⟩ := box_five HX4.out
      clear hb x0 x1 x2 x3 x4
      cases vd
      · have HNO : Hid (nodeAt (.mk k n t ns xs) nm = none) := HNA.out
        go_wp2
        refine bodyPost_ret (v := .tuple #[ndV 0 0 [] none 0 0 none 0 0, .bool false]) (by simp [results, Try.results19, go_sem, *]) rfl ?_
        rw [HNO.out]
        refine ⟨0, 0, [], none, 0, 0, none, 0, 0, rfl, inN_zero, Below.setCell (Below.setCell (Below.setCell (Below.setCell (Below.setCell HB4.out ?_ _) ?_ _) ?_ _) ?_ _) ?_ _⟩
        all_goals (show w.heap.size ≤ w.heap.size + 1; omega)
      · have HNL : Hid (nodeAt (.mk k n t ns xs) nm = look ns xs nm) := HNA.out
        have hlx : j < xs.length := by
          have hlen := HVL.out rfl
          split at hlen <;> omega
        have HRN4 := Lib.hid (HRNb.out.keep (S' := All w4) (fun p hp => HB24.out.cell (by rw [hz2]; exact hp.2)) (fun b h => by have := h.2; omega))
        have HRI4 := Lib.hid (HRIb.out.keep (S' := fun b => w0.heap.size ≤ b ∧ b < w1.heap.size) (fun p hp => HB24.out.cell (by rw [hz2]; exact hp.2)) (fun _ h => h))
        obtain ⟨b, o, hAn, hab, hc0⟩ := (HRN4.out.rd (fun _ h => h)).str hlt
        obtain ⟨b1, o1, hA1, hb1, kd, nn, tt, An1, ln1, cn1, Ai1, li1, ci1, hin, c0, c1, c2, c3, c4⟩ := HRI4.out.at hlx
        have HST := Lib.hid (look_step (HLK.out rfl) hlt hlx)
        have HIN := Lib.hid hin
        subst hAn
        subst hA1
        clear hin
        cases hq : (ns[j] == nm)
        · have HS2 := HST.out
          rw [hq, if_neg (by decide)] at HS2
          have HS3 := Lib.hid HS2
          clear HS2
          go_wp2
          go_roundw
          case rel => exact ⟨j + 1, by omega, by go_num, fun _ => HS3.out, HB24.out⟩
          case measure => simp [intOf]; omega
        · have HS2 := HST.out
          rw [hq, if_pos rfl] at HS2
          have HS3 := Lib.hid HS2
          clear HS2
          go_wp2
          refine bodyPost_ret (v := .tuple #[ndV kd nn tt An1 ln1 cn1 Ai1 li1 ci1, .bool true]) (by simp [results, Try.results19, go_sem, *]) rfl ?_
          rw [HNL.out, ← HS3.out]
          refine ⟨kd, nn, tt, An1, ln1, cn1, Ai1, li1, ci1, rfl, InN.keep (fun p hp => ?_) (fun b h => ⟨by have := h.1; omega, by have := h.2; simp [World.setCell]; omega⟩) _ _ HIN.out, Below.setCell (Below.setCell (Below.setCell (Below.setCell (Below.setCell HB4.out ?_ _) ?_ _) ?_ _) ?_ _) ?_ _⟩
          · have hpn : p.block ≠ w.heap.size + 1 := by have := hp.1; omega
            rw [set_cellN hpn, set_cellN hpn, set_cellN hpn, set_cellN hpn, set_cellN hpn]
          all_goals (show w.heap.size ≤ w.heap.size + 1; omega)
    · have HNO : Hid (nodeAt (.mk k n t ns xs) nm = none) := by
        show _ = _
        rw [HNA.out]
        cases vd
        · rfl
        · exact (look_end (HLK.out rfl) hlt).symm
      have HB4 := Lib.hid (HBb.out.trans (HB.out.mono HBb.out.size))
      obtain ⟨⟨y0, y1, y2, y3, y4⟩, y5, y6, y7, y8, y9⟩ := box_five (bx_keep HYb.out HB.out)
      go_wp2
      refine bodyPost_ret (v := .tuple #[ndV 0 0 [] none 0 0 none 0 0, .bool false]) (by simp [results, Try.results19, go_sem, *]) rfl ?_
      rw [HNO.out]
      refine ⟨0, 0, [], none, 0, 0, none, 0, 0, rfl, inN_zero, Below.setCell (Below.setCell (Below.setCell (Below.setCell (Below.setCell HB4.out ?_ _) ?_ _) ?_ _) ?_ _) ?_ _⟩
      all_goals (show w.heap.size ≤ w.heap.size + 1; omega)
end Go.Proofs.Ytdmmnjnbjigdeaa
