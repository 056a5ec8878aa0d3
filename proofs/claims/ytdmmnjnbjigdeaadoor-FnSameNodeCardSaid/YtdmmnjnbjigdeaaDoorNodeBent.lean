/- Drawn nodes, right ones and wrong ones: walks. -/
import Derived.Test.YtdmmnjnbjigdeaaDoorNodeDraw
namespace Go.Proofs.YtdmmnjnbjigdeaaDoor
open Go.RowKit

theorem inN_const {w : World} {S : Nat → Prop} {k n : Int} {t : Tx} : InN w S (.mk k n t [] []) (ndV k n t none 0 0 none 0 0) := InN.mk (fun h => absurd rfl h) (Nat.le_refl 0) (Nat.le_refl 0) (fun h => absurd rfl h)
theorem Els.nil {w : World} {S : Nat → Prop} : Els w S [] [] := ⟨rfl, fun i r x h => by simp at h⟩
theorem Els.cons {w : World} {S : Nat → Prop} {rs : List Raw} {xs : List Nd} {r : Raw} {x : Nd} (hx : InN w S x r.v) (h : Els w S rs xs) : Els w S (r :: rs) (x :: xs) := by
  refine ⟨by simp [h.1], fun i r2 x2 h1 h2 => ?_⟩
  cases i with
  | zero => simp at h1 h2; subst h1; subst h2; exact hx
  | succ i => exact h.2 i r2 x2 (by simpa using h1) (by simpa using h2)
theorem Els.row {w : World} {S : Nat → Prop} {rs : List Raw} {xs : List Nd} {b : Nat} (h : Els w S rs xs) (hh : w.heap[b]? = some (.cells (rcells rs).toArray 26 (0, 0))) (hb : S b) : RdN w S (some ⟨b, 0, none⟩) xs := fun _ => by
  refine ⟨b, 0, rfl, hb, InNs.of_get fun i hi => ?_⟩
  have hir : i < rs.length := by rw [h.1]; exact hi
  have hr : rs[i]? = some rs[i] := List.getElem?_eq_getElem hir
  have key : ∀ j (hj : j < 5), w.cell? ⟨b, 0 + i * 5 + j, none⟩ = (rs[i]).cs[j]? := fun j hj => by
    rw [cell_of_row w b _ _ _ _ hh, show 0 + i * 5 + j = i * 5 + j by omega, ← rcells_get rs i _ j hr hj]
    simp
  exact ⟨(rs[i]).v, ⟨_, _, _, _, _, rfl, key 0 (by omega), key 1 (by omega), key 2 (by omega), key 3 (by omega), key 4 (by omega)⟩, h.2 i _ _ hr (List.getElem?_eq_getElem hi)⟩
theorem names_row {w : World} {S : Nat → Prop} {ns : List Tx} {b : Nat} (hh : w.heap[b]? = some (.cells (scells ns).toArray 9 (0, 0))) (hb : S b) : RdIn w S (some ⟨b, 0, none⟩) (scells ns) := fun _ =>
  ⟨b, 0, rfl, hb, fun j u hu => by rw [cell_of_row w b _ _ _ _ hh]; simpa using hu⟩
/-- a row of nodes that the region has laid -/
def tRowN (g : Nat) (W0 : World) (M n : Nat) : Ty := fun w v => ∃ (b : Nat) (xs : List Nd), v = .slice (some ⟨b, 0, none⟩) n n ∧ xs.length = n ∧ RdN w (fun j => W0.heap.size ≤ j ∧ j < w.heap.size) (some ⟨b, 0, none⟩) xs ∧ (∀ x ∈ xs, Nd.size x ≤ M) ∧ g < W0.heap.size
theorem keep_kp {g : Nat} {W0 w w' : World} (hk : Kp g w w') (hg : g < W0.heap.size) : (∀ p : Addr, (fun j => W0.heap.size ≤ j ∧ j < w.heap.size) p.block → w'.cell? p = w.cell? p) ∧ ∀ b, (fun j => W0.heap.size ≤ j ∧ j < w.heap.size) b → (fun j => W0.heap.size ≤ j ∧ j < w'.heap.size) b :=
  ⟨fun p hp => World.cell?_of_block (hk.block _ hp.2 (by intro e; injection e; have := hp.1; omega)), fun j hj => ⟨hj.1, Nat.lt_of_lt_of_le hj.2 hk.size⟩⟩
theorem stays_tRowN {g M n : Nat} {W0 : World} : Stays g (tRowN g W0 M n) := fun _ _ _ hk ⟨b, xs, e, hl, h, h2, h3⟩ => ⟨b, xs, e, hl, h.keep (keep_kp hk h3).1 (keep_kp hk h3).2, h2, h3⟩
def tNames (g : Nat) (W0 : World) (ns : List Tx) : Ty := fun w v => ∃ b, v = .slice (some ⟨b, 0, none⟩) ns.length ns.length ∧ RdIn w (fun j => W0.heap.size ≤ j ∧ j < w.heap.size) (some ⟨b, 0, none⟩) (scells ns) ∧ g < W0.heap.size
theorem stays_tNames {g : Nat} {ns : List Tx} {W0 : World} : Stays g (tNames g W0 ns) := fun _ _ _ hk ⟨b, e, h, h3⟩ => ⟨b, e, h.keep (keep_kp hk h3).1 (keep_kp hk h3).2, h3⟩
def tAdrN (g : Nat) (W0 : World) (M : Nat) : Ty := fun w v => ∃ b o x k n t An ln cn Ai li ci, v = .pointer (some ⟨b, o, none⟩) ∧ b ≠ g ∧
  w.cell? ⟨b, o, none⟩ = some (.int .i64 k) ∧ w.cell? ⟨b, o + 1, none⟩ = some (.int .i64 n) ∧ w.cell? ⟨b, o + 2, none⟩ = some (sv t) ∧ w.cell? ⟨b, o + 3, none⟩ = some (.slice An ln cn) ∧ w.cell? ⟨b, o + 4, none⟩ = some (.slice Ai li ci) ∧
  InN w (fun j => W0.heap.size ≤ j ∧ j < w.heap.size) x (ndV k n t An ln cn Ai li ci) ∧ Nd.size x ≤ M ∧ g < W0.heap.size
theorem stays_tAdrN {g M : Nat} {W0 : World} : Stays g (tAdrN g W0 M) := fun _ _ _ hk ⟨b, o, x, k, n, t, An, ln, cn, Ai, li, ci, e, hb, c0, c1, c2, c3, c4, h, h2, h3⟩ =>
  ⟨b, o, x, k, n, t, An, ln, cn, Ai, li, ci, e, hb, kp_cell hk hb c0, kp_cell hk hb c1, kp_cell hk hb c2, kp_cell hk hb c3, kp_cell hk hb c4, inN_kp h hk h3, h2, h3⟩
theorem adrN_of {g M b k : Nat} {W0 w : World} {xs : List Nd} (h : RdN w (fun j => W0.heap.size ≤ j ∧ j < w.heap.size) (some ⟨b, 0, none⟩) xs) (hs : ∀ x ∈ xs, Nd.size x ≤ M) (hk : k < xs.length) (hg : g < W0.heap.size) : tAdrN g W0 M w (.pointer (some ⟨b, k * 5, none⟩)) := by
  obtain ⟨b2, o2, e, hb, kd, n, t, An, ln, cn, Ai, li, ci, hin, c0, c1, c2, c3, c4⟩ := h.at hk
  injection e with e
  injection e with e1 e2
  subst e1
  subst e2
  rw [Nat.zero_add] at c0 c1 c2 c3 c4
  exact ⟨b, k * 5, _, kd, n, t, An, ln, cn, Ai, li, ci, rfl, by have := hb.1; omega, c0, c1, c2, c3, c4, hin, hs _ (List.getElem_mem hk), hg⟩

set_option maxRecDepth 100000 in
set_option maxHeartbeats 8000000 in
theorem spec_l20BentNode (B g q : Nat) (n : Int) (w : World) (h : Rdr w B g q) (hq : q ≤ 10000000) (hn : n ≤ 1000000000) (hn0 : -1000000000 ≤ n) :
    Calls Tryd.prog 26 #[.pointer (some ⟨g, 0, none⟩), .int .i64 n] w (DrawnN w B g q 800000 50000) := by
  have hlt := h.lt
  have H := Lib.hid h
  clear h
  go_enter Tryd.func26, Tryd.ntmps26
  go_wp2_with fail
  refine (spec_l20Node4 B g _ _ (H.out.keep ((Below.refl _ _).alloc (Nat.le_refl _) _)) (by omega)).mono ?_
  rintro e wb ⟨x, k0, n0, t0, A0, l0, c0, B0, m0, d0, rfl, hin1, hs1, hr1, hg1⟩
  have hres1 : wb.heap[w.heap.size]? = some (.cells #[.int .i64 0, .int .i64 0, .string ⟨#[]⟩, .slice none 0 0, .slice none 0 0] 26 (0, 0)) := (hg1.block w.heap.size (by simp) (by intro e; injection e; omega)).trans (heap_alloc_new w _)
  have hw1 : w.heap.size < wb.heap.size := lt_of_block hres1
  have hXB := heap_alloc_new wb (.cells (ndCells k0 n0 t0 A0 l0 c0 B0 m0 d0) 26)
  have HR1 := Lib.hid (hr1.keep ((Below.refl _ _).alloc (Nat.le_refl _) (.cells (ndCells k0 n0 t0 A0 l0 c0 B0 m0 d0) 26)))
  have HG1 := Lib.hid (grown_alloc (grown_trans (World.grownBy_alloc w (.cells #[.int .i64 0, .int .i64 0, .string ⟨#[]⟩, .slice none 0 0, .slice none 0 0] 26) (some g)) hg1) (.cells (ndCells k0 n0 t0 A0 l0 c0 B0 m0 d0) 26))
  have HIN1 : Hid (InN (wb.alloc (.cells (ndCells k0 n0 t0 A0 l0 c0 B0 m0 d0) 26)) (fun j => w.heap.size + 1 ≤ j ∧ j < wb.heap.size) x (ndV k0 n0 t0 A0 l0 c0 B0 m0 d0)) := InN.keep (fun p hp => World.cell?_of_block (heap_alloc_old wb _ hp.2)) (fun j hj => ⟨by have := hj.1; simpa using this, hj.2⟩) _ _ hin1
  have hres2 := (heap_alloc_old wb (.cells (ndCells k0 n0 t0 A0 l0 c0 B0 m0 d0) 26) hw1).trans hres1
  have HXS1 := Lib.hid hs1
  clear hin1 hs1 hr1 hg1 hres1
  go_wp2_with fail
  refine (spec_odd B g _ n _ HR1.out (by omega) hn hn0).mono ?_
  rintro e ws ⟨bo, rfl, hr2, hg2⟩
  have hbne : wb.heap.size ≠ g := by omega
  have hres : ws.heap[w.heap.size]? = some (.cells #[.int .i64 0, .int .i64 0, .string ⟨#[]⟩, .slice none 0 0, .slice none 0 0] 26 (0, 0)) := (hg2.block w.heap.size (by simp; omega) (by intro e; injection e; omega)).trans hres2
  have HBOX := Lib.hid ((hg2.block wb.heap.size (by simp) (by intro e; injection e; omega)).trans hXB)
  have hsz : wb.heap.size < ws.heap.size := lt_of_block HBOX.out
  have HINS : Hid (InN ws (fun j => w.heap.size + 1 ≤ j ∧ j < wb.heap.size) x (ndV k0 n0 t0 A0 l0 c0 B0 m0 d0)) := InN.keep (fun p hp => World.cell?_of_block (hg2.block _ (by have := hp.2; simp; omega) (by intro e; injection e; have := hp.1; omega))) (fun _ h => h) _ _ HIN1.out
  have HR2 := Lib.hid hr2
  have HG2 := Lib.hid (grown_trans HG1.out hg2)
  obtain ⟨⟨r0, r1, r2, r3, r4⟩, r5, r6, r7, r8, r9⟩ := box_five hres
  clear hr2 hg2 hXB hres2
  cases bo
  · obtain ⟨⟨f0, f1, f2, f3, f4⟩, -⟩ := box_five HBOX.out
    obtain ⟨x9, k9, n9, t9, A9, l9, c9, B9, m9, d9, e1, e2, e3, e4, e5, e6, e7, e8, e9, e10⟩ : ∃ x9 k9 n9 t9 A9 l9 c9 B9 m9 d9, x9 = x ∧ k9 = k0 ∧ n9 = n0 ∧ t9 = t0 ∧ A9 = A0 ∧ l9 = l0 ∧ c9 = c0 ∧ B9 = B0 ∧ m9 = m0 ∧ d9 = d0 := ⟨_, _, _, _, _, _, _, _, _, _, rfl, rfl, rfl, rfl, rfl, rfl, rfl, rfl, rfl, rfl⟩
    subst e1 e2 e3 e4 e5 e6 e7 e8 e9 e10
    have HI9 : Hid (InN ws (fun j => w.heap.size + 1 ≤ j ∧ j < ws.heap.size) x9 (ndV k9 n9 t9 A9 l9 c9 B9 m9 d9)) := InN.keep (fun _ _ => rfl) (fun j hj => ⟨hj.1, by have := hj.2; omega⟩) _ _ HINS.out
    have HS9 : Hid (Nd.size x9 ≤ 50000) := Nat.le_trans HXS1.out (by omega)
    have HR9 := HR2
    have HG9 := HG2
    go_wp2
    refine bodyPost_ret (v := ndV k9 n9 t9 A9 l9 c9 B9 m9 d9) (by simp [results, Tryd.results26, go_sem, *]) rfl ?_
    refine ⟨x9, k9, n9, t9, A9, l9, c9, B9, m9, d9, rfl, InN.keep (fun p hp => ?_) (fun j hj => ⟨by have := hj.1; omega, by have := hj.2; simpa [World.setCell] using this⟩) _ _ HI9.out, HS9.out, ?_, ?_⟩
    · have hpn : p.block ≠ w.heap.size := by have := hp.1; omega
      rw [set_cellN hpn, set_cellN hpn, set_cellN hpn, set_cellN hpn, set_cellN hpn]
    · exact (rdr_setN (rdr_setN (rdr_setN (rdr_setN (rdr_setN HR9.out (by omega)) (by omega)) (by omega)) (by omega)) (by omega)).more (by omega)
    · exact grown_set_upN (grown_set_upN (grown_set_upN (grown_set_upN (grown_set_upN HG9.out (by omega)) (by omega)) (by omega)) (by omega)) (by omega)
  · have hgr : g < (w.alloc (.cells #[.int .i64 0, .int .i64 0, .string ⟨#[]⟩, .slice none 0 0, .slice none 0 0] 26)).heap.size := by simp; omega
    have hw0 : (w.alloc (.cells #[.int .i64 0, .int .i64 0, .string ⟨#[]⟩, .slice none 0 0, .slice none 0 0] 26)).heap.size ≤ ws.heap.size := by simp; omega
    have HIN : Hid (InN ws (fun j => (w.alloc (.cells #[.int .i64 0, .int .i64 0, .string ⟨#[]⟩, .slice none 0 0, .slice none 0 0] 26)).heap.size ≤ j ∧ j < ws.heap.size) x (ndV k0 n0 t0 A0 l0 c0 B0 m0 d0)) := InN.keep (fun _ _ => rfl) (fun j hj => ⟨by have := hj.1; simp; omega, by have := hj.2; omega⟩) _ _ HINS.out
    have HXS := HXS1
    have hwz : (w.alloc (.cells #[.int .i64 0, .int .i64 0, .string ⟨#[]⟩, .slice none 0 0, .slice none 0 0] 26)).heap.size = w.heap.size + 1 := by simp
    have hr0 := hres
    generalize w.alloc (.cells #[.int .i64 0, .int .i64 0, .string ⟨#[]⟩, .slice none 0 0, .slice none 0 0] 26) = wa at *
    clear r0 r1 r2 r3 r4 r5 r6 r7 r8 r9
    go_wp2_with fail
    refine wp_region_typed 27 (by kernel_rfl) (by kernel_rfl) (DW ws B g (q + 700010)) (Kp g) (fun i => ([tNd g wa 30000, tNd g wa 30000, tNd g wa 30000, tNd g wa 30000, tNd g wa 30000, tNd g wa 30000, tNames g wa [[97]], tNd g wa 10000, tRowN g wa 10000 1, tNd g wa 30000, tNd g wa 10000, tRowN g wa 10000 1, tNd g wa 30000, tNames g wa [[97], [97]], tNd g wa 10000, tNd g wa 10000, tRowN g wa 10000 2, tNd g wa 30000, tNd g wa 10000, tNd g wa 10000, tRowN g wa 10000 2, tNd g wa 30000, tRowN g wa 30000 10, tIs (.pointer (some ⟨g, 0, none⟩)), tNum 10, tAdrN g wa 30000, tNd g wa 30000] : List Ty).getD i tAny) ?hW ?hkeep ?hstep ?hfin
    case hkeep =>
      refine all_lt_succ (all_lt_succ (all_lt_succ (all_lt_succ (all_lt_succ (all_lt_succ (all_lt_succ (all_lt_succ (all_lt_succ (all_lt_succ (all_lt_succ (all_lt_succ (all_lt_succ (all_lt_succ (all_lt_succ (all_lt_succ (all_lt_succ (all_lt_succ (all_lt_succ (all_lt_succ (all_lt_succ (all_lt_succ (all_lt_succ (all_lt_succ (all_lt_succ (all_lt_succ (all_lt_succ all_lt_zero ?_) ?_) ?_) ?_) ?_) ?_) ?_) ?_) ?_) ?_) ?_) ?_) ?_) ?_) ?_) ?_) ?_) ?_) ?_) ?_) ?_) ?_) ?_) ?_) ?_) ?_) ?_
      · exact stays_tNd
      · exact stays_tNd
      · exact stays_tNd
      · exact stays_tNd
      · exact stays_tNd
      · exact stays_tNd
      · exact stays_tNames
      · exact stays_tNd
      · exact stays_tRowN
      · exact stays_tNd
      · exact stays_tNd
      · exact stays_tRowN
      · exact stays_tNd
      · exact stays_tNames
      · exact stays_tNd
      · exact stays_tNd
      · exact stays_tRowN
      · exact stays_tNd
      · exact stays_tNd
      · exact stays_tNd
      · exact stays_tRowN
      · exact stays_tNd
      · exact stays_tRowN
      · exact stays_is _
      · exact stays_num _
      · exact stays_tAdrN
      · exact stays_tNd
    case hstep =>
      refine all_lt_succ (all_lt_succ (all_lt_succ (all_lt_succ (all_lt_succ (all_lt_succ (all_lt_succ (all_lt_succ (all_lt_succ (all_lt_succ (all_lt_succ (all_lt_succ (all_lt_succ (all_lt_succ (all_lt_succ (all_lt_succ (all_lt_succ (all_lt_succ (all_lt_succ (all_lt_succ (all_lt_succ (all_lt_succ (all_lt_succ (all_lt_succ (all_lt_succ (all_lt_succ (all_lt_succ all_lt_zero ?_) ?_) ?_) ?_) ?_) ?_) ?_) ?_) ?_) ?_) ?_) ?_) ?_) ?_) ?_) ?_) ?_) ?_) ?_) ?_) ?_) ?_) ?_) ?_) ?_) ?_) ?_
      · (intro o ho m a w1 hm hW hb hd K Q hK; obtain rfl := Option.some.inj ho; go_simp; exact hK _ _ hW.same (kp_refl _) ⟨.mk 0 0 [] [] [], 0, 0, [], none, 0, 0, none, 0, 0, rfl, inN_const, by simp [Nd.size, Nd.sizes, ssize], hgr⟩)
      · (intro o ho m a w1 hm hW hb hd K Q hK; obtain rfl := Option.some.inj ho; go_simp; exact hK _ _ hW.same (kp_refl _) ⟨.mk 7 0 [] [] [], 7, 0, [], none, 0, 0, none, 0, 0, rfl, inN_const, by simp [Nd.size, Nd.sizes, ssize], hgr⟩)
      · (intro o ho m a w1 hm hW hb hd K Q hK; obtain rfl := Option.some.inj ho; go_simp; exact hK _ _ hW.same (kp_refl _) ⟨.mk 2 2 [] [] [], 2, 2, [], none, 0, 0, none, 0, 0, rfl, inN_const, by simp [Nd.size, Nd.sizes, ssize], hgr⟩)
      · (intro o ho m a w1 hm hW hb hd K Q hK; obtain rfl := Option.some.inj ho; go_simp; exact hK _ _ hW.same (kp_refl _) ⟨.mk 3 1000000 [] [] [], 3, 1000000, [], none, 0, 0, none, 0, 0, rfl, inN_const, by simp [Nd.size, Nd.sizes, ssize], hgr⟩)
      · (intro o ho m a w1 hm hW hb hd K Q hK; obtain rfl := Option.some.inj ho; go_simp; exact hK _ _ hW.same (kp_refl _) ⟨.mk 4 0 [10] [] [], 4, 0, [10], none, 0, 0, none, 0, 0, rfl, inN_const, by simp [Nd.size, Nd.sizes, ssize], hgr⟩)
      · (intro o ho m a w1 hm hW hb hd K Q hK; obtain rfl := Option.some.inj ho; go_simp; exact hK _ _ hW.same (kp_refl _) ⟨.mk 1 1 [] [] [], 1, 1, [], none, 0, 0, none, 0, 0, rfl, inN_const, by simp [Nd.size, Nd.sizes, ssize], hgr⟩)
      · (intro o ho m a w1 hm hW hb hd K Q hK; obtain rfl := Option.some.inj ho; go_simp; exact hK _ _ (hW.next ((Below.refl _ _).alloc (Nat.le_refl _) _)) (kp_below ((Below.refl _ _).alloc (Nat.le_refl _) _)) ⟨w1.heap.size, rfl, names_row (heap_alloc_new w1 _) ⟨Nat.le_trans hw0 hW.2.size, by simp⟩, hgr⟩)
      · (intro o ho m a w1 hm hW hb hd K Q hK; obtain rfl := Option.some.inj ho; have e0 : a.tmps[5]?.getD undef = .pointer (some ⟨wb.heap.size, 0, none⟩) := (by rw [hb 5 (by decide +kernel)]; simp); have hbl := kp_block hW.2 hbne HBOX.out; obtain ⟨⟨q0, q1, q2, q3, q4⟩, -⟩ := box_five hbl; go_simp; exact hK _ _ hW.same (kp_refl _) ⟨_, _, _, _, _, _, _, _, _, _, rfl, inN_kp HIN.out hW.2 hgr, HXS.out, hgr⟩)
      · (intro o ho m a w1 hm hW hb hd K Q hK; obtain rfl := Option.some.inj ho; obtain ⟨x1, k1, n1, t1, A1, l1, c1, B1, m1, d1, e1, hin1, hs1, hg1⟩ := (hd 7 (by kernel_rfl) 18 rfl); have e1 := slotE e1; go_simp; exact hK _ _ (hW.next ((Below.refl _ _).alloc (Nat.le_refl _) _)) (kp_below ((Below.refl _ _).alloc (Nat.le_refl _) _)) ⟨w1.heap.size, [x1], rfl, rfl, (Els.cons (r := ⟨k1, n1, t1, A1, l1, c1, B1, m1, d1⟩) (inN_kp hin1 (kp_below ((Below.refl _ _).alloc (Nat.le_refl _) _)) hg1) Els.nil).row (heap_alloc_new w1 _) ⟨Nat.le_trans hw0 hW.2.size, by simp⟩, fun y hy => by simp at hy; subst hy; assumption, hgr⟩)
      · (intro o ho m a w1 hm hW hb hd K Q hK; obtain rfl := Option.some.inj ho; obtain ⟨b1, e1, hn1, hg1⟩ := (hd 6 (by kernel_rfl) 17 rfl); have e1 := slotE e1; obtain ⟨b2, xs2, e2, hx2, hr2, hs2, hg2⟩ := (hd 8 (by kernel_rfl) 19 rfl); have e2 := slotE e2; have hsz := sizes_le hs2; rw [hx2] at hsz; go_simp; exact hK _ _ hW.same (kp_refl _) ⟨.mk 5 0 [] [[97]] xs2, 5, 0, [], some ⟨b1, 0, none⟩, _, _, some ⟨b2, 0, none⟩, xs2.length, xs2.length, by simp [hx2], InN.mk hn1 (Nat.le_refl _) (Nat.le_refl _) hr2, by simp only [Nd.size, ssize, List.length_nil, List.length_cons]; omega, hgr⟩)
      · (intro o ho m a w1 hm hW hb hd K Q hK; obtain rfl := Option.some.inj ho; have e0 : a.tmps[5]?.getD undef = .pointer (some ⟨wb.heap.size, 0, none⟩) := (by rw [hb 5 (by decide +kernel)]; simp); have hbl := kp_block hW.2 hbne HBOX.out; obtain ⟨⟨q0, q1, q2, q3, q4⟩, -⟩ := box_five hbl; go_simp; exact hK _ _ hW.same (kp_refl _) ⟨_, _, _, _, _, _, _, _, _, _, rfl, inN_kp HIN.out hW.2 hgr, HXS.out, hgr⟩)
      · (intro o ho m a w1 hm hW hb hd K Q hK; obtain rfl := Option.some.inj ho; obtain ⟨x1, k1, n1, t1, A1, l1, c1, B1, m1, d1, e1, hin1, hs1, hg1⟩ := (hd 10 (by kernel_rfl) 21 rfl); have e1 := slotE e1; go_simp; exact hK _ _ (hW.next ((Below.refl _ _).alloc (Nat.le_refl _) _)) (kp_below ((Below.refl _ _).alloc (Nat.le_refl _) _)) ⟨w1.heap.size, [x1], rfl, rfl, (Els.cons (r := ⟨k1, n1, t1, A1, l1, c1, B1, m1, d1⟩) (inN_kp hin1 (kp_below ((Below.refl _ _).alloc (Nat.le_refl _) _)) hg1) Els.nil).row (heap_alloc_new w1 _) ⟨Nat.le_trans hw0 hW.2.size, by simp⟩, fun y hy => by simp at hy; subst hy; assumption, hgr⟩)
      · (intro o ho m a w1 hm hW hb hd K Q hK; obtain rfl := Option.some.inj ho; obtain ⟨b2, xs2, e2, hx2, hr2, hs2, hg2⟩ := (hd 11 (by kernel_rfl) 22 rfl); have e2 := slotE e2; have hsz := sizes_le hs2; rw [hx2] at hsz; go_simp; exact hK _ _ hW.same (kp_refl _) ⟨.mk 6 0 [] [] xs2, 6, 0, [], none, 0, 0, some ⟨b2, 0, none⟩, xs2.length, xs2.length, by simp [hx2], InN.mk (fun h => absurd rfl h) (Nat.le_refl 0) (Nat.le_refl _) hr2, by simp only [Nd.size, ssize, List.length_nil]; omega, hgr⟩)
      · (intro o ho m a w1 hm hW hb hd K Q hK; obtain rfl := Option.some.inj ho; go_simp; exact hK _ _ (hW.next ((Below.refl _ _).alloc (Nat.le_refl _) _)) (kp_below ((Below.refl _ _).alloc (Nat.le_refl _) _)) ⟨w1.heap.size, rfl, names_row (heap_alloc_new w1 _) ⟨Nat.le_trans hw0 hW.2.size, by simp⟩, hgr⟩)
      · (intro o ho m a w1 hm hW hb hd K Q hK; obtain rfl := Option.some.inj ho; go_simp; exact hK _ _ hW.same (kp_refl _) ⟨.mk 1 0 [] [] [], 1, 0, [], none, 0, 0, none, 0, 0, rfl, inN_const, by simp [Nd.size, Nd.sizes, ssize], hgr⟩)
      · (intro o ho m a w1 hm hW hb hd K Q hK; obtain rfl := Option.some.inj ho; go_simp; exact hK _ _ hW.same (kp_refl _) ⟨.mk 1 0 [] [] [], 1, 0, [], none, 0, 0, none, 0, 0, rfl, inN_const, by simp [Nd.size, Nd.sizes, ssize], hgr⟩)
      · (intro o ho m a w1 hm hW hb hd K Q hK; obtain rfl := Option.some.inj ho; obtain ⟨x1, k1, n1, t1, A1, l1, c1, B1, m1, d1, e1, hin1, hs1, hg1⟩ := (hd 14 (by kernel_rfl) 25 rfl); have e1 := slotE e1; obtain ⟨x2, k2, n2, t2, A2, l2, c2, B2, m2, d2, e2, hin2, hs2, hg2⟩ := (hd 15 (by kernel_rfl) 26 rfl); have e2 := slotE e2; go_simp; exact hK _ _ (hW.next ((Below.refl _ _).alloc (Nat.le_refl _) _)) (kp_below ((Below.refl _ _).alloc (Nat.le_refl _) _)) ⟨w1.heap.size, [x1, x2], rfl, rfl, (Els.cons (r := ⟨k1, n1, t1, A1, l1, c1, B1, m1, d1⟩) (inN_kp hin1 (kp_below ((Below.refl _ _).alloc (Nat.le_refl _) _)) hg1) (Els.cons (r := ⟨k2, n2, t2, A2, l2, c2, B2, m2, d2⟩) (inN_kp hin2 (kp_below ((Below.refl _ _).alloc (Nat.le_refl _) _)) hg2) Els.nil)).row (heap_alloc_new w1 _) ⟨Nat.le_trans hw0 hW.2.size, by simp⟩, fun y hy => by simp at hy; rcases hy with rfl | rfl <;> assumption, hgr⟩)
      · (intro o ho m a w1 hm hW hb hd K Q hK; obtain rfl := Option.some.inj ho; obtain ⟨b1, e1, hn1, hg1⟩ := (hd 13 (by kernel_rfl) 24 rfl); have e1 := slotE e1; obtain ⟨b2, xs2, e2, hx2, hr2, hs2, hg2⟩ := (hd 16 (by kernel_rfl) 27 rfl); have e2 := slotE e2; have hsz := sizes_le hs2; rw [hx2] at hsz; go_simp; exact hK _ _ hW.same (kp_refl _) ⟨.mk 6 0 [] [[97], [97]] xs2, 6, 0, [], some ⟨b1, 0, none⟩, _, _, some ⟨b2, 0, none⟩, xs2.length, xs2.length, by simp [hx2], InN.mk hn1 (Nat.le_refl _) (Nat.le_refl _) hr2, by simp only [Nd.size, ssize, List.length_nil, List.length_cons]; omega, hgr⟩)
      · (intro o ho m a w1 hm hW hb hd K Q hK; obtain rfl := Option.some.inj ho; have e0 : a.tmps[5]?.getD undef = .pointer (some ⟨wb.heap.size, 0, none⟩) := (by rw [hb 5 (by decide +kernel)]; simp); have hbl := kp_block hW.2 hbne HBOX.out; obtain ⟨⟨q0, q1, q2, q3, q4⟩, -⟩ := box_five hbl; go_simp; exact hK _ _ hW.same (kp_refl _) ⟨_, _, _, _, _, _, _, _, _, _, rfl, inN_kp HIN.out hW.2 hgr, HXS.out, hgr⟩)
      · (intro o ho m a w1 hm hW hb hd K Q hK; obtain rfl := Option.some.inj ho; go_simp; exact hK _ _ hW.same (kp_refl _) ⟨.mk 0 0 [] [] [], 0, 0, [], none, 0, 0, none, 0, 0, rfl, inN_const, by simp [Nd.size, Nd.sizes, ssize], hgr⟩)
      · (intro o ho m a w1 hm hW hb hd K Q hK; obtain rfl := Option.some.inj ho; obtain ⟨x1, k1, n1, t1, A1, l1, c1, B1, m1, d1, e1, hin1, hs1, hg1⟩ := (hd 18 (by kernel_rfl) 29 rfl); have e1 := slotE e1; obtain ⟨x2, k2, n2, t2, A2, l2, c2, B2, m2, d2, e2, hin2, hs2, hg2⟩ := (hd 19 (by kernel_rfl) 30 rfl); have e2 := slotE e2; go_simp; exact hK _ _ (hW.next ((Below.refl _ _).alloc (Nat.le_refl _) _)) (kp_below ((Below.refl _ _).alloc (Nat.le_refl _) _)) ⟨w1.heap.size, [x1, x2], rfl, rfl, (Els.cons (r := ⟨k1, n1, t1, A1, l1, c1, B1, m1, d1⟩) (inN_kp hin1 (kp_below ((Below.refl _ _).alloc (Nat.le_refl _) _)) hg1) (Els.cons (r := ⟨k2, n2, t2, A2, l2, c2, B2, m2, d2⟩) (inN_kp hin2 (kp_below ((Below.refl _ _).alloc (Nat.le_refl _) _)) hg2) Els.nil)).row (heap_alloc_new w1 _) ⟨Nat.le_trans hw0 hW.2.size, by simp⟩, fun y hy => by simp at hy; rcases hy with rfl | rfl <;> assumption, hgr⟩)
      · (intro o ho m a w1 hm hW hb hd K Q hK; obtain rfl := Option.some.inj ho; obtain ⟨b2, xs2, e2, hx2, hr2, hs2, hg2⟩ := (hd 20 (by kernel_rfl) 31 rfl); have e2 := slotE e2; have hsz := sizes_le hs2; rw [hx2] at hsz; go_simp; exact hK _ _ hW.same (kp_refl _) ⟨.mk 5 0 [] [] xs2, 5, 0, [], none, 0, 0, some ⟨b2, 0, none⟩, xs2.length, xs2.length, by simp [hx2], InN.mk (fun h => absurd rfl h) (Nat.le_refl 0) (Nat.le_refl _) hr2, by simp only [Nd.size, ssize, List.length_nil]; omega, hgr⟩)
      · (intro o ho m a w1 hm hW hb hd K Q hK; obtain rfl := Option.some.inj ho; obtain ⟨x1, k1, n1, t1, A1, l1, c1, B1, m1, d1, e1, hin1, hs1, hg1⟩ := (hd 0 (by kernel_rfl) 11 rfl); have e1 := slotE e1; obtain ⟨x2, k2, n2, t2, A2, l2, c2, B2, m2, d2, e2, hin2, hs2, hg2⟩ := (hd 1 (by kernel_rfl) 12 rfl); have e2 := slotE e2; obtain ⟨x3, k3, n3, t3, A3, l3, c3, B3, m3, d3, e3, hin3, hs3, hg3⟩ := (hd 2 (by kernel_rfl) 13 rfl); have e3 := slotE e3; obtain ⟨x4, k4, n4, t4, A4, l4, c4, B4, m4, d4, e4, hin4, hs4, hg4⟩ := (hd 3 (by kernel_rfl) 14 rfl); have e4 := slotE e4; obtain ⟨x5, k5, n5, t5, A5, l5, c5, B5, m5, d5, e5, hin5, hs5, hg5⟩ := (hd 4 (by kernel_rfl) 15 rfl); have e5 := slotE e5; obtain ⟨x6, k6, n6, t6, A6, l6, c6, B6, m6, d6, e6, hin6, hs6, hg6⟩ := (hd 5 (by kernel_rfl) 16 rfl); have e6 := slotE e6; obtain ⟨x7, k7, n7, t7, A7, l7, c7, B7, m7, d7, e7, hin7, hs7, hg7⟩ := (hd 9 (by kernel_rfl) 20 rfl); have e7 := slotE e7; obtain ⟨x8, k8, n8, t8, A8, l8, c8, B8, m8, d8, e8, hin8, hs8, hg8⟩ := (hd 12 (by kernel_rfl) 23 rfl); have e8 := slotE e8; obtain ⟨x9, k9, n9, t9, A9, l9, c9, B9, m9, d9, e9, hin9, hs9, hg9⟩ := (hd 17 (by kernel_rfl) 28 rfl); have e9 := slotE e9; obtain ⟨x10, k10, n10, t10, A10, l10, c10, B10, m10, d10, e10, hin10, hs10, hg10⟩ := (hd 21 (by kernel_rfl) 32 rfl); have e10 := slotE e10; go_simp; exact hK _ _ (hW.next ((Below.refl _ _).alloc (Nat.le_refl _) _)) (kp_below ((Below.refl _ _).alloc (Nat.le_refl _) _)) ⟨w1.heap.size, [x1, x2, x3, x4, x5, x6, x7, x8, x9, x10], rfl, rfl, (Els.cons (r := ⟨k1, n1, t1, A1, l1, c1, B1, m1, d1⟩) (inN_kp hin1 (kp_below ((Below.refl _ _).alloc (Nat.le_refl _) _)) hg1) (Els.cons (r := ⟨k2, n2, t2, A2, l2, c2, B2, m2, d2⟩) (inN_kp hin2 (kp_below ((Below.refl _ _).alloc (Nat.le_refl _) _)) hg2) (Els.cons (r := ⟨k3, n3, t3, A3, l3, c3, B3, m3, d3⟩) (inN_kp hin3 (kp_below ((Below.refl _ _).alloc (Nat.le_refl _) _)) hg3) (Els.cons (r := ⟨k4, n4, t4, A4, l4, c4, B4, m4, d4⟩) (inN_kp hin4 (kp_below ((Below.refl _ _).alloc (Nat.le_refl _) _)) hg4) (Els.cons (r := ⟨k5, n5, t5, A5, l5, c5, B5, m5, d5⟩) (inN_kp hin5 (kp_below ((Below.refl _ _).alloc (Nat.le_refl _) _)) hg5) (Els.cons (r := ⟨k6, n6, t6, A6, l6, c6, B6, m6, d6⟩) (inN_kp hin6 (kp_below ((Below.refl _ _).alloc (Nat.le_refl _) _)) hg6) (Els.cons (r := ⟨k7, n7, t7, A7, l7, c7, B7, m7, d7⟩) (inN_kp hin7 (kp_below ((Below.refl _ _).alloc (Nat.le_refl _) _)) hg7) (Els.cons (r := ⟨k8, n8, t8, A8, l8, c8, B8, m8, d8⟩) (inN_kp hin8 (kp_below ((Below.refl _ _).alloc (Nat.le_refl _) _)) hg8) (Els.cons (r := ⟨k9, n9, t9, A9, l9, c9, B9, m9, d9⟩) (inN_kp hin9 (kp_below ((Below.refl _ _).alloc (Nat.le_refl _) _)) hg9) (Els.cons (r := ⟨k10, n10, t10, A10, l10, c10, B10, m10, d10⟩) (inN_kp hin10 (kp_below ((Below.refl _ _).alloc (Nat.le_refl _) _)) hg10) Els.nil)))))))))).row (heap_alloc_new w1 _) ⟨Nat.le_trans hw0 hW.2.size, by simp⟩, fun y hy => by simp at hy; rcases hy with rfl | rfl | rfl | rfl | rfl | rfl | rfl | rfl | rfl | rfl <;> assumption, hgr⟩)
      · (intro o ho m a w1 hm hW hb hd K Q hK; obtain rfl := Option.some.inj ho; have e0 : a.tmps[0]?.getD undef = (.pointer (some ⟨g, 0, none⟩)) := (by rw [hb 0 (by decide +kernel)]; simp); go_simp; exact hK _ _ hW.same (kp_refl _) rfl)
      · (intro o ho m a w1 hm hW hb hd K Q hK; obtain rfl := Option.some.inj ho; have e1 := slotE (hd 23 (by kernel_rfl) 34 rfl); go_simp; refine (spec_pick _ _ _ _ w1 hW.1 (by omega) (by omega) (by omega)).mono ?_; rintro e w2 ⟨k, rfl, hk, hr2, hg2⟩; exact hK _ _ ⟨hr2.more (by omega), grown_trans hW.2 hg2⟩ hg2 ⟨k, rfl, hk⟩)
      · (intro o ho m a w1 hm hW hb hd K Q hK; obtain rfl := Option.some.inj ho; obtain ⟨b, xs2, e1, hx2, hr2, hs2, hg2⟩ := (hd 22 (by kernel_rfl) 33 rfl); obtain ⟨k, e2, hk⟩ := (hd 24 (by kernel_rfl) 35 rfl); have e1 := slotE e1; have e2 := slotE e2; have hk2 := num_lt hk (by omega); go_simp; exact hK _ _ hW.same (kp_refl _) (adrN_of hr2 hs2 (by omega) hg2))
      · (intro o ho m a w1 hm hW hb hd K Q hK; obtain rfl := Option.some.inj ho; obtain ⟨b, o, x9, k9, n9, t9, A9, l9, c9, B9, m9, d9, e1, hbg, q0, q1, q2, q3, q4, hin9, hs9, hg9⟩ := (hd 25 (by kernel_rfl) 36 rfl); have e1 := slotE e1; go_simp; exact hK _ _ hW.same (kp_refl _) ⟨x9, k9, n9, t9, A9, l9, c9, B9, m9, d9, rfl, hin9, hs9, hg9⟩)
    case hW => exact ⟨(HR2.out.keep (Below.refl _ _).drew).more (by omega), grown_drew (grown_refl _ _)⟩
    case hfin =>
      intro vs w3 hW hF
      simp only [putAll, hdst, List.getElem?_cons_succ, List.getElem?_cons_zero, Option.bind, List.drop_succ_cons, List.drop_zero, Act.put]
      obtain ⟨x9, k9, n9, t9, A9, l9, c9, B9, m9, d9, h26, hin9, hs9, hg9⟩ := hF 26 (by omega)
      rw [h26]
      obtain ⟨hr3, hg3⟩ := hW
      have HR9 := Lib.hid hr3
      have HG9 := Lib.hid (grown_trans HG2.out hg3)
      have HI9 : Hid (InN w3 (fun j => w.heap.size + 1 ≤ j ∧ j < w3.heap.size) x9 (ndV k9 n9 t9 A9 l9 c9 B9 m9 d9)) := by rw [hwz] at hin9; exact hin9
      have HS9 : Hid (Nd.size x9 ≤ 50000) := Nat.le_trans hs9 (by omega)
      have hres3 := (hg3.block w.heap.size (lt_of_block hr0) (by intro e; injection e; omega)).trans hr0
      obtain ⟨⟨r0, r1, r2, r3, r4⟩, r5, r6, r7, r8, r9⟩ := box_five hres3
      clear hF h26 hr3 hg3 hin9 hs9
      go_simp
      go_wp2
      refine bodyPost_ret (v := ndV k9 n9 t9 A9 l9 c9 B9 m9 d9) (by simp [results, Tryd.results26, go_sem, *]) rfl ?_
      refine ⟨x9, k9, n9, t9, A9, l9, c9, B9, m9, d9, rfl, InN.keep (fun p hp => ?_) (fun j hj => ⟨by have := hj.1; omega, by have := hj.2; simpa [World.setCell] using this⟩) _ _ HI9.out, HS9.out, ?_, ?_⟩
      · have hpn : p.block ≠ w.heap.size := by have := hp.1; omega
        rw [set_cellN hpn, set_cellN hpn, set_cellN hpn, set_cellN hpn, set_cellN hpn]
      · exact (rdr_setN (rdr_setN (rdr_setN (rdr_setN (rdr_setN HR9.out (by omega)) (by omega)) (by omega)) (by omega)) (by omega)).more (by omega)
      · exact grown_set_upN (grown_set_upN (grown_set_upN (grown_set_upN (grown_set_upN HG9.out (by omega)) (by omega)) (by omega)) (by omega)) (by omega)
end Go.Proofs.YtdmmnjnbjigdeaaDoor
