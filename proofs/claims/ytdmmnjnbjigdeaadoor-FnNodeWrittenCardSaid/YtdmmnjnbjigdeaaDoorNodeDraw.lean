/- Drawn nodes: walks. -/
import Derived.Test.YtdmmnjnbjigdeaaDoorNodeDrawP
import Derived.Test.YtdmmnjnbjigdeaaDoorNodeWalkP
namespace Go.Proofs.YtdmmnjnbjigdeaaDoor
open Go.RowKit

def ndCost : Nat → Nat
  | 0 => 10
  | d + 1 => 20 + 40 * ndCost d
def ndBig : Nat → Nat
  | 0 => 100
  | d + 1 => 120 + 3 * ndBig d
/-- the call drew a node in blocks of its own, and at most m numbers -/
def DrawnN (w : World) (B g q m M : Nat) (e : Ending) (w' : World) : Prop :=
  ∃ x k n t An ln cn Ai li ci, e = .returned (ndV k n t An ln cn Ai li ci) ∧ InN w' (Fresh w w') x (ndV k n t An ln cn Ai li ci) ∧ Nd.size x ≤ M ∧ Rdr w' B g (q + m) ∧ w.grownBy w' (some g)
theorem rdr_setN {w : World} {B g q k o : Nat} {u : Value} (h : Rdr w B g q) (hg : g < k) : Rdr (w.setCell ⟨k, o, none⟩ u) B g q := h.frame (row := some k) (grown_set (grown_refl _ _) _ _) (fun j hj => by injection hj; omega)
theorem grown_set_upN {w0 w : World} {row : Option Nat} {k o : Nat} {u : Value} (h : w0.grownBy w row) (hk : w0.heap.size ≤ k) : w0.grownBy (w.setCell ⟨k, o, none⟩ u) row := grown_set_new h (p := ⟨k, o, none⟩) hk u
theorem bytes_strN (w : World) {b : Nat} {c : UInt8} {t : TypeId} (hh : w.heap[b]? = some (.cells #[.int .u8 (c.toNat : Int)] t (0, 0))) :
    (convert 22 9 (.slice (some ⟨b, 0, none⟩) 1 1)).run Tryd.prog w = .ok (.string ⟨[c].toArray⟩) w := by
  refine run_convert_bytes_back w 22 9 5 ⟨b, 0, none⟩ 1 [c] Tryd.underlying22 Tryd.underlying5 Tryd.underlying9 ?_
  intro j hj
  have hj0 : j = 0 := by simpa using hj
  subst hj0
  simp only [List.getElem_cons_zero]
  show w.cell? ⟨b, 0, none⟩ = _
  rw [cell_of_row w b 0 _ _ _ hh]; rfl
/-- the world of a region that draws at most D numbers in each of its operations -/
def DWD (w0 : World) (B g q D m : Nat) (w : World) : Prop := Rdr w B g (q + m * D) ∧ w0.grownBy w (some g)
theorem DWD.next {w0 w w' : World} {B g q D m : Nat} (h : DWD w0 B g q D m w) (hb : Below w.heap.size w w') : DWD w0 B g q D (m + 1) w' := ⟨(h.1.keep hb).more (by rw [Nat.succ_mul]; omega), grown_below h.2 hb⟩
theorem DWD.same {w0 w : World} {B g q D m : Nat} (h : DWD w0 B g q D m w) : DWD w0 B g q D (m + 1) w := h.next (Below.refl _ _)
theorem DWD.new {w0 w : World} {B g q D m : Nat} (h : DWD w0 B g q D m w) : w.heap.size ≠ g := by have := h.1.lt; omega
/-- a node that the region has drawn -/
def tNd (g : Nat) (W0 : World) (M : Nat) : Ty := fun w v => ∃ x k n t An ln cn Ai li ci, v = ndV k n t An ln cn Ai li ci ∧ InN w (fun j => W0.heap.size ≤ j ∧ j < w.heap.size) x (ndV k n t An ln cn Ai li ci) ∧ Nd.size x ≤ M ∧ g < W0.heap.size
theorem inN_kp {g : Nat} {W0 w w' : World} {x : Nd} {v : Value} (h : InN w (fun j => W0.heap.size ≤ j ∧ j < w.heap.size) x v) (hk : Kp g w w') (hg : g < W0.heap.size) : InN w' (fun j => W0.heap.size ≤ j ∧ j < w'.heap.size) x v :=
  InN.keep (fun p hp => World.cell?_of_block (hk.block _ hp.2 (by intro e; injection e; have := hp.1; omega))) (fun j hj => ⟨hj.1, Nat.lt_of_lt_of_le hj.2 hk.size⟩) _ _ h
theorem stays_tNd {g M : Nat} {W0 : World} : Stays g (tNd g W0 M) := fun _ _ _ hk ⟨x, k, n, t, An, ln, cn, Ai, li, ci, e, h, h2, h3⟩ => ⟨x, k, n, t, An, ln, cn, Ai, li, ci, e, inN_kp h hk h3, h2, h3⟩
def tOneN (g : Nat) (W0 : World) (M : Nat) : Ty := fun w v => ∃ b x k n t An ln cn Ai li ci, v = .slice (some ⟨b, 0, none⟩) 1 1 ∧ b ≠ g ∧ w.heap[b]? = some (.cells (ndCells k n t An ln cn Ai li ci) 26 (0, 0)) ∧ InN w (fun j => W0.heap.size ≤ j ∧ j < w.heap.size) x (ndV k n t An ln cn Ai li ci) ∧ Nd.size x ≤ M ∧ g < W0.heap.size
theorem stays_tOneN {g M : Nat} {W0 : World} : Stays g (tOneN g W0 M) := fun _ _ _ hk ⟨b, x, k, n, t, An, ln, cn, Ai, li, ci, e, hb, hh, h, h2, h3⟩ => ⟨b, x, k, n, t, An, ln, cn, Ai, li, ci, e, hb, kp_block hk hb hh, inN_kp h hk h3, h2, h3⟩
/-- short names, small nodes -/
def SmN (M : Nat) (ns : List Tx) (xs : List Nd) : Prop := ssize ns ≤ ns.length ∧ ∀ x ∈ xs, Nd.size x ≤ M
theorem ssize_snoc (ns : List Tx) (y : Tx) : ssize (ns ++ [y]) = ssize ns + y.length := by
  induction ns with
  | nil => simp [ssize]
  | cons z s ih => simp only [List.cons_append, ssize, ih]; omega
theorem sizes_le {M : Nat} : ∀ {xs : List Nd}, (∀ x ∈ xs, Nd.size x ≤ M) → Nd.sizes xs ≤ xs.length * M
  | [], _ => by simp [Nd.sizes]
  | x :: t, h => by
    have h1 := h x (by simp)
    have h2 := sizes_le fun y hy => h y (List.mem_cons_of_mem _ hy)
    simp only [Nd.sizes, List.length_cons, Nat.succ_mul]
    omega
theorem SmN.size {M : Nat} {ns : List Tx} {xs : List Nd} {k n : Int} (h : SmN M ns xs) (hn : ns.length ≤ 3) (hx : xs.length ≤ 3) : Nd.size (.mk k n [] ns xs) ≤ 120 + 3 * M := by
  have h1 := h.1
  have h2 := sizes_le h.2
  have h3 : xs.length * M ≤ 3 * M := Nat.mul_le_mul_right _ hx
  simp only [Nd.size, List.length_nil]
  omega
theorem SmN.snoc {M : Nat} {ns : List Tx} {xs : List Nd} {x : Nd} (h : SmN M ns xs) (hx : Nd.size x ≤ M) : SmN M ns (xs ++ [x]) := ⟨h.1, fun y hy => by
  rcases List.mem_append.1 hy with hy | hy
  · exact h.2 y hy
  · simp at hy; subst hy; exact hx⟩
theorem SmN.name {M : Nat} {ns : List Tx} {xs : List Nd} {y : Tx} (h : SmN M ns xs) (hy : y.length ≤ 1) : SmN M (ns ++ [y]) xs := ⟨by rw [ssize_snoc]; simp; have := h.1; omega, h.2⟩

/-- what l20Node's contract says at one depth -/
def DrC (d : Nat) : Prop := ∀ (B g q : Nat) (w : World), Rdr w B g q → q + ndCost d ≤ 100000000 → Calls Tryd.prog 43 #[.pointer (some ⟨g, 0, none⟩), .int .i64 ((d : Int) + 1)] w (DrawnN w B g q (ndCost d) (ndBig d))

set_option maxRecDepth 100000 in
set_option maxHeartbeats 4000000 in
theorem spec_l20Node0 : DrC 0 := by
  intro B g q w h hq
  have hlt := h.lt
  have hq : q + 10 ≤ 100000000 := hq
  have HB0 : ndBig 0 = 100 := rfl
  have HC0 : ndCost 0 = 10 := rfl
  rw [HB0, HC0]
  clear HB0 HC0
  show Calls Tryd.prog 43 #[.pointer (some ⟨g, 0, none⟩), .int .i64 1] w _
  have H := Lib.hid h
  clear h
  go_enter Tryd.func43, Tryd.ntmps43
  go_wp2_with fail
  refine (spec_pick B g _ 6 _ (H.out.keep ((Below.refl _ _).alloc (Nat.le_refl _) _)) (by omega) (by omega) (by omega)).mono ?_
  rintro e w1 ⟨k1, rfl, hk1, hr1, hg1⟩
  have hres1 : w1.heap[w.heap.size]? = some (.cells #[.int .i64 0, .int .i64 0, .string ⟨#[]⟩, .slice none 0 0, .slice none 0 0] 26 (0, 0)) := (hg1.block w.heap.size (by simp) (by intro e; injection e; omega)).trans (heap_alloc_new w _)
  have HG1 := Lib.hid (grown_trans (World.grownBy_alloc w (.cells #[.int .i64 0, .int .i64 0, .string ⟨#[]⟩, .slice none 0 0, .slice none 0 0] 26) (some g)) hg1)
  have HR1 := Lib.hid hr1
  clear hr1 hg1
  go_wp2_with fail
  refine (spec_pick B g _ 4 _ HR1.out (by omega) (by omega) (by omega)).mono ?_
  rintro e ws ⟨k2, rfl, hk2, hr2, hg2⟩
  have hres : ws.heap[w.heap.size]? = some (.cells #[.int .i64 0, .int .i64 0, .string ⟨#[]⟩, .slice none 0 0, .slice none 0 0] 26 (0, 0)) := (hg2.block w.heap.size (lt_of_block hres1) (by intro e; injection e; omega)).trans hres1
  have hslt : w.heap.size < ws.heap.size := lt_of_block hres
  have HGs := Lib.hid (grown_trans HG1.out hg2)
  have HRs := Lib.hid hr2
  clear hr2 hg2 hres1 hk1
  obtain rfl | rfl | rfl | rfl : k2 = 0 ∨ k2 = 1 ∨ k2 = 2 ∨ k2 = 3 := by omega
  ·
    have HL : Hid (NSt w (ws.alloc (.cells #[.int .i64 1, .int .i64 0, .string ⟨#[]⟩, .slice none 0 0, .slice none 0 0] 26)) g ws.heap.size 1 0 [] none 0 [] none 0 [] []) := ⟨heap_alloc_new ws _, ownS_nil _ _, ownN_nil _ _, ⟨rfl, fun i r x h => by simp at h⟩, (fun j h => by simp [Value.ownBlock] at h), (heap_alloc_old ws _ hslt).trans hres, hslt, hlt⟩
    have HR := Lib.hid (HRs.out.keep ((Below.refl _ _).alloc (Nat.le_refl _) (.cells #[.int .i64 1, .int .i64 0, .string ⟨#[]⟩, .slice none 0 0, .slice none 0 0] 26)))
    have HG := Lib.hid (grown_alloc HGs.out (.cells #[.int .i64 1, .int .i64 0, .string ⟨#[]⟩, .slice none 0 0, .slice none 0 0] 26))
    have hbg : ws.heap.size ≠ g := by omega
    obtain ⟨⟨f0, f1, f2, f3, f4⟩, f5, f6, f7, f8, f9⟩ := box_five HL.out.box
    have HSZ : Hid (Nd.size (.mk 1 0 [] [] []) ≤ 100) := by show _ ≤ _; simp [Nd.size, Nd.sizes, ssize]
    go_upto_region 5 with fail
    generalize ws.alloc (.cells #[.int .i64 1, .int .i64 0, .string ⟨#[]⟩, .slice none 0 0, .slice none 0 0] 26) = wb at *
    obtain ⟨⟨f0, f1, f2, f3, f4⟩, f5, f6, f7, f8, f9⟩ := box_five HL.out.box
    obtain ⟨⟨r0, r1, r2, r3, r4⟩, r5, r6, r7, r8, r9⟩ := box_five HL.out.res
    go_wp2
    refine bodyPost_ret (v := ndV 1 0 [] none 0 0 none 0 0) (by simp [results, Tryd.results43, go_sem, *]) rfl ?_
    have HZ := HL.out
    have HN := HZ.lt
    have HO := HZ.old
    refine ⟨_, _, _, _, _, _, _, _, _, _, rfl, HZ.done (fun p hp => ?_) (by simp [World.setCell]), ?_, ?_, ?_⟩
    · have hpn : p.block ≠ w.heap.size := by omega
      rw [set_cellN hpn, set_cellN hpn, set_cellN hpn, set_cellN hpn, set_cellN hpn]
    · exact HSZ.out
    · exact (rdr_setN (rdr_setN (rdr_setN (rdr_setN (rdr_setN HR.out (by omega)) (by omega)) (by omega)) (by omega)) (by omega)).more (by omega)
    · exact grown_set_upN (grown_set_upN (grown_set_upN (grown_set_upN (grown_set_upN HG.out (by omega)) (by omega)) (by omega)) (by omega)) (by omega)
  ·
    have HL : Hid (NSt w (ws.alloc (.cells #[.int .i64 2, .int .i64 0, .string ⟨#[]⟩, .slice none 0 0, .slice none 0 0] 26)) g ws.heap.size 2 0 [] none 0 [] none 0 [] []) := ⟨heap_alloc_new ws _, ownS_nil _ _, ownN_nil _ _, ⟨rfl, fun i r x h => by simp at h⟩, (fun j h => by simp [Value.ownBlock] at h), (heap_alloc_old ws _ hslt).trans hres, hslt, hlt⟩
    have HR := Lib.hid (HRs.out.keep ((Below.refl _ _).alloc (Nat.le_refl _) (.cells #[.int .i64 2, .int .i64 0, .string ⟨#[]⟩, .slice none 0 0, .slice none 0 0] 26)))
    have HG := Lib.hid (grown_alloc HGs.out (.cells #[.int .i64 2, .int .i64 0, .string ⟨#[]⟩, .slice none 0 0, .slice none 0 0] 26))
    have hbg : ws.heap.size ≠ g := by omega
    obtain ⟨⟨f0, f1, f2, f3, f4⟩, f5, f6, f7, f8, f9⟩ := box_five HL.out.box
    go_wp2_with fail
    refine (spec_pick B g _ 2 _ HR.out (by omega) (by omega) (by omega)).mono ?_
    rintro e w7 ⟨k7, rfl, hk7, hr7, hg7⟩
    have HL7 := Lib.hid (HL.out.grow hg7)
    obtain ⟨⟨f0, f1, f2, f3, f4⟩, f5, f6, f7, f8, f9⟩ := box_five HL7.out.box
    have HL := Lib.hid (HL7.out.set 1 (.int .i64 (k7 : Int)) (nn' := (k7 : Int)) (tt' := []) rfl)
    have HR := Lib.hid (rdr_setN (o := 1) (u := .int .i64 (k7 : Int)) (k := ws.heap.size) hr7 (by omega))
    have HG := Lib.hid (grown_set_upN (o := 1) (u := .int .i64 (k7 : Int)) (k := ws.heap.size) (grown_trans HG.out hg7) (by omega))
    clear hr7 hg7
    have HSZ : Hid (Nd.size (.mk 2 (k7 : Int) [] [] []) ≤ 100) := by show _ ≤ _; simp [Nd.size, Nd.sizes, ssize]
    obtain ⟨⟨f0, f1, f2, f3, f4⟩, f5, f6, f7, f8, f9⟩ := box_five HL.out.box
    obtain ⟨⟨r0, r1, r2, r3, r4⟩, r5, r6, r7, r8, r9⟩ := box_five HL.out.res
    go_wp2
    refine bodyPost_ret (v := ndV 2 (k7 : Int) [] none 0 0 none 0 0) (by simp [results, Tryd.results43, go_sem, *]) rfl ?_
    have HZ := HL.out
    have HN := HZ.lt
    have HO := HZ.old
    refine ⟨_, _, _, _, _, _, _, _, _, _, rfl, HZ.done (fun p hp => ?_) (by simp [World.setCell]), ?_, ?_, ?_⟩
    · have hpn : p.block ≠ w.heap.size := by omega
      rw [set_cellN hpn, set_cellN hpn, set_cellN hpn, set_cellN hpn, set_cellN hpn]
    · exact HSZ.out
    · exact (rdr_setN (rdr_setN (rdr_setN (rdr_setN (rdr_setN HR.out (by omega)) (by omega)) (by omega)) (by omega)) (by omega)).more (by omega)
    · exact grown_set_upN (grown_set_upN (grown_set_upN (grown_set_upN (grown_set_upN HG.out (by omega)) (by omega)) (by omega)) (by omega)) (by omega)
  ·
    have HL : Hid (NSt w (ws.alloc (.cells #[.int .i64 3, .int .i64 0, .string ⟨#[]⟩, .slice none 0 0, .slice none 0 0] 26)) g ws.heap.size 3 0 [] none 0 [] none 0 [] []) := ⟨heap_alloc_new ws _, ownS_nil _ _, ownN_nil _ _, ⟨rfl, fun i r x h => by simp at h⟩, (fun j h => by simp [Value.ownBlock] at h), (heap_alloc_old ws _ hslt).trans hres, hslt, hlt⟩
    have HR := Lib.hid (HRs.out.keep ((Below.refl _ _).alloc (Nat.le_refl _) (.cells #[.int .i64 3, .int .i64 0, .string ⟨#[]⟩, .slice none 0 0, .slice none 0 0] 26)))
    have HG := Lib.hid (grown_alloc HGs.out (.cells #[.int .i64 3, .int .i64 0, .string ⟨#[]⟩, .slice none 0 0, .slice none 0 0] 26))
    have hbg : ws.heap.size ≠ g := by omega
    obtain ⟨⟨f0, f1, f2, f3, f4⟩, f5, f6, f7, f8, f9⟩ := box_five HL.out.box
    go_wp2_with fail
    refine (spec_pick B g _ 256 _ HR.out (by omega) (by omega) (by omega)).mono ?_
    rintro e w7 ⟨k7, rfl, hk7, hr7, hg7⟩
    have HL7 := Lib.hid (HL.out.grow hg7)
    have HR7 := Lib.hid hr7
    have HG7 := Lib.hid (grown_trans HG.out hg7)
    have hs7 : ws.heap.size < w7.heap.size := HL7.out.size
    clear hr7 hg7
    go_wp2_with fail
    refine (spec_pick B g _ 6 _ ((HR7.out.keep ((Below.refl _ _).alloc (Nat.le_refl _) _)).keep ((Below.refl _ _).alloc (Nat.le_refl _) _)) (by omega) (by omega) (by omega)).mono ?_
    rintro e w8 ⟨k8, rfl, hk8, hr8, hg8⟩
    have hl1 : w8.heap[w7.heap.size]? = _ := (hg8.block w7.heap.size (by simp; omega) (by intro e; injection e; omega)).trans ((heap_alloc_old _ _ (by simp)).trans (heap_alloc_new w7 _))
    have hl2 : w8.heap[w7.heap.size + 1]? = some (.cells #[.int .i64 0, .int .i64 0, .int .i64 0, .int .i64 1, .int .i64 2, .int .i64 3] 3 (0, 0)) := (hg8.block (w7.heap.size + 1) (by simp) (by intro e; injection e; omega)).trans (by have := heap_alloc_new (w7.alloc (.cells #[.int .i64 ((k7 : Int) - 128), .int .i64 999999, .int .i64 (-999999), .int .i64 0] 3)) (.cells #[.int .i64 0, .int .i64 0, .int .i64 0, .int .i64 1, .int .i64 2, .int .i64 3] 3); simpa using this)
    have HL8 := Lib.hid (((HL7.out.alloc _).alloc _).grow hg8)
    have HR8 := Lib.hid hr8
    have HG8 := Lib.hid (grown_trans (grown_alloc (grown_alloc HG7.out _) _) hg8)
    have a0 := cell_of_row w8 _ 0 _ _ _ hl1
    have a1 := cell_of_row w8 _ 1 _ _ _ hl1
    have a2 := cell_of_row w8 _ 2 _ _ _ hl1
    have a3 := cell_of_row w8 _ 3 _ _ _ hl1
    have b0 := cell_of_row w8 _ 0 _ _ _ hl2
    have b1 := cell_of_row w8 _ 1 _ _ _ hl2
    have b2 := cell_of_row w8 _ 2 _ _ _ hl2
    have b3 := cell_of_row w8 _ 3 _ _ _ hl2
    have b4 := cell_of_row w8 _ 4 _ _ _ hl2
    have b5 := cell_of_row w8 _ 5 _ _ _ hl2
    clear hl1 hl2 hr8 hg8
    obtain ⟨⟨f0, f1, f2, f3, f4⟩, f5, f6, f7, f8, f9⟩ := box_five HL8.out.box
    obtain rfl | rfl | rfl | rfl | rfl | rfl : k8 = 0 ∨ k8 = 1 ∨ k8 = 2 ∨ k8 = 3 ∨ k8 = 4 ∨ k8 = 5 := by omega
    ·
      have HL := Lib.hid (HL8.out.set 1 (.int .i64 ((k7 : Int) - 128)) (nn' := ((k7 : Int) - 128)) (tt' := []) rfl)
      have HR := Lib.hid (rdr_setN (o := 1) (u := .int .i64 ((k7 : Int) - 128)) (k := ws.heap.size) HR8.out (by omega))
      have HG := Lib.hid (grown_set_upN (o := 1) (u := .int .i64 ((k7 : Int) - 128)) (k := ws.heap.size) HG8.out (by omega))
      have HSZ : Hid (Nd.size (.mk 3 ((k7 : Int) - 128) [] [] []) ≤ 100) := by show _ ≤ _; simp [Nd.size, Nd.sizes, ssize]
      obtain ⟨⟨f0, f1, f2, f3, f4⟩, f5, f6, f7, f8, f9⟩ := box_five HL.out.box
      obtain ⟨⟨r0, r1, r2, r3, r4⟩, r5, r6, r7, r8, r9⟩ := box_five HL.out.res
      go_wp2
      refine bodyPost_ret (v := ndV 3 ((k7 : Int) - 128) [] none 0 0 none 0 0) (by simp [results, Tryd.results43, go_sem, *]) rfl ?_
      have HZ := HL.out
      have HN := HZ.lt
      have HO := HZ.old
      refine ⟨_, _, _, _, _, _, _, _, _, _, rfl, HZ.done (fun p hp => ?_) (by simp [World.setCell]), ?_, ?_, ?_⟩
      · have hpn : p.block ≠ w.heap.size := by omega
        rw [set_cellN hpn, set_cellN hpn, set_cellN hpn, set_cellN hpn, set_cellN hpn]
      · exact HSZ.out
      · exact (rdr_setN (rdr_setN (rdr_setN (rdr_setN (rdr_setN HR.out (by omega)) (by omega)) (by omega)) (by omega)) (by omega)).more (by omega)
      · exact grown_set_upN (grown_set_upN (grown_set_upN (grown_set_upN (grown_set_upN HG.out (by omega)) (by omega)) (by omega)) (by omega)) (by omega)
    ·
      have HL := Lib.hid (HL8.out.set 1 (.int .i64 ((k7 : Int) - 128)) (nn' := ((k7 : Int) - 128)) (tt' := []) rfl)
      have HR := Lib.hid (rdr_setN (o := 1) (u := .int .i64 ((k7 : Int) - 128)) (k := ws.heap.size) HR8.out (by omega))
      have HG := Lib.hid (grown_set_upN (o := 1) (u := .int .i64 ((k7 : Int) - 128)) (k := ws.heap.size) HG8.out (by omega))
      have HSZ : Hid (Nd.size (.mk 3 ((k7 : Int) - 128) [] [] []) ≤ 100) := by show _ ≤ _; simp [Nd.size, Nd.sizes, ssize]
      obtain ⟨⟨f0, f1, f2, f3, f4⟩, f5, f6, f7, f8, f9⟩ := box_five HL.out.box
      obtain ⟨⟨r0, r1, r2, r3, r4⟩, r5, r6, r7, r8, r9⟩ := box_five HL.out.res
      go_wp2
      refine bodyPost_ret (v := ndV 3 ((k7 : Int) - 128) [] none 0 0 none 0 0) (by simp [results, Tryd.results43, go_sem, *]) rfl ?_
      have HZ := HL.out
      have HN := HZ.lt
      have HO := HZ.old
      refine ⟨_, _, _, _, _, _, _, _, _, _, rfl, HZ.done (fun p hp => ?_) (by simp [World.setCell]), ?_, ?_, ?_⟩
      · have hpn : p.block ≠ w.heap.size := by omega
        rw [set_cellN hpn, set_cellN hpn, set_cellN hpn, set_cellN hpn, set_cellN hpn]
      · exact HSZ.out
      · exact (rdr_setN (rdr_setN (rdr_setN (rdr_setN (rdr_setN HR.out (by omega)) (by omega)) (by omega)) (by omega)) (by omega)).more (by omega)
      · exact grown_set_upN (grown_set_upN (grown_set_upN (grown_set_upN (grown_set_upN HG.out (by omega)) (by omega)) (by omega)) (by omega)) (by omega)
    ·
      have HL := Lib.hid (HL8.out.set 1 (.int .i64 ((k7 : Int) - 128)) (nn' := ((k7 : Int) - 128)) (tt' := []) rfl)
      have HR := Lib.hid (rdr_setN (o := 1) (u := .int .i64 ((k7 : Int) - 128)) (k := ws.heap.size) HR8.out (by omega))
      have HG := Lib.hid (grown_set_upN (o := 1) (u := .int .i64 ((k7 : Int) - 128)) (k := ws.heap.size) HG8.out (by omega))
      have HSZ : Hid (Nd.size (.mk 3 ((k7 : Int) - 128) [] [] []) ≤ 100) := by show _ ≤ _; simp [Nd.size, Nd.sizes, ssize]
      obtain ⟨⟨f0, f1, f2, f3, f4⟩, f5, f6, f7, f8, f9⟩ := box_five HL.out.box
      obtain ⟨⟨r0, r1, r2, r3, r4⟩, r5, r6, r7, r8, r9⟩ := box_five HL.out.res
      go_wp2
      refine bodyPost_ret (v := ndV 3 ((k7 : Int) - 128) [] none 0 0 none 0 0) (by simp [results, Tryd.results43, go_sem, *]) rfl ?_
      have HZ := HL.out
      have HN := HZ.lt
      have HO := HZ.old
      refine ⟨_, _, _, _, _, _, _, _, _, _, rfl, HZ.done (fun p hp => ?_) (by simp [World.setCell]), ?_, ?_, ?_⟩
      · have hpn : p.block ≠ w.heap.size := by omega
        rw [set_cellN hpn, set_cellN hpn, set_cellN hpn, set_cellN hpn, set_cellN hpn]
      · exact HSZ.out
      · exact (rdr_setN (rdr_setN (rdr_setN (rdr_setN (rdr_setN HR.out (by omega)) (by omega)) (by omega)) (by omega)) (by omega)).more (by omega)
      · exact grown_set_upN (grown_set_upN (grown_set_upN (grown_set_upN (grown_set_upN HG.out (by omega)) (by omega)) (by omega)) (by omega)) (by omega)
    ·
      have HL := Lib.hid (HL8.out.set 1 (.int .i64 999999) (nn' := 999999) (tt' := []) rfl)
      have HR := Lib.hid (rdr_setN (o := 1) (u := .int .i64 999999) (k := ws.heap.size) HR8.out (by omega))
      have HG := Lib.hid (grown_set_upN (o := 1) (u := .int .i64 999999) (k := ws.heap.size) HG8.out (by omega))
      have HSZ : Hid (Nd.size (.mk 3 999999 [] [] []) ≤ 100) := by show _ ≤ _; simp [Nd.size, Nd.sizes, ssize]
      obtain ⟨⟨f0, f1, f2, f3, f4⟩, f5, f6, f7, f8, f9⟩ := box_five HL.out.box
      obtain ⟨⟨r0, r1, r2, r3, r4⟩, r5, r6, r7, r8, r9⟩ := box_five HL.out.res
      go_wp2
      refine bodyPost_ret (v := ndV 3 999999 [] none 0 0 none 0 0) (by simp [results, Tryd.results43, go_sem, *]) rfl ?_
      have HZ := HL.out
      have HN := HZ.lt
      have HO := HZ.old
      refine ⟨_, _, _, _, _, _, _, _, _, _, rfl, HZ.done (fun p hp => ?_) (by simp [World.setCell]), ?_, ?_, ?_⟩
      · have hpn : p.block ≠ w.heap.size := by omega
        rw [set_cellN hpn, set_cellN hpn, set_cellN hpn, set_cellN hpn, set_cellN hpn]
      · exact HSZ.out
      · exact (rdr_setN (rdr_setN (rdr_setN (rdr_setN (rdr_setN HR.out (by omega)) (by omega)) (by omega)) (by omega)) (by omega)).more (by omega)
      · exact grown_set_upN (grown_set_upN (grown_set_upN (grown_set_upN (grown_set_upN HG.out (by omega)) (by omega)) (by omega)) (by omega)) (by omega)
    ·
      have HL := Lib.hid (HL8.out.set 1 (.int .i64 (-999999)) (nn' := (-999999)) (tt' := []) rfl)
      have HR := Lib.hid (rdr_setN (o := 1) (u := .int .i64 (-999999)) (k := ws.heap.size) HR8.out (by omega))
      have HG := Lib.hid (grown_set_upN (o := 1) (u := .int .i64 (-999999)) (k := ws.heap.size) HG8.out (by omega))
      have HSZ : Hid (Nd.size (.mk 3 (-999999) [] [] []) ≤ 100) := by show _ ≤ _; simp [Nd.size, Nd.sizes, ssize]
      obtain ⟨⟨f0, f1, f2, f3, f4⟩, f5, f6, f7, f8, f9⟩ := box_five HL.out.box
      obtain ⟨⟨r0, r1, r2, r3, r4⟩, r5, r6, r7, r8, r9⟩ := box_five HL.out.res
      go_wp2
      refine bodyPost_ret (v := ndV 3 (-999999) [] none 0 0 none 0 0) (by simp [results, Tryd.results43, go_sem, *]) rfl ?_
      have HZ := HL.out
      have HN := HZ.lt
      have HO := HZ.old
      refine ⟨_, _, _, _, _, _, _, _, _, _, rfl, HZ.done (fun p hp => ?_) (by simp [World.setCell]), ?_, ?_, ?_⟩
      · have hpn : p.block ≠ w.heap.size := by omega
        rw [set_cellN hpn, set_cellN hpn, set_cellN hpn, set_cellN hpn, set_cellN hpn]
      · exact HSZ.out
      · exact (rdr_setN (rdr_setN (rdr_setN (rdr_setN (rdr_setN HR.out (by omega)) (by omega)) (by omega)) (by omega)) (by omega)).more (by omega)
      · exact grown_set_upN (grown_set_upN (grown_set_upN (grown_set_upN (grown_set_upN HG.out (by omega)) (by omega)) (by omega)) (by omega)) (by omega)
    ·
      have HL := Lib.hid (HL8.out.set 1 (.int .i64 0) (nn' := 0) (tt' := []) rfl)
      have HR := Lib.hid (rdr_setN (o := 1) (u := .int .i64 0) (k := ws.heap.size) HR8.out (by omega))
      have HG := Lib.hid (grown_set_upN (o := 1) (u := .int .i64 0) (k := ws.heap.size) HG8.out (by omega))
      have HSZ : Hid (Nd.size (.mk 3 0 [] [] []) ≤ 100) := by show _ ≤ _; simp [Nd.size, Nd.sizes, ssize]
      obtain ⟨⟨f0, f1, f2, f3, f4⟩, f5, f6, f7, f8, f9⟩ := box_five HL.out.box
      obtain ⟨⟨r0, r1, r2, r3, r4⟩, r5, r6, r7, r8, r9⟩ := box_five HL.out.res
      go_wp2
      refine bodyPost_ret (v := ndV 3 0 [] none 0 0 none 0 0) (by simp [results, Tryd.results43, go_sem, *]) rfl ?_
      have HZ := HL.out
      have HN := HZ.lt
      have HO := HZ.old
      refine ⟨_, _, _, _, _, _, _, _, _, _, rfl, HZ.done (fun p hp => ?_) (by simp [World.setCell]), ?_, ?_, ?_⟩
      · have hpn : p.block ≠ w.heap.size := by omega
        rw [set_cellN hpn, set_cellN hpn, set_cellN hpn, set_cellN hpn, set_cellN hpn]
      · exact HSZ.out
      · exact (rdr_setN (rdr_setN (rdr_setN (rdr_setN (rdr_setN HR.out (by omega)) (by omega)) (by omega)) (by omega)) (by omega)).more (by omega)
      · exact grown_set_upN (grown_set_upN (grown_set_upN (grown_set_upN (grown_set_upN HG.out (by omega)) (by omega)) (by omega)) (by omega)) (by omega)
  ·
    have HL : Hid (NSt w (ws.alloc (.cells #[.int .i64 4, .int .i64 0, .string ⟨#[]⟩, .slice none 0 0, .slice none 0 0] 26)) g ws.heap.size 4 0 [] none 0 [] none 0 [] []) := ⟨heap_alloc_new ws _, ownS_nil _ _, ownN_nil _ _, ⟨rfl, fun i r x h => by simp at h⟩, (fun j h => by simp [Value.ownBlock] at h), (heap_alloc_old ws _ hslt).trans hres, hslt, hlt⟩
    have HR := Lib.hid (HRs.out.keep ((Below.refl _ _).alloc (Nat.le_refl _) (.cells #[.int .i64 4, .int .i64 0, .string ⟨#[]⟩, .slice none 0 0, .slice none 0 0] 26)))
    have HG := Lib.hid (grown_alloc HGs.out (.cells #[.int .i64 4, .int .i64 0, .string ⟨#[]⟩, .slice none 0 0, .slice none 0 0] 26))
    have hbg : ws.heap.size ≠ g := by omega
    obtain ⟨⟨f0, f1, f2, f3, f4⟩, f5, f6, f7, f8, f9⟩ := box_five HL.out.box
    go_wp2_with fail
    refine (spec_pick B g _ 6 _ (HR.out.keep ((Below.refl _ _).alloc (Nat.le_refl _) _)) (by omega) (by omega) (by omega)).mono ?_
    rintro e w7 ⟨k7, rfl, hk7, hr7, hg7⟩
    have hlit : w7.heap[ws.heap.size + 1]? = some (.cells #[.string ⟨#[]⟩, .string ⟨#[97]⟩, .string ⟨#[97, 34, 98]⟩, .string ⟨#[92]⟩, .string ⟨#[120, 44, 32, 121]⟩, .string ⟨#[123, 125]⟩] 9 (0, 0)) := (hg7.block (ws.heap.size + 1) (by simp) (by intro e; injection e; omega)).trans (by have := heap_alloc_new (ws.alloc (.cells #[.int .i64 4, .int .i64 0, .string ⟨#[]⟩, .slice none 0 0, .slice none 0 0] 26)) (.cells #[.string ⟨#[]⟩, .string ⟨#[97]⟩, .string ⟨#[97, 34, 98]⟩, .string ⟨#[92]⟩, .string ⟨#[120, 44, 32, 121]⟩, .string ⟨#[123, 125]⟩] 9); simpa using this)
    obtain ⟨x7, hx7c, hx7⟩ := lit_str (k := k7) (B := 100) (n := 6) hlit (by decide +kernel) (by rcases hk7 with hk7 | hk7 <;> omega)
    have HL7 := Lib.hid ((HL.out.alloc _).grow hg7)
    have hs7 : ws.heap.size + 1 < w7.heap.size := by have := hg7.size; simp at this; omega
    obtain ⟨⟨f0, f1, f2, f3, f4⟩, f5, f6, f7, f8, f9⟩ := box_five HL7.out.box
    have HL := Lib.hid (HL7.out.set 2 (sv x7) (nn' := 0) (tt' := x7) rfl)
    have HR := Lib.hid (rdr_setN (o := 2) (u := sv x7) (k := ws.heap.size) hr7 (by omega))
    have HG := Lib.hid (grown_set_upN (o := 2) (u := sv x7) (k := ws.heap.size) (grown_trans (grown_alloc HG.out _) hg7) (by omega))
    clear hr7 hg7 hlit
    have HSZ : Hid (Nd.size (.mk 4 0 x7 [] []) ≤ 100) := by show _ ≤ _; simp [Nd.size, Nd.sizes, ssize]; omega
    obtain ⟨⟨f0, f1, f2, f3, f4⟩, f5, f6, f7, f8, f9⟩ := box_five HL.out.box
    obtain ⟨⟨r0, r1, r2, r3, r4⟩, r5, r6, r7, r8, r9⟩ := box_five HL.out.res
    go_wp2
    refine bodyPost_ret (v := ndV 4 0 x7 none 0 0 none 0 0) (by simp [results, Tryd.results43, go_sem, *]) rfl ?_
    have HZ := HL.out
    have HN := HZ.lt
    have HO := HZ.old
    refine ⟨_, _, _, _, _, _, _, _, _, _, rfl, HZ.done (fun p hp => ?_) (by simp [World.setCell]), ?_, ?_, ?_⟩
    · have hpn : p.block ≠ w.heap.size := by omega
      rw [set_cellN hpn, set_cellN hpn, set_cellN hpn, set_cellN hpn, set_cellN hpn]
    · exact HSZ.out
    · exact (rdr_setN (rdr_setN (rdr_setN (rdr_setN (rdr_setN HR.out (by omega)) (by omega)) (by omega)) (by omega)) (by omega)).more (by omega)
    · exact grown_set_upN (grown_set_upN (grown_set_upN (grown_set_upN (grown_set_upN HG.out (by omega)) (by omega)) (by omega)) (by omega)) (by omega)
theorem NSt.fresh {w0 wr w3 : World} {g b : Nat} {kd nn : Int} {tt : Tx} {An Ai : Option Addr} {cn ci : Nat} {ns : List Tx} {rs : List Raw} {xs : List Nd} {x : Nd} {v : Value} (h : NSt w0 wr g b kd nn tt An cn ns Ai ci rs xs) (hin : InN w3 (fun j => wr.heap.size ≤ j ∧ j < w3.heap.size) x v) :
    InN w3 (fun j => b < j ∧ j < w3.heap.size ∧ Value.ownBlock (.slice An ns.length cn) ≠ some j ∧ Value.ownBlock (.slice Ai rs.length ci) ≠ some j) x v :=
  InN.keep (fun _ _ => rfl) (fun j hj => ⟨Nat.lt_of_lt_of_le h.size hj.1, hj.2, fun e => by have := (h.nown.lt j e).2; omega, fun e => by have := (h.iown.lt j e).2; omega⟩) _ _ hin
theorem three_lists {ns : List Tx} (h : ns.length ≤ 2) : ns = [] ∨ (∃ a, ns = [a]) ∨ ∃ a b, ns = [a, b] := by
  match ns, h with
  | [], _ => exact .inl rfl
  | [a], _ => exact .inr (.inl ⟨a, rfl⟩)
  | [a, b], _ => exact .inr (.inr ⟨a, b, rfl⟩)
  | _ :: _ :: _ :: _, h => simp at h
set_option maxRecDepth 100000 in
set_option maxHeartbeats 8000000 in
theorem spec_l20NodeS (d : Nat) (hd : d ≤ 3) (ih : DrC d) : DrC (d + 1) := by
  intro B g q w h hq
  have hlt := h.lt
  have hq : q + (20 + 40 * ndCost d) ≤ 100000000 := hq
  show Calls Tryd.prog 43 #[.pointer (some ⟨g, 0, none⟩), .int .i64 (((d + 1 : Nat) : Int) + 1)] w (DrawnN w B g q (20 + 40 * ndCost d) (120 + 3 * ndBig d))
  rw [show (((d + 1 : Nat) : Int) + 1) = (d : Int) + 2 by omega]
  have H := Lib.hid h
  have IH := Lib.hid ih
  have hd2 : decide ((d : Int) + 2 < 2) = false := by simp; omega
  have hd3 : (d : Int) ≤ 3 := by omega
  clear h ih
  go_enter Tryd.func43, Tryd.ntmps43
  go_wp2_with fail
  refine (spec_pick B g _ 6 _ (H.out.keep ((Below.refl _ _).alloc (Nat.le_refl _) _)) (by omega) (by omega) (by omega)).mono ?_
  rintro e ws ⟨k1, rfl, hk1, hr1, hg1⟩
  have hres : ws.heap[w.heap.size]? = some (.cells #[.int .i64 0, .int .i64 0, .string ⟨#[]⟩, .slice none 0 0, .slice none 0 0] 26 (0, 0)) := (hg1.block w.heap.size (by simp) (by intro e; injection e; omega)).trans (heap_alloc_new w _)
  have hslt : w.heap.size < ws.heap.size := lt_of_block hres
  have HGs := Lib.hid (grown_trans (World.grownBy_alloc w (.cells #[.int .i64 0, .int .i64 0, .string ⟨#[]⟩, .slice none 0 0, .slice none 0 0] 26) (some g)) hg1)
  have HRs := Lib.hid hr1
  clear hr1 hg1
  obtain rfl | rfl | rfl | rfl | rfl | rfl : k1 = 0 ∨ k1 = 1 ∨ k1 = 2 ∨ k1 = 3 ∨ k1 = 4 ∨ k1 = 5 := by omega
  ·
    have HL : Hid (NSt w (ws.alloc (.cells #[.int .i64 1, .int .i64 0, .string ⟨#[]⟩, .slice none 0 0, .slice none 0 0] 26)) g ws.heap.size 1 0 [] none 0 [] none 0 [] []) := ⟨heap_alloc_new ws _, ownS_nil _ _, ownN_nil _ _, ⟨rfl, fun i r x h => by simp at h⟩, (fun j h => by simp [Value.ownBlock] at h), (heap_alloc_old ws _ hslt).trans hres, hslt, hlt⟩
    have HR := Lib.hid (HRs.out.keep ((Below.refl _ _).alloc (Nat.le_refl _) (.cells #[.int .i64 1, .int .i64 0, .string ⟨#[]⟩, .slice none 0 0, .slice none 0 0] 26)))
    have HG := Lib.hid (grown_alloc HGs.out (.cells #[.int .i64 1, .int .i64 0, .string ⟨#[]⟩, .slice none 0 0, .slice none 0 0] 26))
    have hbg : ws.heap.size ≠ g := by omega
    obtain ⟨⟨f0, f1, f2, f3, f4⟩, f5, f6, f7, f8, f9⟩ := box_five HL.out.box
    have HSZ : Hid (Nd.size (.mk 1 0 [] [] []) ≤ 120 + 3 * ndBig d) := by show _ ≤ _; simp [Nd.size, Nd.sizes, ssize]
    go_upto_region 5 with fail
    generalize ws.alloc (.cells #[.int .i64 1, .int .i64 0, .string ⟨#[]⟩, .slice none 0 0, .slice none 0 0] 26) = wb at *
    obtain ⟨⟨f0, f1, f2, f3, f4⟩, f5, f6, f7, f8, f9⟩ := box_five HL.out.box
    obtain ⟨⟨r0, r1, r2, r3, r4⟩, r5, r6, r7, r8, r9⟩ := box_five HL.out.res
    go_wp2
    refine bodyPost_ret (v := ndV 1 0 [] none 0 0 none 0 0) (by simp [results, Tryd.results43, go_sem, *]) rfl ?_
    have HZ := HL.out
    have HN := HZ.lt
    have HO := HZ.old
    refine ⟨_, _, _, _, _, _, _, _, _, _, rfl, HZ.done (fun p hp => ?_) (by simp [World.setCell]), ?_, ?_, ?_⟩
    · have hpn : p.block ≠ w.heap.size := by omega
      rw [set_cellN hpn, set_cellN hpn, set_cellN hpn, set_cellN hpn, set_cellN hpn]
    · exact HSZ.out
    · exact (rdr_setN (rdr_setN (rdr_setN (rdr_setN (rdr_setN HR.out (by omega)) (by omega)) (by omega)) (by omega)) (by omega)).more (by omega)
    · exact grown_set_upN (grown_set_upN (grown_set_upN (grown_set_upN (grown_set_upN HG.out (by omega)) (by omega)) (by omega)) (by omega)) (by omega)
  ·
    have HL : Hid (NSt w (ws.alloc (.cells #[.int .i64 2, .int .i64 0, .string ⟨#[]⟩, .slice none 0 0, .slice none 0 0] 26)) g ws.heap.size 2 0 [] none 0 [] none 0 [] []) := ⟨heap_alloc_new ws _, ownS_nil _ _, ownN_nil _ _, ⟨rfl, fun i r x h => by simp at h⟩, (fun j h => by simp [Value.ownBlock] at h), (heap_alloc_old ws _ hslt).trans hres, hslt, hlt⟩
    have HR := Lib.hid (HRs.out.keep ((Below.refl _ _).alloc (Nat.le_refl _) (.cells #[.int .i64 2, .int .i64 0, .string ⟨#[]⟩, .slice none 0 0, .slice none 0 0] 26)))
    have HG := Lib.hid (grown_alloc HGs.out (.cells #[.int .i64 2, .int .i64 0, .string ⟨#[]⟩, .slice none 0 0, .slice none 0 0] 26))
    have hbg : ws.heap.size ≠ g := by omega
    obtain ⟨⟨f0, f1, f2, f3, f4⟩, f5, f6, f7, f8, f9⟩ := box_five HL.out.box
    go_wp2_with fail
    refine (spec_pick B g _ 2 _ HR.out (by omega) (by omega) (by omega)).mono ?_
    rintro e w7 ⟨k7, rfl, hk7, hr7, hg7⟩
    have HL7 := Lib.hid (HL.out.grow hg7)
    obtain ⟨⟨f0, f1, f2, f3, f4⟩, f5, f6, f7, f8, f9⟩ := box_five HL7.out.box
    have HL := Lib.hid (HL7.out.set 1 (.int .i64 (k7 : Int)) (nn' := (k7 : Int)) (tt' := []) rfl)
    have HR := Lib.hid (rdr_setN (o := 1) (u := .int .i64 (k7 : Int)) (k := ws.heap.size) hr7 (by omega))
    have HG := Lib.hid (grown_set_upN (o := 1) (u := .int .i64 (k7 : Int)) (k := ws.heap.size) (grown_trans HG.out hg7) (by omega))
    clear hr7 hg7
    have HSZ : Hid (Nd.size (.mk 2 (k7 : Int) [] [] []) ≤ 120 + 3 * ndBig d) := by show _ ≤ _; simp [Nd.size, Nd.sizes, ssize]
    obtain ⟨⟨f0, f1, f2, f3, f4⟩, f5, f6, f7, f8, f9⟩ := box_five HL.out.box
    obtain ⟨⟨r0, r1, r2, r3, r4⟩, r5, r6, r7, r8, r9⟩ := box_five HL.out.res
    go_wp2
    refine bodyPost_ret (v := ndV 2 (k7 : Int) [] none 0 0 none 0 0) (by simp [results, Tryd.results43, go_sem, *]) rfl ?_
    have HZ := HL.out
    have HN := HZ.lt
    have HO := HZ.old
    refine ⟨_, _, _, _, _, _, _, _, _, _, rfl, HZ.done (fun p hp => ?_) (by simp [World.setCell]), ?_, ?_, ?_⟩
    · have hpn : p.block ≠ w.heap.size := by omega
      rw [set_cellN hpn, set_cellN hpn, set_cellN hpn, set_cellN hpn, set_cellN hpn]
    · exact HSZ.out
    · exact (rdr_setN (rdr_setN (rdr_setN (rdr_setN (rdr_setN HR.out (by omega)) (by omega)) (by omega)) (by omega)) (by omega)).more (by omega)
    · exact grown_set_upN (grown_set_upN (grown_set_upN (grown_set_upN (grown_set_upN HG.out (by omega)) (by omega)) (by omega)) (by omega)) (by omega)
  ·
    have HL : Hid (NSt w (ws.alloc (.cells #[.int .i64 3, .int .i64 0, .string ⟨#[]⟩, .slice none 0 0, .slice none 0 0] 26)) g ws.heap.size 3 0 [] none 0 [] none 0 [] []) := ⟨heap_alloc_new ws _, ownS_nil _ _, ownN_nil _ _, ⟨rfl, fun i r x h => by simp at h⟩, (fun j h => by simp [Value.ownBlock] at h), (heap_alloc_old ws _ hslt).trans hres, hslt, hlt⟩
    have HR := Lib.hid (HRs.out.keep ((Below.refl _ _).alloc (Nat.le_refl _) (.cells #[.int .i64 3, .int .i64 0, .string ⟨#[]⟩, .slice none 0 0, .slice none 0 0] 26)))
    have HG := Lib.hid (grown_alloc HGs.out (.cells #[.int .i64 3, .int .i64 0, .string ⟨#[]⟩, .slice none 0 0, .slice none 0 0] 26))
    have hbg : ws.heap.size ≠ g := by omega
    obtain ⟨⟨f0, f1, f2, f3, f4⟩, f5, f6, f7, f8, f9⟩ := box_five HL.out.box
    go_wp2_with fail
    refine (spec_pick B g _ 256 _ HR.out (by omega) (by omega) (by omega)).mono ?_
    rintro e w7 ⟨k7, rfl, hk7, hr7, hg7⟩
    have HL7 := Lib.hid (HL.out.grow hg7)
    have HR7 := Lib.hid hr7
    have HG7 := Lib.hid (grown_trans HG.out hg7)
    have hs7 : ws.heap.size < w7.heap.size := HL7.out.size
    clear hr7 hg7
    go_wp2_with fail
    refine (spec_pick B g _ 6 _ ((HR7.out.keep ((Below.refl _ _).alloc (Nat.le_refl _) _)).keep ((Below.refl _ _).alloc (Nat.le_refl _) _)) (by omega) (by omega) (by omega)).mono ?_
    rintro e w8 ⟨k8, rfl, hk8, hr8, hg8⟩
    have hl1 : w8.heap[w7.heap.size]? = _ := (hg8.block w7.heap.size (by simp; omega) (by intro e; injection e; omega)).trans ((heap_alloc_old _ _ (by simp)).trans (heap_alloc_new w7 _))
    have hl2 : w8.heap[w7.heap.size + 1]? = some (.cells #[.int .i64 0, .int .i64 0, .int .i64 0, .int .i64 1, .int .i64 2, .int .i64 3] 3 (0, 0)) := (hg8.block (w7.heap.size + 1) (by simp) (by intro e; injection e; omega)).trans (by have := heap_alloc_new (w7.alloc (.cells #[.int .i64 ((k7 : Int) - 128), .int .i64 999999, .int .i64 (-999999), .int .i64 0] 3)) (.cells #[.int .i64 0, .int .i64 0, .int .i64 0, .int .i64 1, .int .i64 2, .int .i64 3] 3); simpa using this)
    have HL8 := Lib.hid (((HL7.out.alloc _).alloc _).grow hg8)
    have HR8 := Lib.hid hr8
    have HG8 := Lib.hid (grown_trans (grown_alloc (grown_alloc HG7.out _) _) hg8)
    have a0 := cell_of_row w8 _ 0 _ _ _ hl1
    have a1 := cell_of_row w8 _ 1 _ _ _ hl1
    have a2 := cell_of_row w8 _ 2 _ _ _ hl1
    have a3 := cell_of_row w8 _ 3 _ _ _ hl1
    have b0 := cell_of_row w8 _ 0 _ _ _ hl2
    have b1 := cell_of_row w8 _ 1 _ _ _ hl2
    have b2 := cell_of_row w8 _ 2 _ _ _ hl2
    have b3 := cell_of_row w8 _ 3 _ _ _ hl2
    have b4 := cell_of_row w8 _ 4 _ _ _ hl2
    have b5 := cell_of_row w8 _ 5 _ _ _ hl2
    clear hl1 hl2 hr8 hg8
    obtain ⟨⟨f0, f1, f2, f3, f4⟩, f5, f6, f7, f8, f9⟩ := box_five HL8.out.box
    obtain rfl | rfl | rfl | rfl | rfl | rfl : k8 = 0 ∨ k8 = 1 ∨ k8 = 2 ∨ k8 = 3 ∨ k8 = 4 ∨ k8 = 5 := by omega
    ·
      have HL := Lib.hid (HL8.out.set 1 (.int .i64 ((k7 : Int) - 128)) (nn' := ((k7 : Int) - 128)) (tt' := []) rfl)
      have HR := Lib.hid (rdr_setN (o := 1) (u := .int .i64 ((k7 : Int) - 128)) (k := ws.heap.size) HR8.out (by omega))
      have HG := Lib.hid (grown_set_upN (o := 1) (u := .int .i64 ((k7 : Int) - 128)) (k := ws.heap.size) HG8.out (by omega))
      have HSZ : Hid (Nd.size (.mk 3 ((k7 : Int) - 128) [] [] []) ≤ 120 + 3 * ndBig d) := by show _ ≤ _; simp [Nd.size, Nd.sizes, ssize]
      obtain ⟨⟨f0, f1, f2, f3, f4⟩, f5, f6, f7, f8, f9⟩ := box_five HL.out.box
      obtain ⟨⟨r0, r1, r2, r3, r4⟩, r5, r6, r7, r8, r9⟩ := box_five HL.out.res
      go_wp2
      refine bodyPost_ret (v := ndV 3 ((k7 : Int) - 128) [] none 0 0 none 0 0) (by simp [results, Tryd.results43, go_sem, *]) rfl ?_
      have HZ := HL.out
      have HN := HZ.lt
      have HO := HZ.old
      refine ⟨_, _, _, _, _, _, _, _, _, _, rfl, HZ.done (fun p hp => ?_) (by simp [World.setCell]), ?_, ?_, ?_⟩
      · have hpn : p.block ≠ w.heap.size := by omega
        rw [set_cellN hpn, set_cellN hpn, set_cellN hpn, set_cellN hpn, set_cellN hpn]
      · exact HSZ.out
      · exact (rdr_setN (rdr_setN (rdr_setN (rdr_setN (rdr_setN HR.out (by omega)) (by omega)) (by omega)) (by omega)) (by omega)).more (by omega)
      · exact grown_set_upN (grown_set_upN (grown_set_upN (grown_set_upN (grown_set_upN HG.out (by omega)) (by omega)) (by omega)) (by omega)) (by omega)
    ·
      have HL := Lib.hid (HL8.out.set 1 (.int .i64 ((k7 : Int) - 128)) (nn' := ((k7 : Int) - 128)) (tt' := []) rfl)
      have HR := Lib.hid (rdr_setN (o := 1) (u := .int .i64 ((k7 : Int) - 128)) (k := ws.heap.size) HR8.out (by omega))
      have HG := Lib.hid (grown_set_upN (o := 1) (u := .int .i64 ((k7 : Int) - 128)) (k := ws.heap.size) HG8.out (by omega))
      have HSZ : Hid (Nd.size (.mk 3 ((k7 : Int) - 128) [] [] []) ≤ 120 + 3 * ndBig d) := by show _ ≤ _; simp [Nd.size, Nd.sizes, ssize]
      obtain ⟨⟨f0, f1, f2, f3, f4⟩, f5, f6, f7, f8, f9⟩ := box_five HL.out.box
      obtain ⟨⟨r0, r1, r2, r3, r4⟩, r5, r6, r7, r8, r9⟩ := box_five HL.out.res
      go_wp2
      refine bodyPost_ret (v := ndV 3 ((k7 : Int) - 128) [] none 0 0 none 0 0) (by simp [results, Tryd.results43, go_sem, *]) rfl ?_
      have HZ := HL.out
      have HN := HZ.lt
      have HO := HZ.old
      refine ⟨_, _, _, _, _, _, _, _, _, _, rfl, HZ.done (fun p hp => ?_) (by simp [World.setCell]), ?_, ?_, ?_⟩
      · have hpn : p.block ≠ w.heap.size := by omega
        rw [set_cellN hpn, set_cellN hpn, set_cellN hpn, set_cellN hpn, set_cellN hpn]
      · exact HSZ.out
      · exact (rdr_setN (rdr_setN (rdr_setN (rdr_setN (rdr_setN HR.out (by omega)) (by omega)) (by omega)) (by omega)) (by omega)).more (by omega)
      · exact grown_set_upN (grown_set_upN (grown_set_upN (grown_set_upN (grown_set_upN HG.out (by omega)) (by omega)) (by omega)) (by omega)) (by omega)
    ·
      have HL := Lib.hid (HL8.out.set 1 (.int .i64 ((k7 : Int) - 128)) (nn' := ((k7 : Int) - 128)) (tt' := []) rfl)
      have HR := Lib.hid (rdr_setN (o := 1) (u := .int .i64 ((k7 : Int) - 128)) (k := ws.heap.size) HR8.out (by omega))
      have HG := Lib.hid (grown_set_upN (o := 1) (u := .int .i64 ((k7 : Int) - 128)) (k := ws.heap.size) HG8.out (by omega))
      have HSZ : Hid (Nd.size (.mk 3 ((k7 : Int) - 128) [] [] []) ≤ 120 + 3 * ndBig d) := by show _ ≤ _; simp [Nd.size, Nd.sizes, ssize]
      obtain ⟨⟨f0, f1, f2, f3, f4⟩, f5, f6, f7, f8, f9⟩ := box_five HL.out.box
      obtain ⟨⟨r0, r1, r2, r3, r4⟩, r5, r6, r7, r8, r9⟩ := box_five HL.out.res
      go_wp2
      refine bodyPost_ret (v := ndV 3 ((k7 : Int) - 128) [] none 0 0 none 0 0) (by simp [results, Tryd.results43, go_sem, *]) rfl ?_
      have HZ := HL.out
      have HN := HZ.lt
      have HO := HZ.old
      refine ⟨_, _, _, _, _, _, _, _, _, _, rfl, HZ.done (fun p hp => ?_) (by simp [World.setCell]), ?_, ?_, ?_⟩
      · have hpn : p.block ≠ w.heap.size := by omega
        rw [set_cellN hpn, set_cellN hpn, set_cellN hpn, set_cellN hpn, set_cellN hpn]
      · exact HSZ.out
      · exact (rdr_setN (rdr_setN (rdr_setN (rdr_setN (rdr_setN HR.out (by omega)) (by omega)) (by omega)) (by omega)) (by omega)).more (by omega)
      · exact grown_set_upN (grown_set_upN (grown_set_upN (grown_set_upN (grown_set_upN HG.out (by omega)) (by omega)) (by omega)) (by omega)) (by omega)
    ·
      have HL := Lib.hid (HL8.out.set 1 (.int .i64 999999) (nn' := 999999) (tt' := []) rfl)
      have HR := Lib.hid (rdr_setN (o := 1) (u := .int .i64 999999) (k := ws.heap.size) HR8.out (by omega))
      have HG := Lib.hid (grown_set_upN (o := 1) (u := .int .i64 999999) (k := ws.heap.size) HG8.out (by omega))
      have HSZ : Hid (Nd.size (.mk 3 999999 [] [] []) ≤ 120 + 3 * ndBig d) := by show _ ≤ _; simp [Nd.size, Nd.sizes, ssize]
      obtain ⟨⟨f0, f1, f2, f3, f4⟩, f5, f6, f7, f8, f9⟩ := box_five HL.out.box
      obtain ⟨⟨r0, r1, r2, r3, r4⟩, r5, r6, r7, r8, r9⟩ := box_five HL.out.res
      go_wp2
      refine bodyPost_ret (v := ndV 3 999999 [] none 0 0 none 0 0) (by simp [results, Tryd.results43, go_sem, *]) rfl ?_
      have HZ := HL.out
      have HN := HZ.lt
      have HO := HZ.old
      refine ⟨_, _, _, _, _, _, _, _, _, _, rfl, HZ.done (fun p hp => ?_) (by simp [World.setCell]), ?_, ?_, ?_⟩
      · have hpn : p.block ≠ w.heap.size := by omega
        rw [set_cellN hpn, set_cellN hpn, set_cellN hpn, set_cellN hpn, set_cellN hpn]
      · exact HSZ.out
      · exact (rdr_setN (rdr_setN (rdr_setN (rdr_setN (rdr_setN HR.out (by omega)) (by omega)) (by omega)) (by omega)) (by omega)).more (by omega)
      · exact grown_set_upN (grown_set_upN (grown_set_upN (grown_set_upN (grown_set_upN HG.out (by omega)) (by omega)) (by omega)) (by omega)) (by omega)
    ·
      have HL := Lib.hid (HL8.out.set 1 (.int .i64 (-999999)) (nn' := (-999999)) (tt' := []) rfl)
      have HR := Lib.hid (rdr_setN (o := 1) (u := .int .i64 (-999999)) (k := ws.heap.size) HR8.out (by omega))
      have HG := Lib.hid (grown_set_upN (o := 1) (u := .int .i64 (-999999)) (k := ws.heap.size) HG8.out (by omega))
      have HSZ : Hid (Nd.size (.mk 3 (-999999) [] [] []) ≤ 120 + 3 * ndBig d) := by show _ ≤ _; simp [Nd.size, Nd.sizes, ssize]
      obtain ⟨⟨f0, f1, f2, f3, f4⟩, f5, f6, f7, f8, f9⟩ := box_five HL.out.box
      obtain ⟨⟨r0, r1, r2, r3, r4⟩, r5, r6, r7, r8, r9⟩ := box_five HL.out.res
      go_wp2
      refine bodyPost_ret (v := ndV 3 (-999999) [] none 0 0 none 0 0) (by simp [results, Tryd.results43, go_sem, *]) rfl ?_
      have HZ := HL.out
      have HN := HZ.lt
      have HO := HZ.old
      refine ⟨_, _, _, _, _, _, _, _, _, _, rfl, HZ.done (fun p hp => ?_) (by simp [World.setCell]), ?_, ?_, ?_⟩
      · have hpn : p.block ≠ w.heap.size := by omega
        rw [set_cellN hpn, set_cellN hpn, set_cellN hpn, set_cellN hpn, set_cellN hpn]
      · exact HSZ.out
      · exact (rdr_setN (rdr_setN (rdr_setN (rdr_setN (rdr_setN HR.out (by omega)) (by omega)) (by omega)) (by omega)) (by omega)).more (by omega)
      · exact grown_set_upN (grown_set_upN (grown_set_upN (grown_set_upN (grown_set_upN HG.out (by omega)) (by omega)) (by omega)) (by omega)) (by omega)
    ·
      have HL := Lib.hid (HL8.out.set 1 (.int .i64 0) (nn' := 0) (tt' := []) rfl)
      have HR := Lib.hid (rdr_setN (o := 1) (u := .int .i64 0) (k := ws.heap.size) HR8.out (by omega))
      have HG := Lib.hid (grown_set_upN (o := 1) (u := .int .i64 0) (k := ws.heap.size) HG8.out (by omega))
      have HSZ : Hid (Nd.size (.mk 3 0 [] [] []) ≤ 120 + 3 * ndBig d) := by show _ ≤ _; simp [Nd.size, Nd.sizes, ssize]
      obtain ⟨⟨f0, f1, f2, f3, f4⟩, f5, f6, f7, f8, f9⟩ := box_five HL.out.box
      obtain ⟨⟨r0, r1, r2, r3, r4⟩, r5, r6, r7, r8, r9⟩ := box_five HL.out.res
      go_wp2
      refine bodyPost_ret (v := ndV 3 0 [] none 0 0 none 0 0) (by simp [results, Tryd.results43, go_sem, *]) rfl ?_
      have HZ := HL.out
      have HN := HZ.lt
      have HO := HZ.old
      refine ⟨_, _, _, _, _, _, _, _, _, _, rfl, HZ.done (fun p hp => ?_) (by simp [World.setCell]), ?_, ?_, ?_⟩
      · have hpn : p.block ≠ w.heap.size := by omega
        rw [set_cellN hpn, set_cellN hpn, set_cellN hpn, set_cellN hpn, set_cellN hpn]
      · exact HSZ.out
      · exact (rdr_setN (rdr_setN (rdr_setN (rdr_setN (rdr_setN HR.out (by omega)) (by omega)) (by omega)) (by omega)) (by omega)).more (by omega)
      · exact grown_set_upN (grown_set_upN (grown_set_upN (grown_set_upN (grown_set_upN HG.out (by omega)) (by omega)) (by omega)) (by omega)) (by omega)
  ·
    have HL : Hid (NSt w (ws.alloc (.cells #[.int .i64 4, .int .i64 0, .string ⟨#[]⟩, .slice none 0 0, .slice none 0 0] 26)) g ws.heap.size 4 0 [] none 0 [] none 0 [] []) := ⟨heap_alloc_new ws _, ownS_nil _ _, ownN_nil _ _, ⟨rfl, fun i r x h => by simp at h⟩, (fun j h => by simp [Value.ownBlock] at h), (heap_alloc_old ws _ hslt).trans hres, hslt, hlt⟩
    have HR := Lib.hid (HRs.out.keep ((Below.refl _ _).alloc (Nat.le_refl _) (.cells #[.int .i64 4, .int .i64 0, .string ⟨#[]⟩, .slice none 0 0, .slice none 0 0] 26)))
    have HG := Lib.hid (grown_alloc HGs.out (.cells #[.int .i64 4, .int .i64 0, .string ⟨#[]⟩, .slice none 0 0, .slice none 0 0] 26))
    have hbg : ws.heap.size ≠ g := by omega
    obtain ⟨⟨f0, f1, f2, f3, f4⟩, f5, f6, f7, f8, f9⟩ := box_five HL.out.box
    go_wp2_with fail
    refine (spec_pick B g _ 6 _ (HR.out.keep ((Below.refl _ _).alloc (Nat.le_refl _) _)) (by omega) (by omega) (by omega)).mono ?_
    rintro e w7 ⟨k7, rfl, hk7, hr7, hg7⟩
    have hlit : w7.heap[ws.heap.size + 1]? = some (.cells #[.string ⟨#[]⟩, .string ⟨#[97]⟩, .string ⟨#[97, 34, 98]⟩, .string ⟨#[92]⟩, .string ⟨#[120, 44, 32, 121]⟩, .string ⟨#[123, 125]⟩] 9 (0, 0)) := (hg7.block (ws.heap.size + 1) (by simp) (by intro e; injection e; omega)).trans (by have := heap_alloc_new (ws.alloc (.cells #[.int .i64 4, .int .i64 0, .string ⟨#[]⟩, .slice none 0 0, .slice none 0 0] 26)) (.cells #[.string ⟨#[]⟩, .string ⟨#[97]⟩, .string ⟨#[97, 34, 98]⟩, .string ⟨#[92]⟩, .string ⟨#[120, 44, 32, 121]⟩, .string ⟨#[123, 125]⟩] 9); simpa using this)
    obtain ⟨x7, hx7c, hx7⟩ := lit_str (k := k7) (B := 100) (n := 6) hlit (by decide +kernel) (by rcases hk7 with hk7 | hk7 <;> omega)
    have HL7 := Lib.hid ((HL.out.alloc _).grow hg7)
    have hs7 : ws.heap.size + 1 < w7.heap.size := by have := hg7.size; simp at this; omega
    obtain ⟨⟨f0, f1, f2, f3, f4⟩, f5, f6, f7, f8, f9⟩ := box_five HL7.out.box
    have HL := Lib.hid (HL7.out.set 2 (sv x7) (nn' := 0) (tt' := x7) rfl)
    have HR := Lib.hid (rdr_setN (o := 2) (u := sv x7) (k := ws.heap.size) hr7 (by omega))
    have HG := Lib.hid (grown_set_upN (o := 2) (u := sv x7) (k := ws.heap.size) (grown_trans (grown_alloc HG.out _) hg7) (by omega))
    clear hr7 hg7 hlit
    have HSZ : Hid (Nd.size (.mk 4 0 x7 [] []) ≤ 120 + 3 * ndBig d) := by show _ ≤ _; simp [Nd.size, Nd.sizes, ssize]; omega
    obtain ⟨⟨f0, f1, f2, f3, f4⟩, f5, f6, f7, f8, f9⟩ := box_five HL.out.box
    obtain ⟨⟨r0, r1, r2, r3, r4⟩, r5, r6, r7, r8, r9⟩ := box_five HL.out.res
    go_wp2
    refine bodyPost_ret (v := ndV 4 0 x7 none 0 0 none 0 0) (by simp [results, Tryd.results43, go_sem, *]) rfl ?_
    have HZ := HL.out
    have HN := HZ.lt
    have HO := HZ.old
    refine ⟨_, _, _, _, _, _, _, _, _, _, rfl, HZ.done (fun p hp => ?_) (by simp [World.setCell]), ?_, ?_, ?_⟩
    · have hpn : p.block ≠ w.heap.size := by omega
      rw [set_cellN hpn, set_cellN hpn, set_cellN hpn, set_cellN hpn, set_cellN hpn]
    · exact HSZ.out
    · exact (rdr_setN (rdr_setN (rdr_setN (rdr_setN (rdr_setN HR.out (by omega)) (by omega)) (by omega)) (by omega)) (by omega)).more (by omega)
    · exact grown_set_upN (grown_set_upN (grown_set_upN (grown_set_upN (grown_set_upN HG.out (by omega)) (by omega)) (by omega)) (by omega)) (by omega)
  ·
    have HL : Hid (NSt w (ws.alloc (.cells #[.int .i64 5, .int .i64 0, .string ⟨#[]⟩, .slice none 0 0, .slice none 0 0] 26)) g ws.heap.size 5 0 [] none 0 [] none 0 [] []) := ⟨heap_alloc_new ws _, ownS_nil _ _, ownN_nil _ _, ⟨rfl, fun i r x h => by simp at h⟩, (fun j h => by simp [Value.ownBlock] at h), (heap_alloc_old ws _ hslt).trans hres, hslt, hlt⟩
    have HR := Lib.hid (HRs.out.keep ((Below.refl _ _).alloc (Nat.le_refl _) (.cells #[.int .i64 5, .int .i64 0, .string ⟨#[]⟩, .slice none 0 0, .slice none 0 0] 26)))
    have HG := Lib.hid (grown_alloc HGs.out (.cells #[.int .i64 5, .int .i64 0, .string ⟨#[]⟩, .slice none 0 0, .slice none 0 0] 26))
    have hbg : ws.heap.size ≠ g := by omega
    obtain ⟨⟨f0, f1, f2, f3, f4⟩, f5, f6, f7, f8, f9⟩ := box_five HL.out.box
    go_wp2_with fail
    refine (spec_pick B g _ 4 _ HR.out (by omega) (by omega) (by omega)).mono ?_
    rintro e w7 ⟨k7, rfl, hk7, hr7, hg7⟩
    have HL7 := Lib.hid (HL.out.grow hg7)
    have HR7 := Lib.hid hr7
    have HG7 := Lib.hid (grown_trans HG.out hg7)
    have hk3 : k7 ≤ 3 := by omega
    clear hr7 hg7 hk7 f0 f1 f2 f3 f4 f5 f6 f7 f8 f9 HL HR HG
    go_wp2
    go_loopw [7] (fun i wr => ∃ (k : Nat) (An : Option Addr) (cn : Nat) (ns : List Tx) (Ai : Option Addr) (ci : Nat) (rs : List Raw) (xs : List Nd), i = .int .i64 (k : Int) ∧ k + xs.length ≤ 3 ∧ ns.length = 0 ∧ NSt w wr g ws.heap.size 5 0 [] An cn ns Ai ci rs xs ∧ SmN (ndBig d) ns xs ∧ Rdr wr B g (q + 10 + xs.length * (8 * ndCost d)) ∧ w.grownBy wr (some g)) (fun i _ => (intOf i).toNat)
    case atStart => exact ⟨k7, none, 0, [], none, 0, [], [], rfl, by simpa using hk3, rfl, HL7.out, ⟨by simp [ssize], fun x hx => by cases hx⟩, HR7.out.more (by simp), HG7.out⟩
    case round =>
      obtain ⟨k, An, cn, ns, Ai, ci, rs, xs, rfl, hkl, hnl, hl, hs, hr, hg⟩ := hrel
      have HL := Lib.hid hl
      have HS := Lib.hid hs
      have HR := Lib.hid hr
      have HG := Lib.hid hg
      have HNL := Lib.hid hnl
      have hrl3 : rs.length ≤ 3 := by have := hl.els.1; omega
      have hgr : g < wr.heap.size := by have := hl.size; omega
      clear hl hs hr hg hnl
      by_cases hk : 0 < k
      · have HC4 := Lib.hid (box_five HL.out.box).1.2.2.2.2
        have hne : ws.heap.size ≠ g := hbg
        have hxD : xs.length * (8 * ndCost d) ≤ 2 * (8 * ndCost d) := Nat.mul_le_mul_right _ (by omega)
        go_wp2_with fail
        refine wp_region_typed 7 (by kernel_rfl) (by kernel_rfl) (DWD wr B g (q + 10 + xs.length * (8 * ndCost d)) (ndCost d)) (Kp g) (fun i => ([tIs (.pointer (some ⟨ws.heap.size, 4, none⟩)), tIs (.slice Ai rs.length ci), tIs (.pointer (some ⟨g, 0, none⟩)), tIs (.int .i64 ((d : Int) + 2)), tIs (.int .i64 ((d : Int) + 1)), tNd g wr (ndBig d), tOneN g wr (ndBig d)] : List Ty).getD i tAny) ?hW ?hkeep ?hstep ?hfin
        case hkeep =>
          refine all_lt_succ (all_lt_succ (all_lt_succ (all_lt_succ (all_lt_succ (all_lt_succ (all_lt_succ all_lt_zero ?_) ?_) ?_) ?_) ?_) ?_) ?_
          · exact stays_is _
          · exact stays_is _
          · exact stays_is _
          · exact stays_is _
          · exact stays_is _
          · exact stays_tNd
          · exact stays_tOneN
        case hstep =>
          refine all_lt_succ (all_lt_succ (all_lt_succ (all_lt_succ (all_lt_succ (all_lt_succ (all_lt_succ all_lt_zero ?_) ?_) ?_) ?_) ?_) ?_) ?_
          · (intro o ho m a w1 hm hW hb hd K Q hK; obtain rfl := Option.some.inj ho; have e0 : a.tmps[6]?.getD undef = .pointer (some ⟨ws.heap.size, 0, none⟩) := (by rw [hb 6 (by decide +kernel)]; simp); go_simp; exact hK _ _ hW.same (kp_refl _) rfl)
          · (intro o ho m a w1 hm hW hb hd K Q hK; obtain rfl := Option.some.inj ho; have e1 := slotE (hd 0 (by kernel_rfl) 55 rfl); have hcw := kp_cell hW.2 hne HC4.out; go_simp; exact hK _ _ hW.same (kp_refl _) rfl)
          · (intro o ho m a w1 hm hW hb hd K Q hK; obtain rfl := Option.some.inj ho; have e0 : a.tmps[0]?.getD undef = (.pointer (some ⟨g, 0, none⟩)) := (by rw [hb 0 (by decide +kernel)]; simp); go_simp; exact hK _ _ hW.same (kp_refl _) rfl)
          · (intro o ho m a w1 hm hW hb hd K Q hK; obtain rfl := Option.some.inj ho; have e0 : a.tmps[1]?.getD undef = (.int .i64 ((d : Int) + 2)) := (by rw [hb 1 (by decide +kernel)]; simp); go_simp; exact hK _ _ hW.same (kp_refl _) rfl)
          · (intro o ho m a w1 hm hW hb hd K Q hK; obtain rfl := Option.some.inj ho; have e1 := slotE (hd 3 (by kernel_rfl) 58 rfl); go_simp; exact hK _ _ hW.same (kp_refl _) (by first | rfl | (show Value.int _ _ = Value.int _ _; congr 1; omega) | (show Value.int _ _ = Value.int _ _; congr 1; simp only [IntKind.wrap, IntKind.bits, IntKind.signed] <;> simp <;> omega)))
          · (intro o ho m a w1 hm hW hb hd K Q hK; obtain rfl := Option.some.inj ho; have e1 := slotE (hd 2 (by kernel_rfl) 57 rfl); have e2 := slotE (hd 4 (by kernel_rfl) 59 rfl); go_simp; have hmD := Nat.mul_le_mul_right (ndCost d) (show m ≤ 7 by omega); refine (IH.out B g _ w1 hW.1 (by omega)).mono ?_; rintro e w2 ⟨x9, k9, n9, t9, A9, l9, c9, B9, m9, d9, rfl, hin9, hs9, hr2, hg2⟩; exact hK _ _ ⟨hr2.more (by rw [Nat.succ_mul m]; omega), grown_trans hW.2 hg2⟩ hg2 ⟨x9, k9, n9, t9, A9, l9, c9, B9, m9, d9, rfl, InN.keep (fun _ _ => rfl) (fun j h => ⟨Nat.le_trans hW.2.size h.1, h.2⟩) _ _ hin9, hs9, hgr⟩)
          · (intro o ho m a w1 hm hW hb hd K Q hK; obtain rfl := Option.some.inj ho; obtain ⟨x9, k9, n9, t9, A9, l9, c9, B9, m9, d9, e1, hin9, hs9, hg9⟩ := (hd 5 (by kernel_rfl) 60 rfl); have e1 := slotE e1; go_simp; exact hK _ _ (hW.next ((Below.refl _ _).alloc (Nat.le_refl _) _)) (kp_below ((Below.refl _ _).alloc (Nat.le_refl _) _)) ⟨_, x9, k9, n9, t9, A9, l9, c9, B9, m9, d9, rfl, hW.new, heap_alloc_new w1 _, inN_kp hin9 (kp_below ((Below.refl _ _).alloc (Nat.le_refl _) _)) hg9, hs9, hg9⟩)
        case hW => exact ⟨(HR.out.keep (Below.refl _ _).drew).more (by omega), grown_drew (grown_refl _ _)⟩
        case hfin =>
          intro vs w3 hW hF
          simp only [putAll, hdst, List.getElem?_cons_succ, List.getElem?_cons_zero, Option.bind, List.drop_succ_cons, List.drop_zero, Act.put]
          have h1 : vs 1 = .slice Ai rs.length ci := hF 1 (by omega)
          obtain ⟨b2, x2, k2, n2, t2, A2, l2, c2, B2, m2, d2, h6, hbg2, hh2, hin2, hsz2, hgr2⟩ := hF 6 (by omega)
          rw [h1, h6]
          obtain ⟨hr3, hg3⟩ := hW
          have HL3 := Lib.hid (HL.out.grow hg3)
          have HR3 := Lib.hid hr3
          have HG3 := Lib.hid (grown_trans HG.out hg3)
          have hsz3 := HL3.out.size
          have HX0 := Lib.hid (HL.out.fresh hin2)
          have HSZ2 := Lib.hid hsz2
          clear hF h1 h6 hr3 hg3 hin2 hsz2
          go_simp
          go_wp2_with (at_builtin; refine app_node_at rfl _ _ rfl (ws.heap.size + 1) Ai ci rs ⟨k2, n2, t2, A2, l2, c2, B2, m2, d2⟩ (by rfl) HL3.out.iown b2 (by rfl) hh2 ?_ ?_ ?_; (focus omega); (focus omega); intro A6 c6 w6 ho6 hg6 hbk6; obtain ⟨⟨f0, f1, f2, f3, f4⟩, f5, f6, f7, f8, f9⟩ := box_five (HL3.out.boxI hg6))
          go_roundw
          case rel =>
            refine ⟨k - 1, An, cn, ns, A6, c6, rs ++ [⟨k2, n2, t2, A2, l2, c2, B2, m2, d2⟩], xs ++ [x2], by go_num, by simp; omega, HNL.out, HL3.out.appI ho6 hg6 hbk6 HX0.out _ (by simp), HS.out.snoc HSZ2.out, ?_, ?_⟩
            · exact (rdr_setN (HR3.out.frame hg6 (own_lt HL3.out.iown (by omega))) (by omega)).more (by rw [List.length_append, List.length_singleton, Nat.succ_mul xs.length]; omega)
            · exact grown_set_upN (grown_own HG3.out hg6 (by omega) (ownN_row HL3.out.iown)) (by omega)
          case measure => simp [intOf]; omega
      · have hk0 : k = 0 := by omega
        subst hk0
        have hnl3 : ns.length ≤ 3 := by have := HNL.out; omega
        have hxD : xs.length * (8 * ndCost d) ≤ 3 * (8 * ndCost d) := Nat.mul_le_mul_right _ (by omega)
        have HSZ : Hid (Nd.size (.mk 5 0 [] ns xs) ≤ 120 + 3 * ndBig d) := HS.out.size hnl3 (by omega)
        obtain ⟨⟨f0, f1, f2, f3, f4⟩, f5, f6, f7, f8, f9⟩ := box_five HL.out.box
        obtain ⟨⟨r0, r1, r2, r3, r4⟩, r5, r6, r7, r8, r9⟩ := box_five HL.out.res
        go_wp2
        refine bodyPost_ret (v := ndV 5 0 [] An ns.length cn Ai rs.length ci) (by simp [results, Tryd.results43, go_sem, *]) rfl ?_
        have HZ := HL.out
        have HN := HZ.lt
        have HO := HZ.old
        refine ⟨_, _, _, _, _, _, _, _, _, _, rfl, HZ.done (fun p hp => ?_) (by simp [World.setCell]), ?_, ?_, ?_⟩
        · have hpn : p.block ≠ w.heap.size := by omega
          rw [set_cellN hpn, set_cellN hpn, set_cellN hpn, set_cellN hpn, set_cellN hpn]
        · exact HSZ.out
        · exact (rdr_setN (rdr_setN (rdr_setN (rdr_setN (rdr_setN HR.out (by omega)) (by omega)) (by omega)) (by omega)) (by omega)).more (by omega)
        · exact grown_set_upN (grown_set_upN (grown_set_upN (grown_set_upN (grown_set_upN HG.out (by omega)) (by omega)) (by omega)) (by omega)) (by omega)
  ·
    have HL : Hid (NSt w (ws.alloc (.cells #[.int .i64 6, .int .i64 0, .string ⟨#[]⟩, .slice none 0 0, .slice none 0 0] 26)) g ws.heap.size 6 0 [] none 0 [] none 0 [] []) := ⟨heap_alloc_new ws _, ownS_nil _ _, ownN_nil _ _, ⟨rfl, fun i r x h => by simp at h⟩, (fun j h => by simp [Value.ownBlock] at h), (heap_alloc_old ws _ hslt).trans hres, hslt, hlt⟩
    have HR := Lib.hid (HRs.out.keep ((Below.refl _ _).alloc (Nat.le_refl _) (.cells #[.int .i64 6, .int .i64 0, .string ⟨#[]⟩, .slice none 0 0, .slice none 0 0] 26)))
    have HG := Lib.hid (grown_alloc HGs.out (.cells #[.int .i64 6, .int .i64 0, .string ⟨#[]⟩, .slice none 0 0, .slice none 0 0] 26))
    have hbg : ws.heap.size ≠ g := by omega
    obtain ⟨⟨f0, f1, f2, f3, f4⟩, f5, f6, f7, f8, f9⟩ := box_five HL.out.box
    go_wp2_with fail
    refine (spec_pick B g _ 4 _ HR.out (by omega) (by omega) (by omega)).mono ?_
    rintro e w7 ⟨k7, rfl, hk7, hr7, hg7⟩
    have HL7 := Lib.hid (HL.out.grow hg7)
    have HR7 := Lib.hid hr7
    have HG7 := Lib.hid (grown_trans HG.out hg7)
    have hk3 : k7 ≤ 3 := by omega
    clear hr7 hg7 hk7 f0 f1 f2 f3 f4 f5 f6 f7 f8 f9 HL HR HG
    go_wp2
    go_loopw [7] (fun i wr => ∃ (k : Nat) (An : Option Addr) (cn : Nat) (ns : List Tx) (Ai : Option Addr) (ci : Nat) (rs : List Raw) (xs : List Nd), i = .int .i64 (k : Int) ∧ k + xs.length ≤ 3 ∧ ns.length = xs.length ∧ NSt w wr g ws.heap.size 6 0 [] An cn ns Ai ci rs xs ∧ SmN (ndBig d) ns xs ∧ Rdr wr B g (q + 10 + xs.length * (8 * ndCost d)) ∧ w.grownBy wr (some g)) (fun i _ => (intOf i).toNat)
    case atStart => exact ⟨k7, none, 0, [], none, 0, [], [], rfl, by simpa using hk3, rfl, HL7.out, ⟨by simp [ssize], fun x hx => by cases hx⟩, HR7.out.more (by simp), HG7.out⟩
    case round =>
      obtain ⟨k, An, cn, ns, Ai, ci, rs, xs, rfl, hkl, hnl, hl, hs, hr, hg⟩ := hrel
      have HL := Lib.hid hl
      have HS := Lib.hid hs
      have HR := Lib.hid hr
      have HG := Lib.hid hg
      have HNL := Lib.hid hnl
      have hrl3 : rs.length ≤ 3 := by have := hl.els.1; omega
      have hgr : g < wr.heap.size := by have := hl.size; omega
      clear hl hs hr hg hnl
      by_cases hk : 0 < k
      · have HC4 := Lib.hid (box_five HL.out.box).1.2.2.2.2
        have hne : ws.heap.size ≠ g := hbg
        have hxD : xs.length * (8 * ndCost d) ≤ 2 * (8 * ndCost d) := Nat.mul_le_mul_right _ (by omega)
        go_wp2_with fail
        refine wp_region_typed 7 (by kernel_rfl) (by kernel_rfl) (DWD wr B g (q + 10 + xs.length * (8 * ndCost d)) (ndCost d)) (Kp g) (fun i => ([tIs (.pointer (some ⟨ws.heap.size, 4, none⟩)), tIs (.slice Ai rs.length ci), tIs (.pointer (some ⟨g, 0, none⟩)), tIs (.int .i64 ((d : Int) + 2)), tIs (.int .i64 ((d : Int) + 1)), tNd g wr (ndBig d), tOneN g wr (ndBig d)] : List Ty).getD i tAny) ?hW2 ?hkeep2 ?hstep2 ?hfin2
        case hkeep2 =>
          refine all_lt_succ (all_lt_succ (all_lt_succ (all_lt_succ (all_lt_succ (all_lt_succ (all_lt_succ all_lt_zero ?_) ?_) ?_) ?_) ?_) ?_) ?_
          · exact stays_is _
          · exact stays_is _
          · exact stays_is _
          · exact stays_is _
          · exact stays_is _
          · exact stays_tNd
          · exact stays_tOneN
        case hstep2 =>
          refine all_lt_succ (all_lt_succ (all_lt_succ (all_lt_succ (all_lt_succ (all_lt_succ (all_lt_succ all_lt_zero ?_) ?_) ?_) ?_) ?_) ?_) ?_
          · (intro o ho m a w1 hm hW hb hd K Q hK; obtain rfl := Option.some.inj ho; have e0 : a.tmps[6]?.getD undef = .pointer (some ⟨ws.heap.size, 0, none⟩) := (by rw [hb 6 (by decide +kernel)]; simp); go_simp; exact hK _ _ hW.same (kp_refl _) rfl)
          · (intro o ho m a w1 hm hW hb hd K Q hK; obtain rfl := Option.some.inj ho; have e1 := slotE (hd 0 (by kernel_rfl) 55 rfl); have hcw := kp_cell hW.2 hne HC4.out; go_simp; exact hK _ _ hW.same (kp_refl _) rfl)
          · (intro o ho m a w1 hm hW hb hd K Q hK; obtain rfl := Option.some.inj ho; have e0 : a.tmps[0]?.getD undef = (.pointer (some ⟨g, 0, none⟩)) := (by rw [hb 0 (by decide +kernel)]; simp); go_simp; exact hK _ _ hW.same (kp_refl _) rfl)
          · (intro o ho m a w1 hm hW hb hd K Q hK; obtain rfl := Option.some.inj ho; have e0 : a.tmps[1]?.getD undef = (.int .i64 ((d : Int) + 2)) := (by rw [hb 1 (by decide +kernel)]; simp); go_simp; exact hK _ _ hW.same (kp_refl _) rfl)
          · (intro o ho m a w1 hm hW hb hd K Q hK; obtain rfl := Option.some.inj ho; have e1 := slotE (hd 3 (by kernel_rfl) 58 rfl); go_simp; exact hK _ _ hW.same (kp_refl _) (by first | rfl | (show Value.int _ _ = Value.int _ _; congr 1; omega) | (show Value.int _ _ = Value.int _ _; congr 1; simp only [IntKind.wrap, IntKind.bits, IntKind.signed] <;> simp <;> omega)))
          · (intro o ho m a w1 hm hW hb hd K Q hK; obtain rfl := Option.some.inj ho; have e1 := slotE (hd 2 (by kernel_rfl) 57 rfl); have e2 := slotE (hd 4 (by kernel_rfl) 59 rfl); go_simp; have hmD := Nat.mul_le_mul_right (ndCost d) (show m ≤ 7 by omega); refine (IH.out B g _ w1 hW.1 (by omega)).mono ?_; rintro e w2 ⟨x9, k9, n9, t9, A9, l9, c9, B9, m9, d9, rfl, hin9, hs9, hr2, hg2⟩; exact hK _ _ ⟨hr2.more (by rw [Nat.succ_mul m]; omega), grown_trans hW.2 hg2⟩ hg2 ⟨x9, k9, n9, t9, A9, l9, c9, B9, m9, d9, rfl, InN.keep (fun _ _ => rfl) (fun j h => ⟨Nat.le_trans hW.2.size h.1, h.2⟩) _ _ hin9, hs9, hgr⟩)
          · (intro o ho m a w1 hm hW hb hd K Q hK; obtain rfl := Option.some.inj ho; obtain ⟨x9, k9, n9, t9, A9, l9, c9, B9, m9, d9, e1, hin9, hs9, hg9⟩ := (hd 5 (by kernel_rfl) 60 rfl); have e1 := slotE e1; go_simp; exact hK _ _ (hW.next ((Below.refl _ _).alloc (Nat.le_refl _) _)) (kp_below ((Below.refl _ _).alloc (Nat.le_refl _) _)) ⟨_, x9, k9, n9, t9, A9, l9, c9, B9, m9, d9, rfl, hW.new, heap_alloc_new w1 _, inN_kp hin9 (kp_below ((Below.refl _ _).alloc (Nat.le_refl _) _)) hg9, hs9, hg9⟩)
        case hW2 => exact ⟨(HR.out.keep (Below.refl _ _).drew).more (by omega), grown_drew (grown_refl _ _)⟩
        case hfin2 =>
          intro vs w3 hW hF
          simp only [putAll, hdst, List.getElem?_cons_succ, List.getElem?_cons_zero, Option.bind, List.drop_succ_cons, List.drop_zero, Act.put]
          have h1 : vs 1 = .slice Ai rs.length ci := hF 1 (by omega)
          obtain ⟨b2, x2, k2, n2, t2, A2, l2, c2, B2, m2, d2, h6, hbg2, hh2, hin2, hsz2, hgr2⟩ := hF 6 (by omega)
          rw [h1, h6]
          obtain ⟨hr3, hg3⟩ := hW
          have HL3 := Lib.hid (HL.out.grow hg3)
          have HR3 := Lib.hid hr3
          have HG3 := Lib.hid (grown_trans HG.out hg3)
          have hsz3 := HL3.out.size
          have HX0 := Lib.hid (HL.out.fresh hin2)
          have HSZ2 := Lib.hid hsz2
          clear hF h1 h6 hr3 hg3 hin2 hsz2
          go_simp
          go_upto_region 19 with (at_builtin; refine app_node_at rfl _ _ rfl (ws.heap.size + 1) Ai ci rs ⟨k2, n2, t2, A2, l2, c2, B2, m2, d2⟩ (by rfl) HL3.out.iown b2 (by rfl) hh2 ?_ ?_ ?_; (focus omega); (focus omega); intro A6 c6 w6 ho6 hg6 hbk6; obtain ⟨⟨f0, f1, f2, f3, f4⟩, f5, f6, f7, f8, f9⟩ := box_five (HL3.out.boxI hg6))
          have HL9 := Lib.hid (HL3.out.appI ho6 hg6 hbk6 HX0.out (.slice A6 (rs.length + 1) c6) (by simp))
          have HR9 := Lib.hid (rdr_setN (o := 4) (u := .slice A6 (rs.length + 1) c6) (k := ws.heap.size) (HR3.out.frame hg6 (own_lt HL3.out.iown (by omega))) (by omega))
          have HG9 := Lib.hid (grown_set_upN (o := 4) (u := .slice A6 (rs.length + 1) c6) (k := ws.heap.size) (grown_own HG3.out hg6 (by omega) (ownN_row HL3.out.iown)) (by omega))
          clear f0 f1 f2 f3 f4 f5 f6 f7 f8 f9
          generalize w6.setCell ⟨ws.heap.size, 4, none⟩ (.slice A6 (rs.length + 1) c6) = w9 at *
          obtain ⟨⟨f0, f1, f2, f3, f4⟩, f5, f6, f7, f8, f9⟩ := box_five HL9.out.box
          obtain rfl | ⟨y0, rfl⟩ | ⟨y0, y1, rfl⟩ := three_lists (ns := ns) (by have := HNL.out; omega)
          ·
            have hcv := bytes_strN (w9.alloc (.cells #[.int .u8 97] 5)) (c := 97) (heap_alloc_new w9 _)
            have HLA := Lib.hid ((HL9.out.alloc (.cells #[.int .u8 97] 5)).alloc (.cells #[.string ⟨#[97]⟩] 9))
            have HRA := Lib.hid ((HR9.out.keep ((Below.refl _ _).alloc (Nat.le_refl _) (.cells #[.int .u8 97] 5))).keep ((Below.refl _ _).alloc (Nat.le_refl _) (.cells #[.string ⟨#[97]⟩] 9)))
            have HGA := Lib.hid (grown_alloc (grown_alloc HG9.out (.cells #[.int .u8 97] 5)) (.cells #[.string ⟨#[97]⟩] 9))
            have hszA := HLA.out.size
            have hhA : ((w9.alloc (.cells #[.int .u8 97] 5)).alloc (.cells #[.string ⟨#[97]⟩] 9)).heap[w9.heap.size + 1]? = some (.cells #[sv [97]] 9 (0, 0)) := by have := heap_alloc_new (w9.alloc (.cells #[.int .u8 97] 5)) (.cells #[.string ⟨#[97]⟩] 9); simpa using this
            go_wp2_with (at_builtin; refine app_strb_at rfl _ _ rfl (ws.heap.size + 1) An cn [] [97] (by rfl) HLA.out.nown (w9.heap.size + 1) (by rfl) hhA ?_ ?_ ?_; (focus simp); (focus omega); intro A7 c7 w10 ho7 hg7 hbk7; obtain ⟨⟨e0, e1, e2, e3, e4⟩, e5, e6, e7, e8, e9⟩ := box_five (HLA.out.boxN hg7))
            go_roundw
            case rel =>
              refine ⟨k - 1, A7, c7, [] ++ [[97]], A6, c6, rs ++ [⟨k2, n2, t2, A2, l2, c2, B2, m2, d2⟩], xs ++ [x2], by go_num, by simp; omega, by rw [List.length_append, List.length_append, HNL.out]; rfl, HLA.out.appN ho7 hg7 hbk7 _ (by simp), (HS.out.snoc HSZ2.out).name (by simp), ?_, ?_⟩
              · exact (rdr_setN (HRA.out.frame hg7 (own_lt HLA.out.nown (by omega))) (by omega)).more (by rw [List.length_append, List.length_singleton, Nat.succ_mul xs.length]; omega)
              · exact grown_set_upN (grown_own HGA.out hg7 (by omega) (ownS_row HLA.out.nown)) (by omega)
            case measure => simp [intOf]; omega
          ·
            have hcv := bytes_strN (w9.alloc (.cells #[.int .u8 98] 5)) (c := 98) (heap_alloc_new w9 _)
            have HLA := Lib.hid ((HL9.out.alloc (.cells #[.int .u8 98] 5)).alloc (.cells #[.string ⟨#[98]⟩] 9))
            have HRA := Lib.hid ((HR9.out.keep ((Below.refl _ _).alloc (Nat.le_refl _) (.cells #[.int .u8 98] 5))).keep ((Below.refl _ _).alloc (Nat.le_refl _) (.cells #[.string ⟨#[98]⟩] 9)))
            have HGA := Lib.hid (grown_alloc (grown_alloc HG9.out (.cells #[.int .u8 98] 5)) (.cells #[.string ⟨#[98]⟩] 9))
            have hszA := HLA.out.size
            have hhA : ((w9.alloc (.cells #[.int .u8 98] 5)).alloc (.cells #[.string ⟨#[98]⟩] 9)).heap[w9.heap.size + 1]? = some (.cells #[sv [98]] 9 (0, 0)) := by have := heap_alloc_new (w9.alloc (.cells #[.int .u8 98] 5)) (.cells #[.string ⟨#[98]⟩] 9); simpa using this
            go_wp2_with (at_builtin; refine app_strb_at rfl _ _ rfl (ws.heap.size + 1) An cn [y0] [98] (by rfl) HLA.out.nown (w9.heap.size + 1) (by rfl) hhA ?_ ?_ ?_; (focus simp); (focus omega); intro A7 c7 w10 ho7 hg7 hbk7; obtain ⟨⟨e0, e1, e2, e3, e4⟩, e5, e6, e7, e8, e9⟩ := box_five (HLA.out.boxN hg7))
            go_roundw
            case rel =>
              refine ⟨k - 1, A7, c7, [y0] ++ [[98]], A6, c6, rs ++ [⟨k2, n2, t2, A2, l2, c2, B2, m2, d2⟩], xs ++ [x2], by go_num, by simp; omega, by rw [List.length_append, List.length_append, HNL.out]; rfl, HLA.out.appN ho7 hg7 hbk7 _ (by simp), (HS.out.snoc HSZ2.out).name (by simp), ?_, ?_⟩
              · exact (rdr_setN (HRA.out.frame hg7 (own_lt HLA.out.nown (by omega))) (by omega)).more (by rw [List.length_append, List.length_singleton, Nat.succ_mul xs.length]; omega)
              · exact grown_set_upN (grown_own HGA.out hg7 (by omega) (ownS_row HLA.out.nown)) (by omega)
            case measure => simp [intOf]; omega
          ·
            have hcv := bytes_strN (w9.alloc (.cells #[.int .u8 99] 5)) (c := 99) (heap_alloc_new w9 _)
            have HLA := Lib.hid ((HL9.out.alloc (.cells #[.int .u8 99] 5)).alloc (.cells #[.string ⟨#[99]⟩] 9))
            have HRA := Lib.hid ((HR9.out.keep ((Below.refl _ _).alloc (Nat.le_refl _) (.cells #[.int .u8 99] 5))).keep ((Below.refl _ _).alloc (Nat.le_refl _) (.cells #[.string ⟨#[99]⟩] 9)))
            have HGA := Lib.hid (grown_alloc (grown_alloc HG9.out (.cells #[.int .u8 99] 5)) (.cells #[.string ⟨#[99]⟩] 9))
            have hszA := HLA.out.size
            have hhA : ((w9.alloc (.cells #[.int .u8 99] 5)).alloc (.cells #[.string ⟨#[99]⟩] 9)).heap[w9.heap.size + 1]? = some (.cells #[sv [99]] 9 (0, 0)) := by have := heap_alloc_new (w9.alloc (.cells #[.int .u8 99] 5)) (.cells #[.string ⟨#[99]⟩] 9); simpa using this
            go_wp2_with (at_builtin; refine app_strb_at rfl _ _ rfl (ws.heap.size + 1) An cn [y0, y1] [99] (by rfl) HLA.out.nown (w9.heap.size + 1) (by rfl) hhA ?_ ?_ ?_; (focus simp); (focus omega); intro A7 c7 w10 ho7 hg7 hbk7; obtain ⟨⟨e0, e1, e2, e3, e4⟩, e5, e6, e7, e8, e9⟩ := box_five (HLA.out.boxN hg7))
            go_roundw
            case rel =>
              refine ⟨k - 1, A7, c7, [y0, y1] ++ [[99]], A6, c6, rs ++ [⟨k2, n2, t2, A2, l2, c2, B2, m2, d2⟩], xs ++ [x2], by go_num, by simp; omega, by rw [List.length_append, List.length_append, HNL.out]; rfl, HLA.out.appN ho7 hg7 hbk7 _ (by simp), (HS.out.snoc HSZ2.out).name (by simp), ?_, ?_⟩
              · exact (rdr_setN (HRA.out.frame hg7 (own_lt HLA.out.nown (by omega))) (by omega)).more (by rw [List.length_append, List.length_singleton, Nat.succ_mul xs.length]; omega)
              · exact grown_set_upN (grown_own HGA.out hg7 (by omega) (ownS_row HLA.out.nown)) (by omega)
            case measure => simp [intOf]; omega
      · have hk0 : k = 0 := by omega
        subst hk0
        have hnl3 : ns.length ≤ 3 := by have := HNL.out; omega
        have hxD : xs.length * (8 * ndCost d) ≤ 3 * (8 * ndCost d) := Nat.mul_le_mul_right _ (by omega)
        have HSZ : Hid (Nd.size (.mk 6 0 [] ns xs) ≤ 120 + 3 * ndBig d) := HS.out.size hnl3 (by omega)
        obtain ⟨⟨f0, f1, f2, f3, f4⟩, f5, f6, f7, f8, f9⟩ := box_five HL.out.box
        obtain ⟨⟨r0, r1, r2, r3, r4⟩, r5, r6, r7, r8, r9⟩ := box_five HL.out.res
        go_wp2
        refine bodyPost_ret (v := ndV 6 0 [] An ns.length cn Ai rs.length ci) (by simp [results, Tryd.results43, go_sem, *]) rfl ?_
        have HZ := HL.out
        have HN := HZ.lt
        have HO := HZ.old
        refine ⟨_, _, _, _, _, _, _, _, _, _, rfl, HZ.done (fun p hp => ?_) (by simp [World.setCell]), ?_, ?_, ?_⟩
        · have hpn : p.block ≠ w.heap.size := by omega
          rw [set_cellN hpn, set_cellN hpn, set_cellN hpn, set_cellN hpn, set_cellN hpn]
        · exact HSZ.out
        · exact (rdr_setN (rdr_setN (rdr_setN (rdr_setN (rdr_setN HR.out (by omega)) (by omega)) (by omega)) (by omega)) (by omega)).more (by omega)
        · exact grown_set_upN (grown_set_upN (grown_set_upN (grown_set_upN (grown_set_upN HG.out (by omega)) (by omega)) (by omega)) (by omega)) (by omega)
theorem spec_l20Node4 (B g q : Nat) (w : World) (h : Rdr w B g q) (hq : q ≤ 50000000) : Calls Tryd.prog 43 #[.pointer (some ⟨g, 0, none⟩), .int .i64 4] w (DrawnN w B g q 700000 10000) := by
  have h4 : DrC 3 := spec_l20NodeS 2 (by omega) (spec_l20NodeS 1 (by omega) (spec_l20NodeS 0 (by omega) spec_l20Node0))
  have hc : ndCost 3 = 672820 := rfl
  have hb : ndBig 3 = 4260 := rfl
  have h5 := h4 B g q w h (by rw [hc]; omega)
  rw [hc, hb] at h5
  refine h5.mono fun e w' ⟨x, k, n, t, An, ln, cn, Ai, li, ci, e1, h1, h2, h3, hg⟩ => ⟨x, k, n, t, An, ln, cn, Ai, li, ci, e1, h1, by omega, h3.more (by omega), hg⟩
end Go.Proofs.YtdmmnjnbjigdeaaDoor
