/- Valid nodes: plain functions; the counts: walks. -/
import Derived.Test.YtdmmnjnbjigdeaaDoorNodeLawP
import Derived.Test.YtdmmnjnbjigdeaaDoorText
namespace Go.Proofs.YtdmmnjnbjigdeaaDoor
open Go.RowKit

def numOk (k n : Int) : Bool := if k = 2 then decide (n = 0 ∨ n = 1) else if k = 3 then decide (-999999 ≤ n ∧ n ≤ 999999) else decide (n = 0)
def txtOk (k : Int) (t : Tx) : Bool := if k = 4 then textOk t else t == []
def lenOk (k : Int) (ln m : Nat) : Bool := decide (m ≤ 5) && (!decide (k < 5) || decide (m = 0)) && decide (ln = if k = 6 then m else 0)
/-- the name at j is right, and none before it is the same -/
def nmAt (ns : List Tx) (j : Nat) : Bool := nameOk (ns.getD j []) && (ns.take j).all fun x => !(x == ns.getD j [])
def namesOk (ns : List Tx) : Bool := (List.range ns.length).all (nmAt ns)
theorem namesOk_no {ns : List Tx} {j : Nat} (h : j < ns.length) (hn : nmAt ns j = false) : namesOk ns = false := by
  rw [Bool.eq_false_iff]
  intro h2
  have := List.all_eq_true.1 h2 j (List.mem_range.2 h)
  rw [hn] at this
  cases this
theorem namesOk_yes {ns : List Tx} (h : ∀ j, j < ns.length → nmAt ns j = true) : namesOk ns = true := List.all_eq_true.2 fun j hj => h j (List.mem_range.1 hj)
def headOkN (k n : Int) (t : Tx) (ns : List Tx) (m : Nat) : Bool := decide (1 ≤ k ∧ k ≤ 6) && (numOk k n && (txtOk k t && (lenOk k ns.length m && namesOk ns)))
namespace Nd
mutual
/-- right, with at most so many within each other -/
def ok : Nd → Nat → Bool
  | mk k n t ns xs, d => decide (d ≠ 0) && (headOkN k n t ns xs.length && oks xs (d - 1))
def oks : List Nd → Nat → Bool
  | [], _ => true
  | x :: s, d => ok x d && oks s d
end
mutual
def count : Nd → Nat
  | mk _ _ _ _ xs => 1 + counts xs
def counts : List Nd → Nat
  | [] => 0
  | x :: t => count x + counts t
end
def valid (x : Nd) : Bool := ok x 4 && decide (count x ≤ 30)
theorem oks_step {xs : List Nd} {j d : Nat} {r : Bool} (h : oks (xs.drop j) d = r) (hj : j < xs.length) : (ok xs[j] d && oks (xs.drop (j + 1)) d) = r := by
  rw [drop_cons xs j hj, oks] at h; exact h
theorem oks_end {xs : List Nd} {j d : Nat} {r : Bool} (h : oks (xs.drop j) d = r) (hj : ¬ j < xs.length) : true = r := by
  rw [drop_nil xs j (by omega), oks] at h; exact h
theorem counts_take (xs : List Nd) (j : Nat) (h : j < xs.length) : counts (xs.take (j + 1)) = counts (xs.take j) + count xs[j] := by
  rw [take_snoc xs j h]
  generalize xs.take j = a
  generalize xs[j] = y
  induction a with
  | nil => simp [counts]
  | cons z s ih => simp only [List.cons_append, counts, ih]; omega
theorem counts_take_le (xs : List Nd) (j : Nat) : counts (xs.take j) ≤ counts xs := by
  induction xs generalizing j with
  | nil => simp [counts]
  | cons x t ih =>
    cases j with
    | zero => simp [counts]
    | succ j => have := ih j; simp only [List.take_succ_cons, counts]; omega
theorem count_size (x : Nd) : count x ≤ size x + 1 := by
  induction x using ind with
  | h k n t ns xs ih =>
    simp only [count, size]
    have : counts xs ≤ xs.length + sizes xs := by
      clear t ns
      induction xs with
      | nil => simp [counts]
      | cons x t ih2 =>
        have h1 := ih x (by simp)
        have h2 := ih2 fun y hy => ih y (List.mem_cons_of_mem _ hy)
        simp only [counts, sizes, List.length_cons]
        omega
    omega
end Nd

set_option maxRecDepth 100000 in
set_option maxHeartbeats 4000000 in
theorem impl_countNodes (a : Nd) : ∀ (u : Value) (w : World), InN w (All w) a u → Nd.size a ≤ 1048576 →
    Calls Tryd.prog 29 #[u] w fun e w' => e = .returned (.int .i64 (Nd.count a : Int)) ∧ Below w.heap.size w w' := by
  induction a using Nd.ind with
  | h k n t ns xs ih =>
  intro u w hu hsz
  obtain ⟨An, cn, Ai, ci, rfl, hrn, hcn, hci, hri⟩ := hu.parts
  have hcs := Nd.count_size (.mk k n t ns xs)
  simp only [Nd.size] at hsz hcs
  have HSZ := Lib.hid hsz
  have hB0 := (Below.refl w.heap.size w).alloc (Nat.le_refl _) (.cells (ndCells k n t An ns.length cn Ai xs.length ci) 26)
  have HB0 := Lib.hid hB0
  have HX0 := Lib.hid (heap_alloc_new w (.cells (ndCells k n t An ns.length cn Ai xs.length ci) 26))
  have HR0 := Lib.hid (hri.now hB0)
  have HC : Hid (Nd.count (.mk k n t ns xs) = 1 + Nd.counts xs) := by show _ = _; simp only [Nd.count]
  have hc31 : 1 + Nd.counts xs ≤ 2000000 := by rw [← HC.out]; omega
  have hxl : xs.length ≤ 1048576 := by omega
  have hzz : w.heap.size < (w.alloc (.cells (ndCells k n t An ns.length cn Ai xs.length ci) 26)).heap.size := by simp
  have IH := Lib.hid ih
  clear hu hrn hri hB0 ih hcs hsz
  go_enter Tryd.func29, Tryd.ntmps29
  go_wp2
  generalize w.alloc (.cells (ndCells k n t An ns.length cn Ai xs.length ci) 26) = w0 at *
  go_loopw [3, 9] (fun m i wr => ∃ (j : Nat), j ≤ xs.length ∧ i = .int .i64 j ∧ m = .int .i64 ((1 + Nd.counts (xs.take j) : Nat) : Int) ∧ Below w0.heap.size w0 wr) (fun _ i _ => xs.length - (intOf i).toNat)
  case atStart => exact ⟨0, Nat.zero_le _, rfl, rfl, Below.refl _ _⟩
  case round =>
    obtain ⟨j, hj, rfl, rfl, hb⟩ := hrel
    have HB := Lib.hid hb
    clear hb
    by_cases hlt : j < xs.length
    · obtain ⟨b1, o1, hA1, hb1, kd, nn, tt, An1, ln1, cn1, Ai1, li1, ci1, hin, c0, c1, c2, c3, c4⟩ := (HR0.out.now HB.out).at hlt
      have HA1 := Lib.hid ((Below.refl wr.heap.size wr).alloc (Nat.le_refl _) (.cells (ndCells kd nn tt An1 ln1 cn1 Ai1 li1 ci1) 26))
      have HCALL := Lib.hid (IH.out xs[j] (List.getElem_mem hlt) _ _ (hin.now HA1.out) (by have := Nd.size_mem (List.getElem_mem hlt); have := HSZ.out; omega))
      have HTK := Lib.hid (Nd.counts_take xs j hlt)
      have hle := Nd.counts_take_le xs (j + 1)
      rw [HTK.out] at hle
      have HB1 := Lib.hid (HB.out.trans (HA1.out.mono HB.out.size))
      generalize Nd.count xs[j] = cj at *
      generalize Nd.counts (xs.take j) = ct at *
      clear hin
      subst hA1
      go_wp2_with fail
      refine HCALL.out.mono ?_
      rintro e w2 ⟨rfl, hb⟩
      have HB2 := Lib.hid (HB1.out.trans (hb.mono HB1.out.size))
      clear hb
      go_wp2
      go_roundw
      case rel => exact ⟨j + 1, by omega, by go_num, by rw [HTK.out]; go_num, HB2.out⟩
      case measure => simp [intOf]; omega
    · have HT : Hid (xs.take j = xs) := by show _ = _; exact List.take_of_length_le (by omega)
      go_wp2
      go_ret
      exact ⟨ret_int (by rw [HC.out, HT.out]), HB0.out.trans (HB.out.mono HB0.out.size)⟩
set_option maxRecDepth 100000 in
set_option maxHeartbeats 4000000 in
theorem spec_l26Count (a : Nd) : ∀ (u : Value) (w : World), InN w (All w) a u → Nd.size a ≤ 1048576 →
    Calls Tryd.prog 41 #[u] w fun e w' => e = .returned (.int .i64 (Nd.count a : Int)) ∧ Below w.heap.size w w' := by
  induction a using Nd.ind with
  | h k n t ns xs ih =>
  intro u w hu hsz
  obtain ⟨An, cn, Ai, ci, rfl, hrn, hcn, hci, hri⟩ := hu.parts
  have hcs := Nd.count_size (.mk k n t ns xs)
  simp only [Nd.size] at hsz hcs
  have HSZ := Lib.hid hsz
  have hB0 := (Below.refl w.heap.size w).alloc (Nat.le_refl _) (.cells (ndCells k n t An ns.length cn Ai xs.length ci) 26)
  have HB0 := Lib.hid hB0
  have HX0 := Lib.hid (heap_alloc_new w (.cells (ndCells k n t An ns.length cn Ai xs.length ci) 26))
  have HR0 := Lib.hid (hri.now hB0)
  have HC : Hid (Nd.count (.mk k n t ns xs) = 1 + Nd.counts xs) := by show _ = _; simp only [Nd.count]
  have hc31 : 1 + Nd.counts xs ≤ 2000000 := by rw [← HC.out]; omega
  have hxl : xs.length ≤ 1048576 := by omega
  have hzz : w.heap.size < (w.alloc (.cells (ndCells k n t An ns.length cn Ai xs.length ci) 26)).heap.size := by simp
  have IH := Lib.hid ih
  clear hu hrn hri hB0 ih hcs hsz
  go_enter Tryd.func41, Tryd.ntmps41
  go_wp2
  generalize w.alloc (.cells (ndCells k n t An ns.length cn Ai xs.length ci) 26) = w0 at *
  go_loopw [3, 4] (fun m i wr => ∃ (j : Nat), j ≤ xs.length ∧ i = .int .i64 j ∧ m = .int .i64 ((1 + Nd.counts (xs.take j) : Nat) : Int) ∧ Below w0.heap.size w0 wr) (fun _ i _ => xs.length - (intOf i).toNat)
  case atStart => exact ⟨0, Nat.zero_le _, rfl, rfl, Below.refl _ _⟩
  case round =>
    obtain ⟨j, hj, rfl, rfl, hb⟩ := hrel
    have HB := Lib.hid hb
    obtain ⟨⟨x0, x1, x2, x3, x4⟩, -⟩ := box_five (bx_keep HX0.out hb)
    clear hb
    by_cases hlt : j < xs.length
    · obtain ⟨b1, o1, hA1, hb1, kd, nn, tt, An1, ln1, cn1, Ai1, li1, ci1, hin, c0, c1, c2, c3, c4⟩ := (HR0.out.now HB.out).at hlt
      have HCALL := Lib.hid (IH.out xs[j] (List.getElem_mem hlt) _ _ hin (by have := Nd.size_mem (List.getElem_mem hlt); have := HSZ.out; omega))
      have HTK := Lib.hid (Nd.counts_take xs j hlt)
      have hle := Nd.counts_take_le xs (j + 1)
      rw [HTK.out] at hle
      generalize Nd.count xs[j] = cj at *
      generalize Nd.counts (xs.take j) = ct at *
      clear hin
      subst hA1
      go_wp2_with fail
      refine HCALL.out.mono ?_
      rintro e w2 ⟨rfl, hb⟩
      have HB2 := Lib.hid (HB.out.trans (hb.mono HB.out.size))
      clear hb
      go_wp2
      go_roundw
      case rel => exact ⟨j + 1, by omega, by go_num, by rw [HTK.out]; go_num, HB2.out⟩
      case measure => simp [intOf]; omega
    · have HT : Hid (xs.take j = xs) := by show _ = _; exact List.take_of_length_le (by omega)
      go_wp2
      go_ret
      exact ⟨ret_int (by rw [HC.out, HT.out]), HB0.out.trans (HB.out.mono HB0.out.size)⟩
end Go.Proofs.YtdmmnjnbjigdeaaDoor
