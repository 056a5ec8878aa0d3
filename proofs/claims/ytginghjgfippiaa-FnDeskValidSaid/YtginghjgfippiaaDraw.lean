/- The reader from which the laws' inputs are drawn: l20Open, pick, odd: walks. What is drawn is not told, only its bounds. -/
import Derived.Test.YtginghjgfippiaaPairS
import Derived.Deep.QuietTactic
import Derived.BigQuiet
import Derived.Laws.BitsAllLaws
import Derived.Laws.BitsLemmas
namespace Go.Proofs.Ytginghjgfippiaa
open Go.RowKit

/-- the cells of bytes -/
def bcells (bs : Tx) : List Value := bs.map fun b => .int .u8 (b.toNat : Int)

/-- The reader of a code lies in block g: the code's bytes lie below block B; g is one of the call's own; at most q numbers were drawn. -/
def Rdr (w : World) (B g q : Nat) : Prop :=
  ∃ (bs : Tx) (A : Option Addr) (c p : Nat), B ≤ g ∧ p ≤ q ∧ bs.length ≤ 2000 ∧ w.heap[g]? = some (.cells #[.slice A bs.length c, .int .i64 (p : Int)] 68 (0, 0)) ∧ Rd w B A (bcells bs)

theorem Rdr.lt {w : World} {B g q : Nat} (h : Rdr w B g q) : g < w.heap.size := by
  obtain ⟨bs, A, c, p, _, _, _, hh, _⟩ := h
  rcases Nat.lt_or_ge g w.heap.size with hlt | hge
  · exact hlt
  · rw [Array.getElem?_eq_none hge] at hh; cases hh
theorem Rdr.more {w : World} {B g q q' : Nat} (h : Rdr w B g q) (hq : q ≤ q') : Rdr w B g q' := by
  obtain ⟨bs, A, c, p, h1, h2, h3⟩ := h
  exact ⟨bs, A, c, p, h1, by omega, h3⟩
theorem Rdr.keep {w w' : World} {B g q : Nat} (h : Rdr w B g q) (hb : Below w.heap.size w w') : Rdr w' B g q := by
  have hlt := h.lt
  obtain ⟨bs, A, c, p, h1, h2, h3, h4, h5⟩ := h
  exact ⟨bs, A, c, p, h1, h2, h3, (hb.block g hlt).trans h4, h5.keep fun x hx => hb.cell (by omega)⟩
/-- a row of the call's own was written, or new blocks were made -/
theorem Rdr.frame {w w' : World} {B g q : Nat} {row : Option Nat} (h : Rdr w B g q) (hg : w.grownBy w' row) (hr : ∀ k, row = some k → g < k) : Rdr w' B g q := by
  have hlt := h.lt
  obtain ⟨bs, A, c, p, h1, h2, h3, h4, h5⟩ := h
  have hne : ∀ k, k ≤ g → some k ≠ row := fun k hk e => by have := hr k e.symm; omega
  exact ⟨bs, A, c, p, h1, h2, h3, (hg.block g hlt (hne g (Nat.le_refl _))).trans h4, h5.keep fun x hx => World.cell?_of_block (hg.block _ (by omega) (hne _ (by omega)))⟩

theorem grown_cells {W w1 : World} {g : Nat} (h : W.grownBy w1 (some g)) : ∀ b o, b < W.heap.size → b ≠ g → w1.cell? ⟨b, o, none⟩ = W.cell? ⟨b, o, none⟩ :=
  fun b o hb hn => World.cell?_of_block (a := ⟨b, o, none⟩) (h.block b hb (fun e => hn (by injection e)))
theorem grown_frozen {W w1 : World} {g : Nat} (h : W.grownBy w1 (some g)) : ∀ b o, b < W.heap.size → b ≠ g → w1.frozen? ⟨b, o, none⟩ = W.frozen? ⟨b, o, none⟩ :=
  fun b o hb hn => World.frozen?_of_block (a := ⟨b, o, none⟩) (h.block b hb (fun e => hn (by injection e)))

theorem grown_set_new {a b : World} {row : Option Nat} (h : a.grownBy b row) {p : Addr} (hp : a.heap.size ≤ p.block) (u : Value) : a.grownBy (b.setCell p u) row :=
  ⟨h.os, h.tape, h.output, by simpa [World.setCell] using h.size, fun i hi hn => (Below.heap_setCell _ _ _ _ (by omega)).trans (h.block i hi hn)⟩
theorem grown_alloc {a b : World} {row : Option Nat} (h : a.grownBy b row) (o : Obj) : a.grownBy (b.alloc o) row := grown_trans h (World.grownBy_alloc b o row)
theorem grown_drew {a b : World} {row : Option Nat} (h : a.grownBy b row) : a.grownBy b.drew row := ⟨h.os, h.tape, h.output, h.size, h.block⟩

/-! ### literals in memory: their elements are short texts -/
/-- n pairs of texts of at most B bytes -/
def okP : Nat → Nat → List Value → Bool
  | _, 0, [] => true
  | B, n + 1, .string a :: .string b :: t => decide (a.size ≤ B) && decide (b.size ≤ B) && okP B n t
  | _, _, _ => false
theorem okP_get : ∀ (B n : Nat) (cs : List Value), okP B n cs = true → ∀ k, k < n → ∃ a b : Tx, cs[k * 2]? = some (sv a) ∧ cs[k * 2 + 1]? = some (sv b) ∧ a.length ≤ B ∧ b.length ≤ B
  | B, n + 1, .string a :: .string b :: t, h, 0, _ => by
    simp only [okP, Bool.and_eq_true, decide_eq_true_eq] at h
    obtain ⟨x, rfl⟩ := tx_of a
    obtain ⟨y, rfl⟩ := tx_of b
    exact ⟨x, y, rfl, rfl, h.1.1, h.1.2⟩
  | B, n + 1, .string a :: .string b :: t, h, k + 1, hk => by
    simp only [okP, Bool.and_eq_true] at h
    obtain ⟨x, y, h1, h2, h3⟩ := okP_get B n t h.2 k (by omega)
    refine ⟨x, y, ?_, ?_, h3⟩
    · rw [show (k + 1) * 2 = k * 2 + 1 + 1 by omega]; simpa using h1
    · rw [show (k + 1) * 2 + 1 = k * 2 + 1 + 1 + 1 by omega]; simpa using h2
  | _, 0, _, _, k, hk => absurd hk (by omega)
theorem lit_pair {w : World} {g k B n : Nat} {cs : Array Value} {t : TypeId} {fr : Nat × Nat} (h : w.heap[g]? = some (.cells cs t fr)) (hok : okP B n cs.toList = true) (hk : k < n) :
    ∃ a b : Tx, w.cell? ⟨g, k * 2, none⟩ = some (sv a) ∧ w.cell? ⟨g, k * 2 + 1, none⟩ = some (sv b) ∧ a.length ≤ B ∧ b.length ≤ B := by
  obtain ⟨a, b, h1, h2, h3⟩ := okP_get B n _ hok k hk
  refine ⟨a, b, ?_, ?_, h3⟩
  · rw [cell_of_row w g _ cs t fr h, ← Array.getElem?_toList]; exact h1
  · rw [cell_of_row w g _ cs t fr h, ← Array.getElem?_toList]; exact h2
/-- n texts of at most B bytes -/
def okS : Nat → Nat → List Value → Bool
  | _, 0, [] => true
  | B, n + 1, .string a :: t => decide (a.size ≤ B) && okS B n t
  | _, _, _ => false
theorem okS_get : ∀ (B n : Nat) (cs : List Value), okS B n cs = true → ∀ k, k < n → ∃ a : Tx, cs[k]? = some (sv a) ∧ a.length ≤ B
  | B, n + 1, .string a :: t, h, 0, _ => by
    simp only [okS, Bool.and_eq_true, decide_eq_true_eq] at h
    obtain ⟨x, rfl⟩ := tx_of a
    exact ⟨x, rfl, h.1⟩
  | B, n + 1, .string a :: t, h, k + 1, hk => by
    simp only [okS, Bool.and_eq_true] at h
    obtain ⟨x, h1, h3⟩ := okS_get B n t h.2 k (by omega)
    exact ⟨x, by simpa using h1, h3⟩
  | _, 0, _, _, k, hk => absurd hk (by omega)
theorem lit_str {w : World} {g k B n : Nat} {cs : Array Value} {t : TypeId} {fr : Nat × Nat} (h : w.heap[g]? = some (.cells cs t fr)) (hok : okS B n cs.toList = true) (hk : k < n) :
    ∃ a : Tx, w.cell? ⟨g, k, none⟩ = some (sv a) ∧ a.length ≤ B := by
  obtain ⟨a, h1, h3⟩ := okS_get B n _ hok k hk
  refine ⟨a, ?_, h3⟩
  rw [cell_of_row w g _ cs t fr h, ← Array.getElem?_toList]; exact h1

/-- the call drew a number below n, or 0 -/
def Picked (w : World) (B g q : Nat) (n : Int) (e : Ending) (w' : World) : Prop :=
  ∃ k : Nat, e = .returned (.int .i64 (k : Int)) ∧ ((k : Int) < n ∨ k = 0) ∧ Rdr w' B g (q + 1) ∧ w.grownBy w' (some g)
/-- the call drew a yes or a no -/
def Odd (w : World) (B g q : Nat) (e : Ending) (w' : World) : Prop :=
  ∃ b : Bool, e = .returned (.bool b) ∧ Rdr w' B g (q + 1) ∧ w.grownBy w' (some g)

theorem i64_xor_bd (a b : Nat) (ha : a < 4611686018427387904) (hb : b < 4611686018427387904) : ∃ x : Nat, x < 4611686018427387904 ∧ bits .xor .i64 (a : Int) (b : Int) = (x : Int) := by
  have hx : a ^^^ b < 2 ^ 62 := Nat.xor_lt_two_pow (by omega) (by omega)
  refine ⟨a ^^^ b, by omega, ?_⟩
  show IntKind.i64.wrap ((BitVec.ofInt 64 (a : Int) ^^^ BitVec.ofInt 64 (b : Int)).toNat : Int) = _
  have e1 : (BitVec.ofInt 64 (a : Int)).toNat = a := by rw [BitVec.ofInt_natCast, BitVec.toNat_ofNat]; exact Nat.mod_eq_of_lt (by omega)
  have e2 : (BitVec.ofInt 64 (b : Int)).toNat = b := by rw [BitVec.ofInt_natCast, BitVec.toNat_ofNat]; exact Nat.mod_eq_of_lt (by omega)
  rw [BitVec.toNat_xor, e1, e2, IntKind.wrap_i64]
  omega

set_option maxRecDepth 100000 in
set_option maxHeartbeats 2000000 in
theorem spec_pick (B g q : Nat) (n : Int) (w : World) (h : Rdr w B g q) (hq : q ≤ 1000000000) (hn : n ≤ 1000000000) (hn0 : -1000000000 ≤ n) :
    Calls Try.prog 42 #[.pointer (some ⟨g, 0, none⟩), .int .i64 n] w (Picked w B g q n) := by
  obtain ⟨bs, A, c, p, hBg, hpq, hbs, hheap, hrd⟩ := h
  have hc0 : w.cell? ⟨g, 0, none⟩ = some (.slice A bs.length c) := by rw [cell_of_row w g 0 _ _ _ hheap]; rfl
  have hc1 : w.cell? ⟨g, 1, none⟩ = some (.int .i64 (p : Int)) := by rw [cell_of_row w g 1 _ _ _ hheap]; rfl
  have hf1 : w.frozen? ⟨g, 1, none⟩ = false := frozen_of_row w g 1 _ _ hheap
  have hR : Hid (Rdr (w.setCell ⟨g, 1, none⟩ (.int .i64 ((p : Int) + 1))) B g (q + 1)) := by
    refine ⟨bs, A, c, p + 1, hBg, by omega, hbs, ?_, hrd.keep fun x hx => World.cell?_setCell_other _ _ _ _ (fun e => by rw [← e] at hx; exact absurd hx (by show ¬ g < B; omega))⟩
    rw [heap_setCell_same w g 1 _ _ _ hheap]
    rfl
  have hG : Hid (w.grownBy (w.setCell ⟨g, 1, none⟩ (.int .i64 ((p : Int) + 1))) (some g)) := grown_set (grown_refl _ _) _ _
  have HD := Lib.hid hrd
  have HH := Lib.hid hheap
  clear hrd hheap
  by_cases h1 : n < 1
  · go_enter Try.func42, Try.ntmps42
    go_wp2
    go_ret
    exact ⟨0, rfl, .inr rfl, hR.out, hG.out⟩
  by_cases h2 : bs.length = 0
  · have h2' : ((bs.length : Int) == 0) = true := by simp [h2]
    clear h2
    go_enter Try.func42, Try.ntmps42
    go_wp2
    go_ret
    exact ⟨0, rfl, .inr rfl, hR.out, hG.out⟩
  have h2'' : 0 < bs.length := Nat.pos_of_ne_zero h2
  have h2' : ((bs.length : Int) == 0) = false := by rw [beq_eq_false_iff_ne]; omega
  clear h2
  have hne : bcells bs ≠ [] := by intro e; have := congrArg List.length e; rw [bcells, List.length_map] at this; simp at this; rw [this] at h2''; simp at h2''
  obtain ⟨b, o, rfl, hbB, hcell⟩ := HD.out hne
  have hat : ∀ i (hi : i < bs.length), (w.setCell ⟨g, 1, none⟩ (.int .i64 ((p : Int) + 1))).cell? ⟨b, o + i, none⟩ = some (.int .u8 (bs[i].toNat : Int)) := fun i hi => by
    rw [World.cell?_setCell_other _ _ _ _ (by intro e; have := congrArg Addr.block e; simp at this; omega)]
    exact hcell i _ (by simp [bcells, List.getElem?_eq_getElem hi])
  have HAT := Lib.hid hat
  clear hat hcell hne
  by_cases h3 : p < bs.length
  · have hx := HAT.out p h3
    have hb8 := byte_lt bs[p]
    go_enter Try.func42, Try.ntmps42
    go_wp2
    go_ret
    refine ⟨bs[p].toNat % n.toNat, ?_, .inl ?_, hR.out, hG.out⟩
    · refine ret_int ?_
      have : (n.toNat : Int) = n := by omega
      rw [Int.natCast_emod, this]
    · have : (n.toNat : Int) = n := by omega
      rw [Int.natCast_emod, this]
      exact Int.emod_lt_of_pos _ (by omega)
  · obtain ⟨i1, hi1⟩ : ∃ i1, p % bs.length = i1 := ⟨_, rfl⟩
    obtain ⟨i2, hi2⟩ : ∃ i2, (p * 7 + 3) % bs.length = i2 := ⟨_, rfl⟩
    obtain ⟨i3, hi3⟩ : ∃ i3, p / bs.length = i3 := ⟨_, rfl⟩
    have l1 : i1 < bs.length := by rw [← hi1]; exact Nat.mod_lt _ h2''
    have l2 : i2 < bs.length := by rw [← hi2]; exact Nat.mod_lt _ h2''
    have l3 : i3 ≤ 1000000000 := by rw [← hi3]; exact Nat.le_trans (Nat.div_le_self _ _) (by omega)
    have e1 : (p : Int) % (bs.length : Int) = (i1 : Int) := by rw [← hi1, Int.natCast_emod]
    have e2 : ((p : Int) * 7 + 3) % (bs.length : Int) = (i2 : Int) := by rw [← hi2, Int.natCast_emod]; simp
    have e3 : (p : Int) / (bs.length : Int) = (i3 : Int) := by rw [← hi3, Int.natCast_ediv]
    clear hi1 hi2 hi3
    have hx1 := HAT.out _ l1
    have hx2 := HAT.out _ l2
    have b1 := byte_lt bs[i1]
    have b2 := byte_lt bs[i2]
    go_enter Try.func42, Try.ntmps42
    go_wp2_with fail
    go_quiet (fail)
    go_wp2_with fail
    go_ret
    obtain ⟨x, hx, hxb⟩ : ∃ x : Nat, (bs[i1].toNat : Int) * 131 + (bs[i2].toNat : Int) * 1117 + (p : Int) * 29 + (i3 : Int) * 53 = (x : Int) ∧ x < 4611686018427387904 := ⟨bs[i1].toNat * 131 + bs[i2].toNat * 1117 + p * 29 + i3 * 53, by omega, by omega⟩
    have hx64 : (x : Int) / 64 = ((x / 64 : Nat) : Int) := by omega
    obtain ⟨y, hy, hyx⟩ := i64_xor_bd x (x / 64) hxb (by omega)
    rw [hx, hx64, hyx]
    have hnn : (n.toNat : Int) = n := by omega
    have hb0 := below_drewN (Below.refl (w.setCell ⟨g, 1, none⟩ (.int .i64 ((p : Int) + 1))).heap.size (w.setCell ⟨g, 1, none⟩ (.int .i64 ((p : Int) + 1)))) nq
    refine ⟨y % n.toNat, ?_, .inl ?_, hR.out.keep hb0, grown_below hG.out hb0⟩
    · refine ret_int ?_
      rw [Int.natCast_emod, hnn]
      exact Int.tmod_eq_emod_of_nonneg (by omega)
    · rw [Int.natCast_emod, hnn]
      exact Int.emod_lt_of_pos _ (by omega)

set_option maxRecDepth 100000 in
set_option maxHeartbeats 1000000 in
theorem spec_odd (B g q : Nat) (n : Int) (w : World) (h : Rdr w B g q) (hq : q ≤ 1000000000) (hn : n ≤ 1000000000) (hn0 : -1000000000 ≤ n) :
    Calls Try.prog 41 #[.pointer (some ⟨g, 0, none⟩), .int .i64 n] w (Odd w B g q) := by
  by_cases h1 : 0 < n
  · have HP := Lib.hid (spec_pick B g q n w h hq hn hn0)
    go_enter Try.func41, Try.ntmps41
    go_wp2_with fail
    refine HP.out.mono ?_
    rintro e w1 ⟨k, rfl, _, hr, hg⟩
    have HR := Lib.hid hr
    have HG := Lib.hid hg
    clear hr hg
    go_wp2
    go_ret
    exact ⟨_, rfl, HR.out, HG.out⟩
  · have HR := Lib.hid (h.more (Nat.le_succ q))
    clear h
    go_enter Try.func41, Try.ntmps41
    go_wp2
    go_ret
    exact ⟨_, rfl, HR.out, grown_refl _ _⟩

set_option maxRecDepth 100000 in
set_option maxHeartbeats 1000000 in
theorem spec_l20Open (bs : Tx) (B : Nat) (A : Option Addr) (c : Nat) (w : World) (hr : Rd w B A (bcells bs)) (hB : B ≤ w.heap.size) (hc : bs.length ≤ c) (hm : bs.length ≤ 1048576) :
    Calls Try.prog 22 #[.slice A bs.length c] w fun e w' => e = .returned (.pointer (some ⟨w.heap.size, 0, none⟩)) ∧ Rdr w' B w.heap.size 0 ∧ Below w.heap.size w w' := by
  have hnew : ∀ (m cc : Nat), Rdr (w.alloc (.cells #[.slice A m cc, .int .i64 0] 68)) B w.heap.size 0 ∨ ¬ (m ≤ bs.length ∧ m ≤ 2000) := fun m cc => by
    by_cases hle : m ≤ bs.length ∧ m ≤ 2000
    · left
      have hlen : (bs.take m).length = m := by rw [List.length_take]; omega
      refine ⟨bs.take m, A, cc, 0, hB, Nat.le_refl _, by omega, ?_, ?_⟩
      · rw [hlen]; exact heap_alloc_new w _
      · have hf : Rd w B A (bcells (bs.take m)) := by
          refine Rd.front (ys := bcells (bs.drop m)) ?_
          have : bcells (bs.take m) ++ bcells (bs.drop m) = bcells bs := by simp only [bcells]; rw [← List.map_append, List.take_append_drop]
          rw [this]; exact hr
        exact hf.keep fun x hx => World.cell?_alloc_lt w _ x (by omega)
    · exact .inr hle
  have HN := Lib.hid hnew
  clear hnew hr
  by_cases h2 : 2000 < bs.length
  · go_enter Try.func22, Try.ntmps22
    go_wp2
    go_ret
    refine ⟨rfl, ?_, (Below.refl _ _).alloc (Nat.le_refl _) _⟩
    rcases HN.out 2000 c with h | h
    · exact h
    · exact absurd ⟨by omega, by omega⟩ h
  · go_enter Try.func22, Try.ntmps22
    go_wp2
    go_ret
    refine ⟨rfl, ?_, (Below.refl _ _).alloc (Nat.le_refl _) _⟩
    rcases HN.out bs.length c with h | h
    · exact h
    · exact absurd ⟨by omega, by omega⟩ h

end Go.Proofs.Ytginghjgfippiaa
