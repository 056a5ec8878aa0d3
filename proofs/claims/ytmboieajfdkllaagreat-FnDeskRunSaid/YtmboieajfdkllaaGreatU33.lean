import Derived.Test.YtmboieajfdkllaaGreatU06
import Derived.Test.YtmboieajfdkllaaGreatU02
open Go.Proofs.Tryz
namespace Go.Proofs.YtmboieajfdkllaaGreat
open Go.RowKit Go.Deep
set_option maxRecDepth 100000 in
set_option maxHeartbeats 4000000 in
theorem vj (nm : Tx) (xs : List Fd) (Ap Ad : Option Addr) (lp cp cd B b : Nat) (fs : List FRaw) (w : World) (hb : w.heap[b]? = some (.cells #[.slice Ap lp cp, .slice Ad fs.length cd] 30 (0, 0))) (h : FLo w B Ad cd fs xs) (hB : B <= w.heap.size) (hl : xs.length <= 2000000) :
  Calls Tryz.prog 49 #[.pointer (some ⟨b, 0, none⟩), sv nm] w fun e w' => ∃ (g cd' : Nat) (fs' : List FRaw), e = .returned (.pointer (some ⟨g, Fd.ix nm xs * 4, none⟩)) /\ w'.heap[b]? = some (.cells #[.slice Ap lp cp, .slice (some ⟨g, 0, none⟩) fs'.length cd'] 30 (0, 0)) /\ FLo w' B (some ⟨g, 0, none⟩) cd' fs' (Fd.put nm xs) /\ Chg w w' (b :: bk Ad fs.length cd) := by
 have HL := qb h
 have HX := qb hb
 have hfl : fs.length <= xs.length := Nat.le_of_eq h.len
 have hfl2 : xs.length <= fs.length := Nat.le_of_eq h.len.symm
 have hbz : b < w.heap.size := lt_of_block hb
 clear h hb
 obtain ⟨x0, x1, x2, x3⟩ := qr HX.out
 go_enter func49, ntmps49
 go_wp2
 go_loopw [11] (fun i wr => ∃ (j : Nat), j <= xs.length /\ i = .int .i64 j /\ j <= Fd.ix nm xs /\ wr = w) (fun i _ => xs.length - (intOf i).toNat)
 case atStart => exact ⟨0, Nat.zero_le _, rfl, Nat.zero_le _, rfl⟩
 obtain ⟨j, hj, rfl, ha, rfl⟩ := hrel
 by_cases hlt : j < xs.length
 ·have hlt2 : j < fs.length := by omega
  obtain ⟨g, rfl, -, -⟩ := zJ HL.out.own (by omega)
  obtain ⟨b1, o1, hA, hb1, nn, tt, hh, is, Ai, ci, hxj, k1, k2, q0, q1, q2, q3⟩ := HL.out.all.at2 hlt
  injection hA with hA
  injection hA with hA1 hA2
  subst hA1; subst hA2
  rw [Nat.zero_add] at q0
  have hst := Fd.ix_step ha hlt
  have hfo := Fd.ix_found ha hlt
  rw [hxj] at hst hfo
  clear k1 k2 hxj
  cases hc : (nn == nm)
  ·have HST := qb (hst hc)
   clear hst hfo
   go_wp2
   go_roundw
   case rel => exact ⟨j + 1, by omega, by go_num, HST.out, by trivial⟩
   case measure => simp [intOf]; omega
  have HF := qb (hfo hc)
  clear hst hfo
  go_wp2
  have hp : Fd.put nm xs = xs := by unfold Fd.put; rw [if_pos (by rw [HF.out]; exact hlt)]
  refine bodyPost_ret (v := .pointer (some ⟨g, j * 4, none⟩)) (by simp [results, results49, go_sem, *]) rfl ⟨g, by rw [HF.out], cd, fs, HX.out, by rw [hp]; exact HL.out, Chg.refl _ _⟩
 have HEE : Hid (Fd.ix nm xs = xs.length) := by show _ = _; have := Fd.ix_le nm xs; omega
 have HPP : Hid (Fd.put nm xs = xs ++ [⟨nm, [], false, []⟩]) := by show _ = _; unfold Fd.put; rw [if_neg (by rw [HEE.out]; omega)]
 have HBW := qb ((Below.refl wr.heap.size wr).alloc (Nat.le_refl _) (.cells #[sv nm, .string ⟨#[]⟩, .bool false, .slice none 0 0] 62))
 have HRW := qb (jJ (us := [⟨nm, [], false, none, 0, 0⟩]) (heap_alloc_new wr (.cells #[sv nm, .string ⟨#[]⟩, .bool false, .slice none 0 0] 62)) rfl)
 have HL9 := qb (HL.out.keep HBW.out)
 have HX9 := qb (qi HX.out HBW.out)
 have HOW : Hid (OwF (wr.alloc (.cells #[sv nm, .string ⟨#[]⟩, .bool false, .slice none 0 0] 62)) wr.heap.size ⟨nm, [], false, []⟩ ⟨nm, [], false, none, 0, 0⟩) := ⟨rfl, rfl, rfl, rfl, rfl, .inl ⟨rfl, rfl⟩⟩
 have hw9 : wr.heap.size + 1 <= (wr.alloc (.cells #[sv nm, .string ⟨#[]⟩, .bool false, .slice none 0 0] 62)).heap.size := by simp
 have HNB : Hid (∀ g, Value.ownBlock (.slice Ad fs.length cd) = some g -> g ≠ b) := fun g hg e => by
  obtain ⟨cs, hc⟩ := HL.out.ty.1 g hg
  rw [e, HX.out] at hc
  injection hc with hc
  injection hc with _ hc
  exact absurd hc (by decide)
 go_upto_region 8 with (at_builtin; refine jI rfl _ _ rfl B Ad cd fs [⟨nm, [], false, none, 0, 0⟩] (by rfl) HL9.out.own wr.heap.size 0 1 (by rfl) HRW.out (by simp) (by first | omega | (simp; done)) (by simp; omega) ?_; intro A3 c3 w3 ho3 hg3 hbk3; have HN3 := qb (kk hB HL.out HBW.out HOW.out ho3 hg3 hbk3); have HX3 := qb ((hg3.block b (by omega) (fun e => HNB.out _ e.symm rfl)).trans HX9.out); have HG3 := qb (jF (jg HBW.out (Value.ownBlock (.slice Ad fs.length cd))) hg3); obtain ⟨z0, z1, z2, z3⟩ := qr HX3.out; clear ho3 hg3 hbk3)
 obtain ⟨g, rfl, -, -⟩ := zJ HN3.out.own (by simp)
 have HX4 := qb (xV HX3.out (.slice (some ⟨g, 0, none⟩) (fs.length + 1) c3))
 have HN4 := qb (HN3.out.other (w' := w3.setCell ⟨b, 1, none⟩ (.slice (some ⟨g, 0, none⟩) (fs.length + 1) c3)) (fun j cs T hT hc => Below.heap_setCell _ _ _ _ (fun e => by
  have e2 : j = b := e
  rw [e2, HX3.out] at hc
  injection hc with hc
  injection hc with _ hc
  rcases hT with rfl | rfl <;> exact absurd hc (by decide))))
 have HC4 := qb ((Chg.of_grown (L := b :: bk Ad fs.length cd) HG3.out (fun g hg => List.mem_cons_of_mem _ (qO.2 hg))).trans (Chg.setCell (p := ⟨b, 1, none⟩) (u := .slice (some ⟨g, 0, none⟩) (fs.length + 1) c3) (L := [b]) (by simp)) (fun x hx => .inl (by simp at hx; simp [hx])))
 generalize w3.setCell ⟨b, 1, none⟩ (.slice (some ⟨g, 0, none⟩) (fs.length + 1) c3) = w4 at *
 obtain ⟨y0, y1, y2, y3⟩ := qr HX4.out
 go_region
 go_wp2
 refine bodyPost_ret (v := .pointer (some ⟨g, fs.length * 4, none⟩)) (by simp [results, results49, go_sem, *]) rfl ⟨g, c3, fs ++ [⟨nm, [], false, none, 0, 0⟩], by rw [HEE.out, <- HL.out.len], by rw [List.length_append]; exact HX4.out, by rw [HPP.out]; exact HN4.out.other (fun _ _ _ _ _ => rfl), HC4.out.drew⟩
end Go.Proofs.YtmboieajfdkllaaGreat
