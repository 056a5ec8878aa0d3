import Derived.Test.YtmboieajfdkllaaGreatU01
import Derived.Test.YtmboieajfdkllaaGreatU05
import Derived.Test.YtmboieajfdkllaaGreatU02
import Derived.Test.YtmboieajfdkllaaGreatU03
set_option maxHeartbeats 4000000
set_option maxRecDepth 100000
open Go.Proofs.Tryz
namespace Go.Proofs.YtmboieajfdkllaaGreat
open Go.RowKit
theorem KJ {P : Program} {w : World} (base : Nat) (t ty e : TypeId) (i : TypeInfo) (size c' : Nat) (ht : P.underlying t = some (.slice e)) (hi : P.info? e = some i)
  (v : Value) (n : Nat) (xs : List Value) (hown : w.ownsRow base e size v n xs) : (Builtin.append_ #[t, t] ty #[v, .slice none 0 c']).run P w = .ok v w := by
 rcases hown.2 with ⟨rfl, rfl⟩ | ⟨g, cap, cur, rfl, _, _, hnc, _⟩
 ·simp [Builtin.append_, run_underlying ht, sizeOf, typeInfo, hi, Builtin.lenOf, Builtin.firstCells]
 simp [Builtin.append_, run_underlying ht, sizeOf, typeInfo, hi, Builtin.lenOf, Builtin.firstCells, hnc, storeCells]
theorem YB (ys : List Tx) : qS ys = ys.map sv := rfl
theorem vr {ops : Array Oper} {rest : List Oper} {o : Oper} {a : Act} {Q : Exit -> Act -> World -> Prop} {W : World} (hgd : o.guard = none) (s x : Operand)
  (ho : o.op = .call { callee := .builtin .append, args := #[s, x], argTypes := #[37, 37] }) (base : Nat) (A : Option Addr) (c : Nat) (xs : List Tx)
  (hs : a.eval s = .slice A xs.length c) (hown : OwnS W base A c xs) (A' : Option Addr) (c' : Nat) (ys : List Tx) (hx : a.eval x = .slice A' ys.length c') {S : Nat -> Prop} (hrd : RdIn W S A' (qS ys)) (hS : ∀ b, S b -> b < W.heap.size)
  (hlen : xs.length + ys.length <= 4294967296) (hbase : base <= W.heap.size)
  (h : ∀ A2 c2 w', OwnS w' base A2 c2 (xs ++ ys) -> W.grownBy w' (Value.ownBlock (.slice A xs.length c)) -> wpList Tryz.prog ops Q rest (a.put o.dst (.slice A2 (xs.length + ys.length) c2)) w') :
  wpList Tryz.prog ops Q (o :: rest) a W := by
 obtain ⟨i0, hi, hz0, hz1, hz2⟩ := info_parts Tryz.info_string
 cases A' with
 | none =>
  have hy : ys = [] := by
   refine Classical.byContradiction fun hne => ?_
   obtain ⟨b, o', e', _⟩ := hrd (by simpa [qS] using hne)
   cases e'
  subst hy
  have hr := KJ (P := Tryz.prog) base 37 o.type _ i0 1 c' underlying37 hi _ _ _ hown
  refine wpList_plain hgd fun _ hK => ?_
  unfold Oper.wp execOp
  simp only [ho, resolve, invoke, builtin, Sem.run_bind, Sem.run_pure, Result.andThen_ok, List.map_toArray, List.map_cons, List.map_nil, hs, hx, List.length_nil, hr]
  exact hK _ _ (h A c W (by simpa using hown) (xb _ _))
 | some ad =>
  refine VJ hgd s x ho underlying37 hi hz0 hz1 hz2 rfl (by decide) _ hs hown (some ad) ys.length c' (ys.map sv) hx (fun e => by cases e) (by simp) (hrd.rd hS) (fun u hu => by obtain ⟨y, _, rfl⟩ := List.mem_map.1 hu; rfl) (by unfold maxLen; omega) (by omega) hbase ?_
  intro v' w' ho' hg'
  obtain ⟨A2, c2, rfl, _, _⟩ := jf ho'
  refine h A2 c2 w' ?_ hg'
  unfold OwnS
  rw [List.length_append, List.map_append]
  exact ho'
open Go.Deep
def CdP (w : World) (d : Dk) (e : Ending) (w' : World) : Prop := ∃ (Ap : Option Addr) (cp : Nat) (rs : List Raw) (Ad : Option Addr) (cd : Nat) (fs : List FRaw), e = .returned (dkV Ap rs.length cp Ad fs.length cd) /\ PLx w' w.heap.size Ap cp rs d.parts /\ FLo w' w.heap.size Ad cd fs d.data /\ Below w.heap.size w w'
theorem Zn (xs : List Fd) (j : Nat) (h : j < xs.length) : xs.take (j + 1) = xs.take j ++ [xs[j]] := by rw [List.take_succ_eq_append_getElem h]
theorem xV {w : World} {b : Nat} {c0 c1 : Value} {T : TypeId} (h : w.heap[b]? = some (.cells #[c0, c1] T (0, 0))) (v : Value) : (w.setCell ⟨b, 1, none⟩ v).heap[b]? = some (.cells #[c0, v] T (0, 0)) := qP h
theorem Zo {w : World} {b : Nat} {c0 c1 c2 c3 : Value} {T : TypeId} (h : w.heap[b]? = some (.cells #[c0, c1, c2, c3] T (0, 0))) (v : Value) : (w.setCell ⟨b, 3, none⟩ v).heap[b]? = some (.cells #[c0, c1, c2, v] T (0, 0)) := qP h
theorem XR (d : Dk) (u : Value) (w : World) (hu : InD w (All w) d u) (hs : Dk.size d <= 1048576) : Calls Tryz.prog 42 #[u] w (CdP w d) := by
 obtain ⟨ps, xs⟩ := d
 obtain ⟨Ap, cp, Ad, cd, rfl, hp, hcp, hf, hcd⟩ := hu
 dsimp only at hp hcp hf hcd ⊢
 unfold Dk.size at hs
 dsimp only at hs
 obtain ⟨hB0, hX0, hY0⟩ := qE w (qx Ap ps.length cp Ad xs.length cd) #[.slice none 0 0, .slice none 0 0] 30 30
 have hs0 : ((w.alloc (.cells (qx Ap ps.length cp Ad xs.length cd) 30)).alloc (.cells #[.slice none 0 0, .slice none 0 0] 30)).heap.size = w.heap.size + 2 := by simp
 have HB0 := qb hB0
 have HX0 := qb hX0
 have HY0 := qb hY0
 have hs01 := Nat.le_of_eq hs0
 have hs02 := Nat.le_of_eq hs0.symm
 have HF := qb hf
 have hxl : xs.length <= 1048576 := by omega
 have hpl : ps.length <= 1048576 := by omega
 have HCP := qb (fun w2 (hb : Below w.heap.size w w2) => XY 1048576 ps Ap cp w2 (by omega) (Nat.le_refl _) (hp.now hb))
 have HFS : Hid (Fd.sizes xs <= 1048576) := by show _ <= _; omega
 clear hB0 hX0 hY0 hs0 hp hcp hf hcd hs
 go_enter func42, ntmps42
 go_upto_region 1 with fail
 generalize (w.alloc (.cells (qx Ap ps.length cp Ad xs.length cd) 30)).alloc (.cells #[.slice none 0 0, .slice none 0 0] 30) = w0 at *
 obtain ⟨x0, x1, -⟩ := qr HX0.out
 go_wp2_with fail
 refine (HCP.out w0 HB0.out).mono ?_
 rintro e w1 ⟨A5, c5, rs5, rfl, hp5, hb5⟩
 have HP5 := qb hp5
 have HX1 := qb (qi HX0.out hb5)
 have HY1 := qb (qi HY0.out hb5)
 have HB1 := qb (qa3 HB0.out hb5)
 have hz1 := hb5.size
 clear hb5 hp5 x0 x1
 obtain ⟨x0, x1, -⟩ := qr HX1.out
 go_upto_region 2 with fail
 have HZ2 := qb (heap_alloc_new w1 (.cells #[.slice A5 rs5.length c5, .slice none 0 0] 30))
 have hB2 := (Below.refl w1.heap.size w1).alloc (Nat.le_refl _) (.cells #[.slice A5 rs5.length c5, .slice none 0 0] 30)
 have HB2 := qb hB2
 have HX2 := qb (qi HX1.out hB2)
 have hsz2 : w1.heap.size + 1 <= (w1.alloc (.cells #[.slice A5 rs5.length c5, .slice none 0 0] 30)).heap.size := by simp
 clear hB2 x0 x1
 generalize w1.alloc (.cells #[.slice A5 rs5.length c5, .slice none 0 0] 30) = w2 at *
 obtain ⟨x0, x1, -⟩ := qr HX2.out
 go_wp2
 go_loopw [13] (fun i wr => ∃ (j : Nat) (A2 : Option Addr) (c2 : Nat) (fs : List FRaw), j <= xs.length /\ i = .int .i64 j /\ wr.heap[w1.heap.size]? = some (.cells #[.slice A5 rs5.length c5, .slice A2 fs.length c2] 30 (0, 0)) /\ FLo wr (w1.heap.size + 1) A2 c2 fs (xs.take j) /\ Below w1.heap.size w1 wr /\ w1.heap.size + 1 <= wr.heap.size) (fun i _ => xs.length - (intOf i).toNat)
 case atStart => exact ⟨0, none, 0, [], Nat.zero_le _, rfl, HZ2.out, FLo.nil _ _, HB2.out, hsz2⟩
 obtain ⟨j, A2, c2, fs, hj, rfl, hzr, hfl, hbr, hz⟩ := hrel
 have HZ := qb hzr
 have HL := qb hfl
 have HB := qb hbr
 have hfl2 : fs.length <= 1048576 := by have := hfl.len; simp at this; omega
 have HX := qb (qi HX1.out hbr)
 clear hzr hfl hbr x0 x1
 obtain ⟨x0, x1, -⟩ := qr HX.out
 by_cases hlt : j < xs.length
 case neg =>
  have HEE : Hid (xs.take j = xs) := by show _ = _; exact List.take_of_length_le (by omega)
  have HY := qb (qi HY1.out HB.out)
  obtain ⟨y0, y1, y2, y3⟩ := qr HY.out
  obtain ⟨z0, z1, -⟩ := qr HZ.out
  go_wp2
  refine bodyPost_ret (v := dkV A5 rs5.length c5 A2 fs.length c2) (by simp [results, results42, go_sem, *]) rfl ?_
  have hl := HL.out
  rw [HEE.out] at hl
  have HBw := qa3 HB1.out HB.out
  have hw2 : ∀ (v0 v1 : Value), Below w.heap.size w ((wr.setCell ⟨w.heap.size + 1, 0, none⟩ v0).setCell ⟨w.heap.size + 1, 1, none⟩ v1) := fun v0 v1 => (HBw.setCell (p := ⟨w.heap.size + 1, 0, none⟩) (by show w.heap.size <= w.heap.size + 1; omega) v0).setCell (p := ⟨w.heap.size + 1, 1, none⟩) (by show w.heap.size <= w.heap.size + 1; omega) v1
  have hk : ∀ (v0 v1 : Value) (j : Nat), w.heap.size + 2 <= j -> ((wr.setCell ⟨w.heap.size + 1, 0, none⟩ v0).setCell ⟨w.heap.size + 1, 1, none⟩ v1).heap[j]? = wr.heap[j]? := fun v0 v1 j hj => (Below.heap_setCell _ _ _ _ (by show j ≠ w.heap.size + 1; omega)).trans (Below.heap_setCell _ _ _ _ (by show j ≠ w.heap.size + 1; omega))
  exact ⟨A5, c5, rs5, A2, c2, fs, rfl, ((HP5.out.keep HB.out).at (fun j h1 h2 => hk _ _ j (by omega))).base (by omega), (hl.at (fun j h1 h2 => hk _ _ j (by omega))).base (by omega), hw2 _ _⟩
 have HBw := qb (qa3 HB1.out HB.out)
 obtain ⟨b1, o1, rfl, hb1, nn, tt, hh, is, Ai, ci, hxj, k1, k2, q0, q1, q2, q3⟩ := (HF.out.now HBw.out).at2 hlt
 have htk := Zn xs j hlt
 have hsm := Fd.size_mem (List.getElem_mem hlt)
 rw [hxj] at htk hsm
 have HTK := qb htk
 have hil : is.length <= 1048576 := by have := HFS.out; simp only [Fd.size] at hsm; omega
 have HBX := qb (heap_alloc_new wr (.cells (qC nn tt hh Ai is.length ci) 62))
 have hBA := (Below.refl wr.heap.size wr).alloc (Nat.le_refl _) (.cells (qC nn tt hh Ai is.length ci) 62)
 have HBA := qb hBA
 have HRI := qb (k1.keep (fun _ hp => hBA.cell hp) (fun _ h => Nat.lt_of_lt_of_le h hBA.size))
 have hza1 : wr.heap.size + 1 <= (wr.alloc (.cells (qC nn tt hh Ai is.length ci) 62)).heap.size := by simp
 have hza2 : (wr.alloc (.cells (qC nn tt hh Ai is.length ci) 62)).heap.size <= wr.heap.size + 1 := by simp
 clear hxj htk hsm k1 k2 hBA
 go_upto_region 5 with fail
 generalize wr.alloc (.cells (qC nn tt hh Ai is.length ci) 62) = wa at *
 have HE := qb (xF wa wa.heap.size (Nat.le_refl _))
 have hAE := (Below.refl wa.heap.size wa).alloc (Nat.le_refl _) (.cells #[] 9)
 have HAE := qb hAE
 have HRI2 := qb (HRI.out.keep (fun _ hp => hAE.cell hp) (fun _ h => Nat.lt_of_lt_of_le h hAE.size))
 have HXE := qb (qi HBX.out hAE)
 have hze1 : wa.heap.size + 1 <= (wa.alloc (.cells #[] 9)).heap.size := by simp
 clear q0 q1 q2 q3 hAE x0 x1
 obtain ⟨⟨f0, f1, f2, f3⟩, -⟩ := qh HBX.out
 obtain ⟨⟨p0, p1, p2, p3⟩, -⟩ := qh HXE.out
 go_upto_region 6 with (at_builtin; refine vr rfl _ _ rfl wa.heap.size (some ⟨wa.heap.size, 0, none⟩) 0 [] (by rfl) HE.out Ai ci is (by rfl) HRI2.out (fun _ h => h) ?_ ?_ ?_; (focus (simp; omega)); (focus omega); intro A7 c7 w7 ho7 hg7; obtain ⟨⟨r0, r1, r2, r3⟩, r4, r5, r6, r7⟩ := qh ((hg7.block wr.heap.size (by omega) (by simp [Value.ownBlock]; omega)).trans HXE.out))
 have HXs := qb (Zo ((hg7.block wr.heap.size (by omega) (by simp [Value.ownBlock]; omega)).trans HXE.out) (.slice A7 is.length c7))
 have hgz := hg7.size
 have HB8 := qb (((qa3 HBA.out HAE.out).trans (zo hg7 (by omega) (fun g e => by simp [Value.ownBlock] at e; omega))).setCell (p := ⟨wr.heap.size, 3, none⟩) (Nat.le_refl _) (.slice A7 is.length c7))
 have HO8 := qb (ownsRow_setCell_below ho7 (a := ⟨wr.heap.size, 3, none⟩) (by show wr.heap.size < wa.heap.size; omega) (.slice A7 is.length c7))
 clear ho7 hg7 f0 f1 f2 f3 p0 p1 p2 p3 r0 r1 r2 r3 r4 r5 r6 r7
 generalize w7.setCell ⟨wr.heap.size, 3, none⟩ (.slice A7 is.length c7) = w8 at *
 have hz8 := HB8.out.size
 obtain ⟨⟨f0, f1, f2, f3⟩, -⟩ := qh HXs.out
 have HZ8 := qb (qi HZ.out HB8.out)
 obtain ⟨z0, z1, -⟩ := qr HZ8.out
 have HBW := qb (HB8.out.alloc HB8.out.size (.cells #[sv nn, sv tt, .bool hh, .slice A7 is.length c7] 62))
 have HRW := qb (jJ (us := [⟨nn, tt, hh, A7, is.length, c7⟩]) (heap_alloc_new w8 (.cells #[sv nn, sv tt, .bool hh, .slice A7 is.length c7] 62)) rfl)
 have HL9 := qb (HL.out.keep HBW.out)
 have HZ9 := qb (qi HZ.out HBW.out)
 have HOW : Hid (OwF (w8.alloc (.cells #[sv nn, sv tt, .bool hh, .slice A7 is.length c7] 62)) wr.heap.size ⟨nn, tt, hh, is⟩ ⟨nn, tt, hh, A7, is.length, c7⟩) := ⟨rfl, rfl, rfl, rfl, zC (zt HO8.out (fun g hg => heap_alloc_old w8 _ (HO8.out.lt g hg).2)) (by omega)⟩
 have hw9 : w8.heap.size + 1 <= (w8.alloc (.cells #[sv nn, sv tt, .bool hh, .slice A7 is.length c7] 62)).heap.size := by simp
 go_wp2_with (at_builtin; refine jI rfl _ _ rfl (w1.heap.size + 1) A2 c2 fs [⟨nn, tt, hh, A7, is.length, c7⟩] (by rfl) HL9.out.own w8.heap.size 0 1 (by rfl) HRW.out (by simp) (by first | omega | (simp; done)) (by simp; omega) ?_; intro A3 c3 w3 ho3 hg3 hbk3; have HN3 := qb (kk hz HL.out HBW.out HOW.out ho3 hg3 hbk3); have HZ3 := qb ((hg3.block w1.heap.size (by omega) (fun e => by have := (HL9.out.own.lt _ e.symm).1; omega)).trans HZ9.out); have HB3 := qb (HB.out.trans ((HBW.out.mono HB.out.size).trans (zo hg3 (by omega) (fun g hg => by have := (HL9.out.own.lt g hg).1; omega)))); have HG3 := qb (Nat.le_trans (Nat.le_of_succ_le hw9) hg3.size); obtain ⟨z2, z3, z4, z5⟩ := qr HZ3.out; clear ho3 hg3 hbk3)
 go_roundw
 case rel =>
  have hq3 := HB3.out.size
  have hsz9 : w8.heap.size <= w3.heap.size := HG3.out
  exact ⟨j + 1, A3, c3, fs ++ [⟨nn, tt, hh, A7, is.length, c7⟩], by omega, by go_num, by simpa using xV HZ3.out _, by rw [HTK.out]; exact HN3.out.at (fun j h1 _ => Below.heap_setCell _ _ _ _ (by show j ≠ w1.heap.size; omega)), HB3.out.setCell (Nat.le_refl _) _, by simp [World.setCell]; omega⟩
 case measure => simp [intOf]; omega
namespace Fd
def ix (nm : Tx) (xs : List Fd) : Nat := xs.findIdx (fun f => f.name == nm)
def put (nm : Tx) (xs : List Fd) : List Fd := if ix nm xs < xs.length then xs else xs ++ [⟨nm, [], false, []⟩]
theorem ix_le (nm : Tx) (xs : List Fd) : ix nm xs <= xs.length := List.findIdx_le_length
theorem ix_step {nm : Tx} {xs : List Fd} {j : Nat} (h : j <= ix nm xs) (hj : j < xs.length) (hc : (xs[j].name == nm) = false) : j + 1 <= ix nm xs := by
 rcases Nat.lt_or_ge j (ix nm xs) with h1 | h1
 ·exact h1
 have e : ix nm xs = j := by omega
 have h2 : xs.findIdx (fun f => f.name == nm) < xs.length := by show ix nm xs < _; omega
 have h3 : ((xs[xs.findIdx (fun f => f.name == nm)]'h2).name == nm) = true := List.findIdx_getElem (w := h2)
 have h4 : xs[xs.findIdx (fun f => f.name == nm)]'h2 = xs[j] := by congr 1
 rw [h4, hc] at h3
 cases h3
theorem ix_found {nm : Tx} {xs : List Fd} {j : Nat} (h : j <= ix nm xs) (hj : j < xs.length) (hc : (xs[j].name == nm) = true) : ix nm xs = j := by
 rcases Nat.lt_or_ge j (ix nm xs) with h1 | h1
 ·have := List.not_of_lt_findIdx (p := fun f : Fd => f.name == nm) (xs := xs) h1
  rw [hc] at this
  simp at this
 omega
end Fd
theorem kV {w a b : World} {row : Option Nat} (h : w.grownBy a row) (k : Below w.heap.size a b) : w.grownBy b row := ⟨k.os.trans h.os, k.tape.trans h.tape, k.output.trans h.output, Nat.le_trans h.size k.size, fun j hj hn => (k.block j hj).trans (h.block j hj hn)⟩
theorem kW (nm : Tx) (xs : List Fd) (Ap Ad : Option Addr) (lp cp cd B : Nat) (fs : List FRaw) (w : World) (h : FLo w B Ad cd fs xs) (hB : B <= w.heap.size) (hl : xs.length <= 2000000) :
  Calls Tryz.prog 35 #[dkV Ap lp cp Ad fs.length cd, sv nm] w fun e w' => ∃ (Ad' : Option Addr) (cd' : Nat) (fs' : List FRaw), e = .returned (.tuple #[dkV Ap lp cp Ad' fs'.length cd', .int .i64 (Fd.ix nm xs : Nat)]) /\ FLo w' B Ad' cd' fs' (Fd.put nm xs) /\ w.grownBy w' (Value.ownBlock (.slice Ad fs.length cd)) := by
 have HL := qb h
 have hfl : fs.length <= xs.length := Nat.le_of_eq h.len
 have hfl2 : xs.length <= fs.length := Nat.le_of_eq h.len.symm
 obtain ⟨hB0, hX0, hY0⟩ := qE w (qx Ap lp cp Ad fs.length cd) #[.slice none 0 0, .slice none 0 0] 30 30
 have hs0 : ((w.alloc (.cells (qx Ap lp cp Ad fs.length cd) 30)).alloc (.cells #[.slice none 0 0, .slice none 0 0] 30)).heap.size = w.heap.size + 2 := by simp
 have HB0 := qb hB0
 have HX0 := qb hX0
 have HY0 := qb hY0
 have hs01 := Nat.le_of_eq hs0
 have hs02 := Nat.le_of_eq hs0.symm
 clear hB0 hX0 hY0 hs0 h
 go_enter func35, ntmps35
 go_upto_region 1 with fail
 generalize (w.alloc (.cells (qx Ap lp cp Ad fs.length cd) 30)).alloc (.cells #[.slice none 0 0, .slice none 0 0] 30) = w0 at *
 obtain ⟨x0, x1, x2, x3⟩ := qr HX0.out
 obtain ⟨y0, y1, y2, y3⟩ := qr HY0.out
 go_wp2
 go_loopw [6] (fun i wr => ∃ (j : Nat), j <= xs.length /\ i = .int .i64 j /\ j <= Fd.ix nm xs /\ wr = w0) (fun i _ => xs.length - (intOf i).toNat)
 case atStart => exact ⟨0, Nat.zero_le _, rfl, Nat.zero_le _, rfl⟩
 obtain ⟨j, hj, rfl, ha, rfl⟩ := hrel
 by_cases hlt : j < xs.length
 ·have hlt2 : j < fs.length := by omega
  obtain ⟨b1, o1, rfl, hb1, nn, tt, hh, is, Ai, ci, hxj, k1, k2, q0, q1, q2, q3⟩ := (HL.out.all.now HB0.out).at2 hlt
  have hst := Fd.ix_step ha hlt
  have hfo := Fd.ix_found ha hlt
  rw [hxj] at hst hfo
  clear k1 k2 hxj
  cases hc : (nn == nm)
  ·have HST := qb (hst hc)
   clear hst hfo
   go_wp2
   go_roundw
   case rel => exact ⟨j + 1, by omega, by go_num, HST.out, by trivial⟩
   case measure => simp [intOf]; omega
  have HF := qb (hfo hc)
  clear hst hfo
  go_wp2
  refine bodyPost_ret (v := .tuple #[dkV Ap lp cp (some ⟨b1, o1, none⟩) fs.length cd, .int .i64 (j : Nat)]) (by simp [results, results35, go_sem, *]) rfl ?_
  have hp : Fd.put nm xs = xs := by unfold Fd.put; rw [if_pos (by rw [HF.out]; exact hlt)]
  refine ⟨some ⟨b1, o1, none⟩, cd, fs, by rw [HF.out], ?_, kV (xb w _) (Below.setCell (Below.setCell HB0.out (p := ⟨w.heap.size + 1, 0, none⟩) (by show w.heap.size <= w.heap.size + 1; omega) _) (p := ⟨w.heap.size + 1, 1, none⟩) (by show w.heap.size <= w.heap.size + 1; omega) _)⟩
  rw [hp]
  exact HL.out.keep (Below.setCell (Below.setCell HB0.out (p := ⟨w.heap.size + 1, 0, none⟩) (by show w.heap.size <= w.heap.size + 1; omega) _) (p := ⟨w.heap.size + 1, 1, none⟩) (by show w.heap.size <= w.heap.size + 1; omega) _)
 have HEE : Hid (Fd.ix nm xs = xs.length) := by show _ = _; have := Fd.ix_le nm xs; omega
 have HPP : Hid (Fd.put nm xs = xs ++ [⟨nm, [], false, []⟩]) := by show _ = _; unfold Fd.put; rw [if_neg (by rw [HEE.out]; omega)]
 have HLr := qb (HL.out.keep HB0.out)
 have hWB := (Below.refl wr.heap.size wr).alloc (Nat.le_refl _) (.cells #[] 9)
 have HBW := qb (hWB.alloc hWB.size (.cells #[sv nm, .string ⟨#[]⟩, .bool false, .slice (some ⟨wr.heap.size, 0, none⟩) 0 0] 62))
 have hrw := jJ (us := [⟨nm, [], false, some ⟨wr.heap.size, 0, none⟩, 0, 0⟩]) (heap_alloc_new (wr.alloc (.cells #[] 9)) (.cells #[sv nm, .string ⟨#[]⟩, .bool false, .slice (some ⟨wr.heap.size, 0, none⟩) 0 0] 62)) rfl
 rw [show (wr.alloc (.cells #[] 9)).heap.size = wr.heap.size + 1 by simp] at hrw
 have HRW := qb hrw
 have HL9 := qb (HLr.out.keep HBW.out)
 have HX9 := qb (qi HX0.out HBW.out)
 have HY9 := qb (qi HY0.out HBW.out)
 have HOW : Hid (OwF (((wr.alloc (.cells #[] 9))).alloc (.cells #[sv nm, .string ⟨#[]⟩, .bool false, .slice (some ⟨wr.heap.size, 0, none⟩) 0 0] 62)) wr.heap.size ⟨nm, [], false, []⟩ ⟨nm, [], false, some ⟨wr.heap.size, 0, none⟩, 0, 0⟩) := ⟨rfl, rfl, rfl, rfl, kC (xF wr wr.heap.size (Nat.le_refl _)) ((Below.refl _ _).alloc (Nat.le_refl _) _)⟩
 have hw9 : wr.heap.size + 2 <= (((wr.alloc (.cells #[] 9))).alloc (.cells #[sv nm, .string ⟨#[]⟩, .bool false, .slice (some ⟨wr.heap.size, 0, none⟩) 0 0] 62)).heap.size := by simp
 have HLT := qb (fun g hg => (HL.out.own.lt g hg).2)
 clear hWB hrw
 go_upto_region 7 with (at_builtin; refine jI rfl _ _ rfl B Ad cd fs [⟨nm, [], false, some ⟨wr.heap.size, 0, none⟩, 0, 0⟩] (by rfl) HL9.out.own (wr.heap.size + 1) 0 1 (by rfl) HRW.out (by simp) (by first | omega | (simp; done)) (by simp; omega) ?_; intro A3 c3 w3 ho3 hg3 hbk3; have HN3 := qb (kk (by omega) HLr.out HBW.out HOW.out ho3 hg3 hbk3); have HX3 := qb ((hg3.block w.heap.size (by omega) (fun e => by have := HLT.out _ e.symm; omega)).trans HX9.out); have HY3 := qb ((hg3.block (w.heap.size + 1) (by omega) (fun e => by have := HLT.out _ e.symm; omega)).trans HY9.out); have HG3 := qb (jF (jg (qa3 HB0.out HBW.out) (Value.ownBlock (.slice Ad fs.length cd))) hg3); obtain ⟨z0, z1, z2, z3⟩ := qr HX3.out; clear ho3 hg3 hbk3)
 have HX4 := qb (xV HX3.out (.slice A3 (fs.length + 1) c3))
 have HY4 : Hid ((w3.setCell ⟨w.heap.size, 1, none⟩ (.slice A3 (fs.length + 1) c3)).heap[w.heap.size + 1]? = some (.cells #[.slice none 0 0, .slice none 0 0] 30 (0, 0))) := (Below.heap_setCell _ _ _ _ (by show w.heap.size + 1 ≠ w.heap.size; omega)).trans HY3.out
 have HG4 := qb (kV HG3.out (Below.setCell (Below.refl _ _) (p := ⟨w.heap.size, 1, none⟩) (Nat.le_refl _) (.slice A3 (fs.length + 1) c3)))
 have HN4 := qb (HN3.out.other (w' := w3.setCell ⟨w.heap.size, 1, none⟩ (.slice A3 (fs.length + 1) c3)) (fun j cs T hT hc => Below.heap_setCell _ _ _ _ (fun e => by
  have e2 : j = w.heap.size := e
  rw [e2, HX3.out] at hc
  injection hc with hc
  injection hc with _ hc
  rcases hT with rfl | rfl <;> exact absurd hc (by decide))))
 generalize w3.setCell ⟨w.heap.size, 1, none⟩ (.slice A3 (fs.length + 1) c3) = w4 at *
 obtain ⟨x0, x1, x2, x3⟩ := qr HX4.out
 obtain ⟨y0, y1, y2, y3⟩ := qr HY4.out
 go_region
 go_wp2
 refine bodyPost_ret (v := .tuple #[dkV Ap lp cp A3 (fs.length + 1) c3, .int .i64 (fs.length : Nat)]) (by simp [results, results35, go_sem, *]) rfl ⟨A3, c3, fs ++ [⟨nm, [], false, some ⟨wr.heap.size, 0, none⟩, 0, 0⟩], ?_, ?_, kV HG4.out (Below.setCell (Below.setCell (Below.refl _ _).drew (p := ⟨w.heap.size + 1, 0, none⟩) (by show w.heap.size <= w.heap.size + 1; omega) _) (p := ⟨w.heap.size + 1, 1, none⟩) (by show w.heap.size <= w.heap.size + 1; omega) _)⟩
 ·rw [HEE.out, <- HL.out.len, List.length_append]; rfl
 rw [HPP.out]
 refine HN4.out.other (fun j cs T hT hc => ?_)
 have hne : j ≠ w.heap.size + 1 := fun e2 => by
  rw [e2, HY4.out] at hc
  injection hc with hc
  injection hc with _ hc
  rcases hT with rfl | rfl <;> exact absurd hc (by decide)
 exact (Below.heap_setCell _ _ _ _ hne).trans (Below.heap_setCell _ _ _ _ hne)
theorem Kf (d : Dk) (u : Value) (w : World) (hu : InD w (All w) d u) (hs : Dk.size d <= 1048576) : Calls Tryz.prog 32 #[u] w (CdP w d) := by
 obtain ⟨ps, xs⟩ := d
 obtain ⟨Ap, cp, Ad, cd, rfl, hp, hcp, hf, hcd⟩ := hu
 dsimp only at hp hcp hf hcd ⊢
 unfold Dk.size at hs
 dsimp only at hs
 obtain ⟨hB0, hX0, hY0⟩ := qE w (qx Ap ps.length cp Ad xs.length cd) #[.slice none 0 0, .slice none 0 0] 30 30
 have hs0 : ((w.alloc (.cells (qx Ap ps.length cp Ad xs.length cd) 30)).alloc (.cells #[.slice none 0 0, .slice none 0 0] 30)).heap.size = w.heap.size + 2 := by simp
 have HB0 := qb hB0
 have HX0 := qb hX0
 have HY0 := qb hY0
 have hs01 := Nat.le_of_eq hs0
 have hs02 := Nat.le_of_eq hs0.symm
 have HF := qb hf
 have hxl : xs.length <= 1048576 := by omega
 have hpl : ps.length <= 1048576 := by omega
 have HCP := qb (fun w2 (hb : Below w.heap.size w w2) => Jt 1048576 ps Ap cp w2 (by omega) (Nat.le_refl _) (hp.now hb))
 have HFS : Hid (Fd.sizes xs <= 1048576) := by show _ <= _; omega
 clear hB0 hX0 hY0 hs0 hp hcp hf hcd hs
 go_enter func32, ntmps32
 go_upto_region 1 with fail
 generalize (w.alloc (.cells (qx Ap ps.length cp Ad xs.length cd) 30)).alloc (.cells #[.slice none 0 0, .slice none 0 0] 30) = w0 at *
 obtain ⟨x0, x1, -⟩ := qr HX0.out
 go_wp2_with fail
 refine (HCP.out w0 HB0.out).mono ?_
 rintro e w1 ⟨A5, c5, rs5, rfl, hp5, hb5⟩
 have HP5 := qb hp5
 have HX1 := qb (qi HX0.out hb5)
 have HY1 := qb (qi HY0.out hb5)
 have HB1 := qb (qa3 HB0.out hb5)
 have hz1 := hb5.size
 clear hb5 hp5 x0 x1
 obtain ⟨x0, x1, -⟩ := qr HX1.out
 go_upto_region 2 with fail
 have HZ2 := qb (heap_alloc_new w1 (.cells #[.slice A5 rs5.length c5, .slice none 0 0] 30))
 have hB2 := (Below.refl w1.heap.size w1).alloc (Nat.le_refl _) (.cells #[.slice A5 rs5.length c5, .slice none 0 0] 30)
 have HB2 := qb hB2
 have HX2 := qb (qi HX1.out hB2)
 have hsz2 : w1.heap.size + 1 <= (w1.alloc (.cells #[.slice A5 rs5.length c5, .slice none 0 0] 30)).heap.size := by simp
 clear hB2 x0 x1
 generalize w1.alloc (.cells #[.slice A5 rs5.length c5, .slice none 0 0] 30) = w2 at *
 obtain ⟨x0, x1, -⟩ := qr HX2.out
 go_wp2
 go_loopw [4] (fun i wr => ∃ (j : Nat) (A2 : Option Addr) (c2 : Nat) (fs : List FRaw), j <= xs.length /\ i = .int .i64 j /\ wr.heap[w1.heap.size]? = some (.cells #[.slice A5 rs5.length c5, .slice A2 fs.length c2] 30 (0, 0)) /\ FLo wr (w1.heap.size + 1) A2 c2 fs (xs.take j) /\ Below w1.heap.size w1 wr /\ w1.heap.size + 1 <= wr.heap.size) (fun i _ => xs.length - (intOf i).toNat)
 case atStart => exact ⟨0, none, 0, [], Nat.zero_le _, rfl, HZ2.out, FLo.nil _ _, HB2.out, hsz2⟩
 obtain ⟨j, A2, c2, fs, hj, rfl, hzr, hfl, hbr, hz⟩ := hrel
 have HZ := qb hzr
 have HL := qb hfl
 have HB := qb hbr
 have hfl2 : fs.length <= 1048576 := by have := hfl.len; simp at this; omega
 have HX := qb (qi HX1.out hbr)
 clear hzr hfl hbr x0 x1
 obtain ⟨x0, x1, -⟩ := qr HX.out
 by_cases hlt : j < xs.length
 case neg =>
  have HEE : Hid (xs.take j = xs) := by show _ = _; exact List.take_of_length_le (by omega)
  have HY := qb (qi HY1.out HB.out)
  obtain ⟨y0, y1, y2, y3⟩ := qr HY.out
  obtain ⟨z0, z1, -⟩ := qr HZ.out
  go_wp2
  refine bodyPost_ret (v := dkV A5 rs5.length c5 A2 fs.length c2) (by simp [results, results32, go_sem, *]) rfl ?_
  have hl := HL.out
  rw [HEE.out] at hl
  have HBw := qa3 HB1.out HB.out
  have hw2 : ∀ (v0 v1 : Value), Below w.heap.size w ((wr.setCell ⟨w.heap.size + 1, 0, none⟩ v0).setCell ⟨w.heap.size + 1, 1, none⟩ v1) := fun v0 v1 => (HBw.setCell (p := ⟨w.heap.size + 1, 0, none⟩) (by show w.heap.size <= w.heap.size + 1; omega) v0).setCell (p := ⟨w.heap.size + 1, 1, none⟩) (by show w.heap.size <= w.heap.size + 1; omega) v1
  have hk : ∀ (v0 v1 : Value) (j : Nat), w.heap.size + 2 <= j -> ((wr.setCell ⟨w.heap.size + 1, 0, none⟩ v0).setCell ⟨w.heap.size + 1, 1, none⟩ v1).heap[j]? = wr.heap[j]? := fun v0 v1 j hj => (Below.heap_setCell _ _ _ _ (by show j ≠ w.heap.size + 1; omega)).trans (Below.heap_setCell _ _ _ _ (by show j ≠ w.heap.size + 1; omega))
  exact ⟨A5, c5, rs5, A2, c2, fs, rfl, ((HP5.out.keep HB.out).at (fun j h1 h2 => hk _ _ j (by omega))).base (by omega), (hl.at (fun j h1 h2 => hk _ _ j (by omega))).base (by omega), hw2 _ _⟩
 have HBw := qb (qa3 HB1.out HB.out)
 obtain ⟨b1, o1, rfl, hb1, nn, tt, hh, is, Ai, ci, hxj, k1, k2, q0, q1, q2, q3⟩ := (HF.out.now HBw.out).at2 hlt
 have htk := Zn xs j hlt
 have hsm := Fd.size_mem (List.getElem_mem hlt)
 rw [hxj] at htk hsm
 have HTK := qb htk
 have hil : is.length <= 1048576 := by have := HFS.out; simp only [Fd.size] at hsm; omega
 have HBX := qb (heap_alloc_new wr (.cells (qC nn tt hh Ai is.length ci) 62))
 have hBA := (Below.refl wr.heap.size wr).alloc (Nat.le_refl _) (.cells (qC nn tt hh Ai is.length ci) 62)
 have HBA := qb hBA
 have HRI := qb (k1.keep (fun _ hp => hBA.cell hp) (fun _ h => Nat.lt_of_lt_of_le h hBA.size))
 have hza1 : wr.heap.size + 1 <= (wr.alloc (.cells (qC nn tt hh Ai is.length ci) 62)).heap.size := by simp
 have hza2 : (wr.alloc (.cells (qC nn tt hh Ai is.length ci) 62)).heap.size <= wr.heap.size + 1 := by simp
 clear hxj htk hsm k1 k2 hBA
 go_upto_region 6 with fail
 generalize wr.alloc (.cells (qC nn tt hh Ai is.length ci) 62) = wa at *
 have HE := qb (xF wa wa.heap.size (Nat.le_refl _))
 have hAE := (Below.refl wa.heap.size wa).alloc (Nat.le_refl _) (.cells #[] 9)
 have HAE := qb hAE
 have HRI2 := qb (HRI.out.keep (fun _ hp => hAE.cell hp) (fun _ h => Nat.lt_of_lt_of_le h hAE.size))
 have HXE := qb (qi HBX.out hAE)
 have hze1 : wa.heap.size + 1 <= (wa.alloc (.cells #[] 9)).heap.size := by simp
 clear q0 q1 q2 q3 hAE x0 x1
 obtain ⟨⟨f0, f1, f2, f3⟩, -⟩ := qh HBX.out
 obtain ⟨⟨p0, p1, p2, p3⟩, -⟩ := qh HXE.out
 go_upto_region 7 with (at_builtin; refine vr rfl _ _ rfl wa.heap.size (some ⟨wa.heap.size, 0, none⟩) 0 [] (by rfl) HE.out Ai ci is (by rfl) HRI2.out (fun _ h => h) ?_ ?_ ?_; (focus (simp; omega)); (focus omega); intro A7 c7 w7 ho7 hg7; obtain ⟨⟨r0, r1, r2, r3⟩, r4, r5, r6, r7⟩ := qh ((hg7.block wr.heap.size (by omega) (by simp [Value.ownBlock]; omega)).trans HXE.out))
 have HXs := qb (Zo ((hg7.block wr.heap.size (by omega) (by simp [Value.ownBlock]; omega)).trans HXE.out) (.slice A7 is.length c7))
 have hgz := hg7.size
 have HB8 := qb (((qa3 HBA.out HAE.out).trans (zo hg7 (by omega) (fun g e => by simp [Value.ownBlock] at e; omega))).setCell (p := ⟨wr.heap.size, 3, none⟩) (Nat.le_refl _) (.slice A7 is.length c7))
 have HO8 := qb (ownsRow_setCell_below ho7 (a := ⟨wr.heap.size, 3, none⟩) (by show wr.heap.size < wa.heap.size; omega) (.slice A7 is.length c7))
 clear ho7 hg7 f0 f1 f2 f3 p0 p1 p2 p3 r0 r1 r2 r3 r4 r5 r6 r7
 generalize w7.setCell ⟨wr.heap.size, 3, none⟩ (.slice A7 is.length c7) = w8 at *
 have hz8 := HB8.out.size
 obtain ⟨⟨f0, f1, f2, f3⟩, -⟩ := qh HXs.out
 have HZ8 := qb (qi HZ.out HB8.out)
 obtain ⟨z0, z1, -⟩ := qr HZ8.out
 have HBW := qb (HB8.out.alloc HB8.out.size (.cells #[sv nn, sv tt, .bool hh, .slice A7 is.length c7] 62))
 have HRW := qb (jJ (us := [⟨nn, tt, hh, A7, is.length, c7⟩]) (heap_alloc_new w8 (.cells #[sv nn, sv tt, .bool hh, .slice A7 is.length c7] 62)) rfl)
 have HL9 := qb (HL.out.keep HBW.out)
 have HZ9 := qb (qi HZ.out HBW.out)
 have HOW : Hid (OwF (w8.alloc (.cells #[sv nn, sv tt, .bool hh, .slice A7 is.length c7] 62)) wr.heap.size ⟨nn, tt, hh, is⟩ ⟨nn, tt, hh, A7, is.length, c7⟩) := ⟨rfl, rfl, rfl, rfl, zC (zt HO8.out (fun g hg => heap_alloc_old w8 _ (HO8.out.lt g hg).2)) (by omega)⟩
 have hw9 : w8.heap.size + 1 <= (w8.alloc (.cells #[sv nn, sv tt, .bool hh, .slice A7 is.length c7] 62)).heap.size := by simp
 go_wp2_with (at_builtin; refine jI rfl _ _ rfl (w1.heap.size + 1) A2 c2 fs [⟨nn, tt, hh, A7, is.length, c7⟩] (by rfl) HL9.out.own w8.heap.size 0 1 (by rfl) HRW.out (by simp) (by first | omega | (simp; done)) (by simp; omega) ?_; intro A3 c3 w3 ho3 hg3 hbk3; have HN3 := qb (kk hz HL.out HBW.out HOW.out ho3 hg3 hbk3); have HZ3 := qb ((hg3.block w1.heap.size (by omega) (fun e => by have := (HL9.out.own.lt _ e.symm).1; omega)).trans HZ9.out); have HB3 := qb (HB.out.trans ((HBW.out.mono HB.out.size).trans (zo hg3 (by omega) (fun g hg => by have := (HL9.out.own.lt g hg).1; omega)))); have HG3 := qb (Nat.le_trans (Nat.le_of_succ_le hw9) hg3.size); obtain ⟨z2, z3, z4, z5⟩ := qr HZ3.out; clear ho3 hg3 hbk3)
 go_roundw
 case rel =>
  have hq3 := HB3.out.size
  have hsz9 : w8.heap.size <= w3.heap.size := HG3.out
  exact ⟨j + 1, A3, c3, fs ++ [⟨nn, tt, hh, A7, is.length, c7⟩], by omega, by go_num, by simpa using xV HZ3.out _, by rw [HTK.out]; exact HN3.out.at (fun j h1 _ => Below.heap_setCell _ _ _ _ (by show j ≠ w1.heap.size; omega)), HB3.out.setCell (Nat.le_refl _) _, by simp [World.setCell]; omega⟩
 case measure => simp [intOf]; omega
end Go.Proofs.YtmboieajfdkllaaGreat
