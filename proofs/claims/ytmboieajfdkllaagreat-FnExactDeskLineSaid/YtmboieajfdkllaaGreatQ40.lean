/- For all desks and lines: DeskLine of the program returns what the reference's returns, leaves the desk alone, and its result shares no memory with it: the law FnExactDeskLine holds. No conditions. -/
import Derived.Test.YtmboieajfdkllaaGreatQ36
import Derived.Deep.SlicePairs
import Derived.Deep.Fields
import Derived.Test.YtmboieajfdkllaaGreatQ01
import Derived.ProofKit
import Derived.Test.YtmboieajfdkllaaGreatQ34
import Derived.Test.YtmboieajfdkllaaGreatQ35
import Derived.Test.YtmboieajfdkllaaGreatQ38
import Derived.Test.YtmboieajfdkllaaGreatQ39
namespace Go.Proofs.YtmboieajfdkllaaGreat
open Go.RowKit Go.ChangeShapes Go.WideShapes Go.Deep
theorem ky {w : World} {a : Addr} {v : Value} (h : w.cell? a = some v) : ∃ b o, a = ⟨b, o, none⟩ /\ b < w.heap.size := by
 obtain ⟨b, o, spot⟩ := a
 have hs : spot = none := World.cell?_spot h
 subst hs
 refine ⟨b, o, rfl, ?_⟩
 rcases Nat.lt_or_ge b w.heap.size with hlt | hge
 ·exact hlt
 ·simp [World.cell?, Array.getElem?_eq_none hge] at h
section
variable {H : Type} {enc : TypeId × Value -> H} {P : Program} {w : World} {spare : Nat -> Bool} {held : Bool}
instance : Inhabited Pt := ⟨.mk 0 [] [] [] []⟩
instance : Inhabited Fd := ⟨⟨[], [], false, []⟩⟩
theorem Vy {t e : TypeId} {v : Value} {n0 : Nat} {y : DataW H × List MemPlace} (ht : P.underlying t = some (.slice e)) (he : P.underlying e = some .string) (ce : P.cellsOf e = 1)
  (hf : DataW.trod enc P w 0 spare held n0 t [v] = some y) :
  ∃ (A : Option Addr) (c : Nat) (xs : List Tx), v = .slice A xs.length c /\ Rd w w.heap.size A (qS xs) /\ FitS xs /\ xs.length <= c /\ c <= maxLen := by
 rcases open_slice1 ht ce hf with ⟨hcs, _⟩ | ⟨a, len, cap, m, n, V, D, Pl, hcs, _, hl, hm, hmm, _, hx⟩
 ·simp at hcs
  subst hcs
  exact ⟨none, 0, [], rfl, Rd.nil_, (fun x hx => by cases hx), by simp, by simp [maxLen]⟩
 ·simp at hcs
  subst hcs
  have hlm : len <= m := by rw [hmm]; split <;> omega
  have each : ∀ i, i < len -> ∃ q : Tx, w.cell? (a.add i) = some (sv q) /\ q.length <= maxLen := by
   intro i hi
   obtain ⟨h1, h2⟩ := hx i (by omega)
   obtain ⟨s0, e0, _, l0⟩ := DataW.trod_string he h2
   simp at e0
   obtain ⟨x, rfl⟩ := xa s0
   exact ⟨x, by rw [h1, e0], l0⟩
  obtain ⟨q, hq⟩ := choose_lt each
  have hlen : ((List.range len).map q).length = len := by simp
  refine ⟨some a, cap, (List.range len).map q, by rw [hlen], ?_, ?_, by rw [hlen]; exact hl, hm⟩
  ·intro hne
   have h0 : 0 < len := by
    rcases Nat.eq_zero_or_pos len with h | h
    ·subst h; exact absurd rfl hne
    ·exact h
   obtain ⟨b, o, rfl, hb⟩ := ky (by simpa [Addr.add] using (hq 0 h0).1)
   refine ⟨b, o, rfl, hb, fun j u hu => ?_⟩
   have hj : j < len := by
    have := (List.getElem?_eq_some_iff.1 hu).1
    simpa using this
   have := (hq j hj).1
   rw [add_plain] at this
   rw [this]
   simp [qS, hj] at hu
   rw [<- hu]
  ·intro x hx
   obtain ⟨i, hi, rfl⟩ := List.mem_map.1 hx
   exact (hq i (List.mem_range.1 hi)).2
theorem vq {t sl : TypeId} {fuel : Nat} {v : Value} {y : DataW H × List MemPlace} (u4 : P.underlying sl = some (.slice t)) (hC : P.cellsOf t = 5)
  (ih : ∀ n', n' < fuel -> ∀ (cs : List Value) (x : DataW H × List MemPlace), DataW.trod enc P w 0 spare held n' t cs = some x →
   ∃ (nd : Pt) (c0 c1 c2 c3 c4 : Value), cs = [c0, c1, c2, c3, c4] /\ InP w (All w) nd (.agg #[c0, c1, c2, c3, c4]) /\ Pt.Fit nd)
  (g4 : DataW.trod enc P w 0 spare held fuel sl [v] = some y) :
  ∃ (A : Option Addr) (c : Nat) (xs : List Pt), v = .slice A xs.length c /\ RdP w (All w) A xs /\ xs.length <= c /\ c <= maxLen /\ Pt.Fits xs := by
 rcases DataW.trod_slice u4 g4 with ⟨hcs, _⟩ | ⟨a, len, cap, elems, rest, n', hfu2, hcs, _, _, hle, hcm, hel, helem, _, _⟩
 ·simp at hcs
  subst hcs
  exact ⟨none, 0, [], rfl, fun h => absurd rfl h, Nat.le_refl 0, by simp [maxLen], trivial⟩
 ·simp at hcs
  subst hcs
  have each : ∀ i, i < len -> ∃ q : Pt, ∃ v, (∃ d0 d1 d2 d3 d4, v = Value.agg #[d0, d1, d2, d3, d4] /\ w.cell? (a.add (i * 5)) = some d0 /\ w.cell? (a.add (i * 5 + 1)) = some d1 /\ w.cell? (a.add (i * 5 + 2)) = some d2 /\ w.cell? (a.add (i * 5 + 3)) = some d3 /\ w.cell? (a.add (i * 5 + 4)) = some d4) /\ InP w (All w) q v /\ Pt.Fit q := by
   intro i hi
   have h1 := helem i hi
   rw [List.getElem?_eq_getElem (by omega), Option.bind_eq_some_iff] at h1
   obtain ⟨cs', h2, h3⟩ := h1
   rw [hC] at h2
   obtain ⟨_, hlen5, zz⟩ := World.cells?_some h2
   obtain ⟨nd, c0, c1, c2, c3, c4, rfl, hin, hfit⟩ := ih n' (by omega) cs' _ h3
   have e0 := zz 0 (by omega)
   have e1 := zz 1 (by omega)
   have e2 := zz 2 (by omega)
   have e3 := zz 3 (by omega)
   have e4 := zz 4 (by omega)
   rw [add_add] at e0 e1 e2 e3 e4
   simp at e0 e1 e2 e3 e4
   exact ⟨nd, _, ⟨c0, c1, c2, c3, c4, rfl, e0, e1, e2, e3, e4⟩, hin, hfit⟩
  obtain ⟨q, hq⟩ := choose_lt each
  have hlen : ((List.range len).map q).length = len := by simp
  refine ⟨some a, cap, (List.range len).map q, by rw [hlen], ?_, by rw [hlen]; exact hle, hcm, Pt.fits_all fun x hx => ?_⟩
  ·intro hne
   have h0 : 0 < len := by
    rcases Nat.eq_zero_or_pos len with h | h
    ·subst h; exact absurd rfl hne
    ·exact h
   obtain ⟨v, ⟨d0, d1, d2, d3, d4, _, p0, _⟩, _⟩ := hq 0 h0
   obtain ⟨b, o, rfl, hb⟩ := ky (by simpa [Addr.add] using p0)
   refine ⟨b, o, rfl, hb, InPs.of_get fun i hi => ?_⟩
   rw [hlen] at hi
   obtain ⟨v, ⟨d0, d1, d2, d3, d4, e, p0, p1, p2, p3, p4⟩, hin, _⟩ := hq i hi
   rw [add_plain] at p0 p1 p2 p3 p4
   refine ⟨v, ⟨d0, d1, d2, d3, d4, e, p0, by rw [Nat.add_assoc]; exact p1, by rw [Nat.add_assoc]; exact p2, by rw [Nat.add_assoc]; exact p3, by rw [Nat.add_assoc]; exact p4⟩, ?_⟩
   simpa using hin
  ·obtain ⟨i, hi, rfl⟩ := List.mem_map.1 hx
   obtain ⟨_, _, _, h⟩ := hq i (List.mem_range.1 hi)
   exact h
theorem KI {t : TypeId} {f0 f1 f2 f3 f4 : Field} (hs : P.underlying t = some (.struct #[f0, f1, f2, f3, f4])) (hone : oneCellFields P #[f0, f1, f2, f3, f4] = true) (hC : P.cellsOf t = 5)
  (u0 : P.underlying f0.type = some (.int .i64)) (u1 : P.underlying f1.type = some .string) (u2 : P.underlying f2.type = some .string) (u3 : P.underlying f3.type = some (.slice t)) (u4 : P.underlying f4.type = some (.slice t)) :
  ∀ (fuel : Nat) (cs : List Value) (x : DataW H × List MemPlace), DataW.trod enc P w 0 spare held fuel t cs = some x →
   ∃ (nd : Pt) (c0 c1 c2 c3 c4 : Value), cs = [c0, c1, c2, c3, c4] /\ InP w (All w) nd (.agg #[c0, c1, c2, c3, c4]) /\ Pt.Fit nd := by
 intro fuel
 induction fuel using Nat.strongRecOn with
 | _ fuel ih =>
 intro cs x h
 obtain ⟨xs, n, hfu, _, hl, hlen, hf⟩ := DataW.trod_struct hs h
 rw [hC] at hl
 match cs, hl with
 | [v0, v1, v2, v3, v4], _ =>
 obtain ⟨o0, k0⟩ := hone_of hone 0 f0 rfl
 obtain ⟨o1, k1⟩ := hone_of hone 1 f1 rfl
 obtain ⟨o2, k2⟩ := hone_of hone 2 f2 rfl
 obtain ⟨o3, k3⟩ := hone_of hone 3 f3 rfl
 obtain ⟨o4, k4⟩ := hone_of hone 4 f4 rfl
 match xs, hlen with
 | [y0, y1, y2, y3, y4], _ =>
 have g0 : DataW.trod enc P w 0 spare held n f0.type [v0] = some y0 := by simpa [o0, k0] using hf 0 f0 rfl
 have g1 : DataW.trod enc P w 0 spare held n f1.type [v1] = some y1 := by simpa [o1, k1] using hf 1 f1 rfl
 have g2 : DataW.trod enc P w 0 spare held n f2.type [v2] = some y2 := by simpa [o2, k2] using hf 2 f2 rfl
 have g3 : DataW.trod enc P w 0 spare held n f3.type [v3] = some y3 := by simpa [o3, k3] using hf 3 f3 rfl
 have g4 : DataW.trod enc P w 0 spare held n f4.type [v4] = some y4 := by simpa [o4, k4] using hf 4 f4 rfl
 obtain ⟨z0, q0, _, _⟩ := DataW.trod_int u0 g0
 obtain ⟨s1, q1, _, l1⟩ := DataW.trod_string u1 g1
 obtain ⟨s2, q2, _, l2⟩ := DataW.trod_string u2 g2
 obtain ⟨Ap, cp, ps, rfl, hrp, hcp, hmp, hfp⟩ := vq u3 hC (fun n' hn' => ih n' (by omega)) g3
 obtain ⟨Ao, co, os, rfl, hro, hco, hmo, hfo⟩ := vq u4 hC (fun n' hn' => ih n' (by omega)) g4
 simp at q0 q1 q2
 subst q0
 subst q1
 subst q2
 obtain ⟨t1, rfl⟩ := xa s1
 obtain ⟨t2, rfl⟩ := xa s2
 have hz : ∀ t : Tx, (⟨t.toArray⟩ : ByteArray).size = t.length := fun t => by show t.toArray.size = _; simp
 have hz1 := hz t1
 have hz2 := hz t2
 refine ⟨.mk z0 t1 t2 ps os, _, _, _, _, _, rfl, InP.mk hcp hco hrp hro, ?_⟩
 simp only [Pt.Fit]
 exact ⟨by omega, by omega, Nat.le_trans hcp hmp, Nat.le_trans hco hmo, hfp, hfo⟩
theorem KG {t e : TypeId} {f0 f1 f2 f3 : Field} (hs : P.underlying t = some (.struct #[f0, f1, f2, f3])) (hone : oneCellFields P #[f0, f1, f2, f3] = true) (hC : P.cellsOf t = 4)
  (u0 : P.underlying f0.type = some .string) (u1 : P.underlying f1.type = some .string) (u2 : P.underlying f2.type = some .bool) (u3 : P.underlying f3.type = some (.slice e)) (ue : P.underlying e = some .string) (ce : P.cellsOf e = 1)
  (fuel : Nat) (cs : List Value) (x : DataW H × List MemPlace) (h : DataW.trod enc P w 0 spare held fuel t cs = some x) :
   ∃ (nd : Fd) (c0 c1 c2 c3 : Value), cs = [c0, c1, c2, c3] /\ InF w (All w) nd (.agg #[c0, c1, c2, c3]) /\ Fd.Fit nd := by
 obtain ⟨xs, n, hfu, _, hl, hlen, hf⟩ := DataW.trod_struct hs h
 rw [hC] at hl
 match cs, hl with
 | [v0, v1, v2, v3], _ =>
 obtain ⟨o0, k0⟩ := hone_of hone 0 f0 rfl
 obtain ⟨o1, k1⟩ := hone_of hone 1 f1 rfl
 obtain ⟨o2, k2⟩ := hone_of hone 2 f2 rfl
 obtain ⟨o3, k3⟩ := hone_of hone 3 f3 rfl
 match xs, hlen with
 | [y0, y1, y2, y3], _ =>
 have g0 : DataW.trod enc P w 0 spare held n f0.type [v0] = some y0 := by simpa [o0, k0] using hf 0 f0 rfl
 have g1 : DataW.trod enc P w 0 spare held n f1.type [v1] = some y1 := by simpa [o1, k1] using hf 1 f1 rfl
 have g2 : DataW.trod enc P w 0 spare held n f2.type [v2] = some y2 := by simpa [o2, k2] using hf 2 f2 rfl
 have g3 : DataW.trod enc P w 0 spare held n f3.type [v3] = some y3 := by simpa [o3, k3] using hf 3 f3 rfl
 obtain ⟨s0, q0, _, l0⟩ := DataW.trod_string u0 g0
 obtain ⟨s1, q1, _, l1⟩ := DataW.trod_string u1 g1
 obtain ⟨z2, q2, _⟩ := DataW.trod_bool u2 g2
 obtain ⟨An, cn, ns, rfl, hr, hfs, hc, hm⟩ := Vy u3 ue ce g3
 simp at q0 q1 q2
 subst q0
 subst q1
 subst q2
 obtain ⟨t0, rfl⟩ := xa s0
 obtain ⟨t1, rfl⟩ := xa s1
 have hz : ∀ t : Tx, (⟨t.toArray⟩ : ByteArray).size = t.length := fun t => by show t.toArray.size = _; simp
 have hz0 := hz t0
 have hz1 := hz t1
 exact ⟨⟨t0, t1, z2, ns⟩, _, _, _, _, rfl, ⟨An, cn, rfl, RdIn.of hr (fun _ h => h), hc⟩, by show t0.length <= _; omega, by show t1.length <= _; omega, hfs, Nat.le_trans hc hm⟩
theorem KH {t sl e : TypeId} {f0 f1 f2 f3 : Field} {fuel : Nat} {v : Value} {y : DataW H × List MemPlace} (u : P.underlying sl = some (.slice t)) (hs : P.underlying t = some (.struct #[f0, f1, f2, f3])) (hone : oneCellFields P #[f0, f1, f2, f3] = true) (hC : P.cellsOf t = 4)
  (u0 : P.underlying f0.type = some .string) (u1 : P.underlying f1.type = some .string) (u2 : P.underlying f2.type = some .bool) (u3 : P.underlying f3.type = some (.slice e)) (ue : P.underlying e = some .string) (ce : P.cellsOf e = 1)
  (g4 : DataW.trod enc P w 0 spare held fuel sl [v] = some y) :
  ∃ (A : Option Addr) (c : Nat) (xs : List Fd), v = .slice A xs.length c /\ RdF w (All w) A xs /\ xs.length <= c /\ c <= maxLen /\ ∀ x ∈ xs, Fd.Fit x := by
 rcases DataW.trod_slice u g4 with ⟨hcs, _⟩ | ⟨a, len, cap, elems, rest, n', hfu2, hcs, _, _, hle, hcm, hel, helem, _, _⟩
 ·simp at hcs
  subst hcs
  exact ⟨none, 0, [], rfl, fun h => absurd rfl h, Nat.le_refl 0, by simp [maxLen], (fun x hx => by cases hx)⟩
 ·simp at hcs
  subst hcs
  have each : ∀ i, i < len -> ∃ q : Fd, ∃ v, (∃ d0 d1 d2 d3, v = Value.agg #[d0, d1, d2, d3] /\ w.cell? (a.add (i * 4)) = some d0 /\ w.cell? (a.add (i * 4 + 1)) = some d1 /\ w.cell? (a.add (i * 4 + 2)) = some d2 /\ w.cell? (a.add (i * 4 + 3)) = some d3) /\ InF w (All w) q v /\ Fd.Fit q := by
   intro i hi
   have h1 := helem i hi
   rw [List.getElem?_eq_getElem (by omega), Option.bind_eq_some_iff] at h1
   obtain ⟨cs', h2, h3⟩ := h1
   rw [hC] at h2
   obtain ⟨_, hlen5, zz⟩ := World.cells?_some h2
   obtain ⟨nd, c0, c1, c2, c3, rfl, hin, hfit⟩ := KG hs hone hC u0 u1 u2 u3 ue ce n' cs' _ h3
   have e0 := zz 0 (by omega)
   have e1 := zz 1 (by omega)
   have e2 := zz 2 (by omega)
   have e3 := zz 3 (by omega)
   rw [add_add] at e0 e1 e2 e3
   simp at e0 e1 e2 e3
   exact ⟨nd, _, ⟨c0, c1, c2, c3, rfl, e0, e1, e2, e3⟩, hin, hfit⟩
  obtain ⟨q, hq⟩ := choose_lt each
  have hlen : ((List.range len).map q).length = len := by simp
  refine ⟨some a, cap, (List.range len).map q, by rw [hlen], ?_, by rw [hlen]; exact hle, hcm, fun x hx => ?_⟩
  ·intro hne
   have h0 : 0 < len := by
    rcases Nat.eq_zero_or_pos len with h | h
    ·subst h; exact absurd rfl hne
    ·exact h
   obtain ⟨v, ⟨d0, d1, d2, d3, _, p0, _⟩, _⟩ := hq 0 h0
   obtain ⟨b, o, rfl, hb⟩ := ky (by simpa [Addr.add] using p0)
   refine ⟨b, o, rfl, hb, fun i hi => ?_⟩
   rw [hlen] at hi
   obtain ⟨v, ⟨d0, d1, d2, d3, e, p0, p1, p2, p3⟩, hin, _⟩ := hq i hi
   rw [add_plain] at p0 p1 p2 p3
   refine ⟨v, ⟨d0, d1, d2, d3, e, p0, by rw [Nat.add_assoc]; exact p1, by rw [Nat.add_assoc]; exact p2, by rw [Nat.add_assoc]; exact p3⟩, ?_⟩
   simpa using hin
  ·obtain ⟨i, hi, rfl⟩ := List.mem_map.1 hx
   obtain ⟨_, _, _, h⟩ := hq i (List.mem_range.1 hi)
   exact h
theorem KF {t tp tf e : TypeId} {g0 g1 p0 p1 p2 p3 p4 d0 d1 d2 d3 : Field} {v : Value} {d : DataW H} {p : List MemPlace} (hs : P.underlying t = some (.struct #[g0, g1])) (hone : oneCellFields P #[g0, g1] = true) (hC : P.cellsOf t = 2)
  (ug0 : P.underlying g0.type = some (.slice tp)) (ug1 : P.underlying g1.type = some (.slice tf))
  (hsp : P.underlying tp = some (.struct #[p0, p1, p2, p3, p4])) (honep : oneCellFields P #[p0, p1, p2, p3, p4] = true) (hCp : P.cellsOf tp = 5)
  (v0 : P.underlying p0.type = some (.int .i64)) (v1 : P.underlying p1.type = some .string) (v2 : P.underlying p2.type = some .string) (v3 : P.underlying p3.type = some (.slice tp)) (v4 : P.underlying p4.type = some (.slice tp))
  (hsf : P.underlying tf = some (.struct #[d0, d1, d2, d3])) (honef : oneCellFields P #[d0, d1, d2, d3] = true) (hCf : P.cellsOf tf = 4)
  (u0 : P.underlying d0.type = some .string) (u1 : P.underlying d1.type = some .string) (u2 : P.underlying d2.type = some .bool) (u3 : P.underlying d3.type = some (.slice e)) (ue : P.underlying e = some .string) (ce : P.cellsOf e = 1)
  (hv : Value.okWide P w .any 0 t v) (h : DataW.Trod enc P w 0 spare held t v d p) : ∃ x : Dk, InD w (All w) x v /\ Dk.Fit x := by
 obtain ⟨cs, rfl, hsz⟩ := okWide_struct hs hv
 obtain ⟨fuel, hf⟩ := h
 obtain ⟨xs, n, hfu, _, hl, hlen, hff⟩ := DataW.trod_struct hs hf
 rw [hC] at hl
 obtain ⟨o0, k0⟩ := hone_of hone 0 g0 rfl
 obtain ⟨o1, k1⟩ := hone_of hone 1 g1 rfl
 obtain ⟨l⟩ := cs
 change l.length = 2 at hl
 match l, hl with
 | [a0, a1], _ =>
 match xs, hlen with
 | [y0, y1], _ =>
 have h0 : DataW.trod enc P w 0 spare held n g0.type [a0] = some y0 := by simpa [o0, k0, Value.cells] using hff 0 g0 rfl
 have h1 : DataW.trod enc P w 0 spare held n g1.type [a1] = some y1 := by simpa [o1, k1, Value.cells] using hff 1 g1 rfl
 obtain ⟨Ap, cp, ps, rfl, hrp, hcp, hmp, hfp⟩ := vq ug0 hCp (fun n' _ cs x hx => KI hsp honep hCp v0 v1 v2 v3 v4 n' cs x hx) h0
 obtain ⟨Ad, cd, fs, rfl, hrf, hcd, hmd, hfd⟩ := KH ug1 hsf honef hCf u0 u1 u2 u3 ue ce h1
 exact ⟨⟨ps, fs⟩, ⟨Ap, cp, Ad, cd, rfl, hrp, hcp, hrf, hcd⟩, hfp, Nat.le_trans hcp hmp, hfd, Nat.le_trans hcd hmd⟩
end
end Go.Proofs.YtmboieajfdkllaaGreat
namespace Go.Proofs.YtmboieajfdkllaaGreat
end Go.Proofs.YtmboieajfdkllaaGreat
namespace Go
variable {H : Type} {enc : TypeId × Value -> H}
theorem VC {a : Assume} {C : Checked} {os : Os} {f : FuncId} {fn : Func} {s : ChangeSpec} {conds : List PathCond} {apart fresh handsOn again : Bool}
  (own : ownKnob C.prog.godebug = none) (started : os.Started) (noInit : C.prog.inits.idxOf? f = none) (hfn : C.prog.funcs[f]? = some fn)
  (witness : ∃ (w : World) (tape : Tape) (i : Input), w.os = os /\ (w.forCall tape i).Shaped C.prog /\ i.vars = [] /\ Input.okWide C.prog (w.forCall tape i) .any w.heap.size f i ∧
   s.pre6 enc C.prog fn conds apart (w.forCall tape i).memory i.args /\ a.holds C.prog (lone (Frame.enter C.prog f i.args .normal) [] (w.forCall tape i)))
  (contract : ∀ (W : World) (base : Nat) (args : Array Value) (ds gs : List (DataW H)) (before : List MemPlace),
   (∀ (j : Nat) t v, fn.params[j]? = some t -> args[j]? = some v -> Value.okWide C.prog W .any base t v) →
   DataW.Whole enc C.prog fn.params.toList s.vars apart W args.toList ds gs before →
   conds.all (PathCond.test C.prog ⟨fn.params.toList, ds, s.plain.varTypes C.prog, gs⟩) = true →
   W.ShapedOpen C.prog →
   a.holds C.prog (lone (Frame.enter C.prog f args .normal) [] W) →
   Calls C.prog f args W fun e W' => ∃ v, e = .returned v /\ s.post enc C.prog fn apart fresh handsOn again W args v W') :
  ReturnsInHanded a C os f .any (s.pre6 enc C.prog fn conds apart) (s.post enc C.prog fn apart fresh handsOn again) := by
 refine returnsInHanded_of_calls own started noInit witness ?_
 intro w tape i _ hsh _ hok hpre hholds
 obtain ⟨_, _, _, fn', hfn', _, _, _, _, hval⟩ := hok
 have e : fn' = fn := Option.some.inj (hfn'.symm.trans hfn)
 subst e
 obtain ⟨⟨ds, gs, before, hw, hc⟩, _⟩ := hpre
 have hw' := DataW.Whole.of_heap (w' := w.forCall tape i) (by rfl) hw
 refine (contract (w.forCall tape i) w.heap.size i.args ds gs before hval hw' hc hsh hholds).mono fun e W' ⟨v, he, hp⟩ => ?_
 subst he
 exact ChangeSpec.post_blind hp
end Go
namespace Go.Proofs.YtmboieajfdkllaaGreat
open Go.RowKit Go.ChangeShapes Go.WideShapes Go.ChangeAt Go.Joins Go.Deep
open Go.ChangeMaps (open_string shut_string)
def bDk (x : Dk) : TyB := fun w v => ∃ Ap lp cp Ad ld cd, v = dkV Ap lp cp Ad ld cd /\ InD w (All w) x v
theorem JA {x : Dk} : ∀ w w' v, KB w w' -> bDk x w v -> bDk x w' v := fun _ _ _ hk ⟨Ap, lp, cp, Ad, ld, cd, e, h⟩ => ⟨Ap, lp, cp, Ad, ld, cd, e, h.now hk⟩
theorem Zz (d : Dk) (B E : Nat) (Ap Ad : Option Addr) (cp cd : Nat) (rs : List Raw) (fs : List FRaw) (w : World) (h : DOE w B E Ap cp rs Ad cd fs d) (hBw : B <= w.heap.size) (hs : Dk.size d <= 1048576) :
  Calls Tryz.prog 13 #[dkV Ap rs.length cp Ad fs.length cd, .int .i64 1] w fun e w' => e = .returned (.int .i64 (1 + (Dk.cntD d : Int))) /\ (∃ rs' fs', rs'.length = rs.length /\ fs'.length = fs.length /\ DOw w' B Ap cp rs' Ad cd fs' (Dk.mkD 1 d)) /\ Below B w w' /\ Stay B E w w' :=
 Xr d B 1 1 Ap Ad cp cd rs fs E w rfl h hBw (by omega) (by have := Dk.cntD_size d; omega)
theorem yL (d : Dk) (v : Value) (w : World) (h : InD w (All w) (Dk.mkD 1 d) v) (hs : Dk.size d <= 1048576) :
  Calls Tryz.prog 14 #[v, .int .i64 1] w fun e w' => e = .returned (.int .i64 (1 + (Dk.cntD d : Int))) /\ Below w.heap.size w w' :=
 JE d 1 1 v w rfl h (by omega) (by have := Dk.cntD_size d; omega)
set_option maxRecDepth 100000 in
set_option maxHeartbeats 16000000 in
theorem QH (a : Dk) (s : Tx) (u : Value) (w : World) (hu : InD w (All w) a u) (hfa : Dk.Fit a) (hs : s.length <= maxLen) (hm : Hm w) :
  Calls Tryz.prog 3 #[u, .string ⟨s.toArray⟩] w fun e w' => e = .returned (.bool true) /\ Below w.heap.size w w' := by
 obtain ⟨Ap, lp, cp, Ad, ld, cd, rfl⟩ : ∃ Ap lp cp Ad ld cd, u = dkV Ap lp cp Ad ld cd := by
  obtain ⟨Ap, cp, Ad, cd, e, _⟩ := hu
  exact ⟨Ap, _, cp, Ad, _, cd, e⟩
 unfold maxLen at hs
 have hB0 := (Below.refl w.heap.size w).alloc (Nat.le_refl _) (.cells (qx Ap lp cp Ad ld cd) 25)
 have HB0 := qb hB0
 have HM := qb hm
 have HX0 := qb (heap_alloc_new w (.cells (qx Ap lp cp Ad ld cd) 25))
 have HU0 := qb (hu.now hB0)
 have HS1 := qb (XE a _ 1048576 _ HU0.out hfa (by omega) (by omega))
 have hzz : w.heap.size < (w.alloc (.cells (qx Ap lp cp Ad ld cd) 25)).heap.size := by simp
 clear hu hB0 hm
 by_cases hbig : 1048576 < s.length
 ·go_enter Tryz.func3, Tryz.ntmps3
  go_wp2
  go_ret
  exact ⟨rfl, HB0.out⟩
 by_cases hsa : (Dk.size a : Int) <= 1048576
 case neg =>
  rw [zl hsa] at HS1
  clear hsa
  go_enter Tryz.func3, Tryz.ntmps3
  go_wp2_with fail
  refine HS1.out.mono ?_
  rintro e w1 ⟨rfl, hb⟩
  have HB1 := qb (HB0.out.trans (hb.mono HB0.out.size))
  clear hb
  go_wp2
  go_ret
  exact ⟨rfl, HB1.out⟩
 rw [zL hsa] at HS1
 have hq0 : decide ((1048576 : Int) - (Dk.size a : Int) < 0) = false := by simp; omega
 have hA : Dk.size a <= 1048576 := by omega
 have HFA := qb hfa
 clear hfa
 have HSP := qb (fun w3 u (hu : InD w3 (All w3) a u) => Xv a u s w3 hu hA (by omega))
 have HIM := qb (fun w3 u (hu : InD w3 (All w3) a u) hm => QR a u s w3 hu hA (by omega) hm)
 have HFO := qb (Dk.line_fit a s)
 have hO : Dk.size (Dk.line a s).1 <= 1048576 := by have := Dk.line_size a s; omega
 generalize Dk.line a s = r at *
 obtain ⟨rd, ra⟩ := r
 dsimp only at hO HFO
 have hrr : (ra != ra) = false := by simp
 have hcm : (1 + (Dk.cntD a : Int) < 0) = False := by rw [eq_iff_iff, iff_false]; omega
 have hco : (1 + (Dk.cntD rd : Int) < 0) = False := by rw [eq_iff_iff, iff_false]; omega
 have hqq : ((1 + (Dk.cntD rd : Int)) != (1 + (Dk.cntD rd : Int))) = false := by simp
 go_enter Tryz.func3, Tryz.ntmps3
 go_wp2_with fail
 refine HS1.out.mono ?_
 rintro e w1 ⟨rfl, hb⟩
 have HB1 := qb (HB0.out.trans (hb.mono HB0.out.size))
 have HX1 := qb (qi HX0.out hb)
 have HU1 := qb (HU0.out.now hb)
 have hz1 : w.heap.size < w1.heap.size := Nat.lt_of_lt_of_le hzz hb.size
 have HTA := qb (fun w3 (hb : Below w1.heap.size w1 w3) => Kg a _ w3 (HU1.out.now hb) hA)
 have HTA1 := qb (HTA.out w1 (Below.refl _ _))
 obtain ⟨y0, y1, -⟩ := qr HX1.out
 clear hb HS1 HX0 HU0 hzz
 go_wp2_with fail
 refine HTA1.out.mono ?_
 rintro e w2 ⟨A2, c2, rs2, B2, d2, fs2, rfl, ho2, hb⟩
 have HSP2 := qb (HSP.out w2 _ ho2.inD)
 have HB12 := qb hb
 clear hb ho2 y0 y1
 go_wp2_with fail
 refine HSP2.out.mono ?_
 rintro e w3 ⟨v3, rfl, hinr, hb⟩
 have hin3 := hinr.toAll
 clear hinr
 obtain ⟨A6, l6, c6, B6, m6, d6, rfl⟩ : ∃ Ap lp cp Ad ld cd, v3 = dkV Ap lp cp Ad ld cd := by
  obtain ⟨Ap, cp, Ad, cd, e, _⟩ := hin3
  exact ⟨Ap, _, cp, Ad, _, cd, e⟩
 have HA3 := qb ((Below.refl w3.heap.size w3).alloc (Nat.le_refl _) (.cells (qx A6 l6 c6 B6 m6 d6) 30))
 have HB13 := qb ((HB12.out.trans (hb.mono HB12.out.size)).trans (HA3.out.mono (HB12.out.trans (hb.mono HB12.out.size)).size))
 have HX3 := qb (qi HX1.out HB13.out)
 have HP3 := qb (heap_alloc_new w3 (.cells (qx A6 l6 c6 B6 m6 d6) 30))
 have HI3 := qb (hin3.now HA3.out)
 have HTA3 := qb (HTA.out _ HB13.out)
 have hs3 : w3.heap.size + 1 <= (w3.alloc (.cells (qx A6 l6 c6 B6 m6 d6) 30)).heap.size := by simp
 have hz3 : w.heap.size < w3.heap.size := by have := HB12.out.size; have := hb.size; omega
 have HB3 := qb (HB1.out.trans (HB13.out.mono HB1.out.size))
 obtain ⟨y0, y1, -⟩ := qr HX3.out
 clear hb hin3 HSP2 HA3 HX1 HB1
 go_wp2_with fail
 generalize hW3 : w3.alloc (.cells (qx A6 l6 c6 B6 m6 d6) 30) = W3 at *
 clear hW3
 refine HTA3.out.mono ?_
 rintro e w4 ⟨A8, c8, rs8, B8, d8, fs8, rfl, ho4, hb⟩
 have HA4 := qb ((Below.refl w4.heap.size w4).alloc (Nat.le_refl _) (.cells (qx A8 rs8.length c8 B8 fs8.length d8) 30))
 have HB34 := qb (hb.trans (HA4.out.mono hb.size))
 have HO4 := qb ho4
 have HO4i := qb (ho4.keep HA4.out).inD
 have HP4 := qb (heap_alloc_new w4 (.cells (qx A8 rs8.length c8 B8 fs8.length d8) 30))
 have hz4 : W3.heap.size <= w4.heap.size := hb.size
 have hs4 : w4.heap.size + 1 <= (w4.alloc (.cells (qx A8 rs8.length c8 B8 fs8.length d8) 30)).heap.size := by simp
 have HM4 := qb (HM.out.below (HB3.out.trans (HB34.out.mono HB3.out.size)))
 have HIM4 := qb (HIM.out _ _ HO4i.out HM4.out)
 have HB4 := qb HA4.out
 clear hb ho4 y0 y1
 obtain ⟨y0, y1, -⟩ := qr HP4.out
 go_wp2_with fail
 generalize hW4 : w4.alloc (.cells (qx A8 rs8.length c8 B8 fs8.length d8) 30) = W4 at *
 clear hW4
 refine HIM4.out.mono ?_
 rintro e w5 ⟨A9, c9, rs9, B9, d9, fs9, rfl, ho5, hb⟩
 have HA5 := qb ((Below.refl w5.heap.size w5).alloc (Nat.le_refl _) (.cells (qx A9 rs9.length c9 B9 fs9.length d9) 30))
 have HB45 := qb (hb.trans (HA5.out.mono hb.size))
 have HB35 := qb (HB34.out.trans (HB45.out.mono HB34.out.size))
 have HO5 := qb ho5
 have HO5k := qb (ho5.keep HA5.out)
 have HP5 := qb (heap_alloc_new w5 (.cells (qx A9 rs9.length c9 B9 fs9.length d9) 30))
 have hz5 : w4.heap.size < w5.heap.size := by have := hb.size; omega
 have hz45 : W4.heap.size <= w5.heap.size := hb.size
 have hs5 : w5.heap.size + 1 <= (w5.alloc (.cells (qx A9 rs9.length c9 B9 fs9.length d9) 30)).heap.size := by simp
 have HW45 : Hid (Below w4.heap.size w4 (w5.alloc (.cells (qx A9 rs9.length c9 B9 fs9.length d9) 30))) := HB4.out.trans (HB45.out.mono HB4.out.size)
 have HW55 := qb HA5.out
 have HEO := qb (fun w9 u v (hu : InD w9 (All w9) rd u) (hv : InD w9 (All w9) rd v) => Zw rd u v w9 hu hv HFO.out)
 have HE5 := qb (HEO.out _ _ _ HO5k.out.inD (HI3.out.now HB35.out))
 have HPX5 := qb (qi HP4.out HB45.out)
 clear hb ho5 HIM4 y0 y1
 obtain ⟨y0, y1, -⟩ := qr HP5.out
 obtain ⟨p0, p1, -⟩ := qr (qi HP3.out HB35.out)
 go_wp2_with fail
 generalize hW5 : w5.alloc (.cells (qx A9 rs9.length c9 B9 fs9.length d9) 30) = W5 at *
 clear hW5
 refine HE5.out.mono ?_
 rintro e w6 ⟨rfl, hb⟩
 have HB36 := qb (HB35.out.trans (hb.mono HB35.out.size))
 have HW46 := qb (HW45.out.trans (hb.mono HW45.out.size))
 have HW56 := qb (HW55.out.trans (hb.mono HW55.out.size))
 have HP6 := qb (qi HP5.out hb)
 have HPX6 := qb (qi HPX5.out hb)
 have HX6 := qb (qi HX3.out HB36.out)
 have hz6x : w4.heap.size < w6.heap.size := by have := hb.size; omega
 have hz6 : w.heap.size < w6.heap.size := by omega
 have HB16 := qb (HB13.out.trans (HB36.out.mono HB13.out.size))
 have HTA6 := qb (fun w7 (hb : Below w6.heap.size w6 w7) => (HTA.out w7 (HB16.out.trans (hb.mono HB16.out.size))).mono (R' := fun e w8 => ∃ A l c B m d, e = .returned (dkV A l c B m d) /\ InD w8 (All w8) a (dkV A l c B m d) /\ Below w7.heap.size w7 w8) (fun e w8 ⟨A, c, rs, B, d, fs, h1, h2, h3⟩ => ⟨A, _, c, B, _, d, h1, h2.inD, h3⟩))
 have HI6 := qb (HO4.out.keep HW46.out).inD
 have HEA := qb (fun w7 v (hb : Below w6.heap.size w6 w7) (hv : InD w7 (All w7) a v) => Zw a _ v w7 (HI6.out.now hb) hv HFA.out)
 clear hb HE5 y0 y1 p0 p1
 go_wp2_with fail
 refine qU 4 (by kernel_rfl) (by kernel_rfl) (fun _ w => Below (World.heap w6).size w6 w) KB (fun i => ([bIs (dkV A8 rs8.length c8 B8 fs8.length d8), bIs (dkV Ap lp cp Ad ld cd), bDk a, bIs (.bool true)] : List TyB).getD i bAny) ?hWbB1 ?hkeepB1 ?hstepB1 ?hfinbB1
 case hkeepB1 =>
  refine qg (qg (qg (qg qG ?_) ?_) ?_) ?_
  ·exact qj
  ·exact qj
  ·exact JA
  ·exact qj
 case hstepB1 =>
  refine qg (qg (qg (qg qG ?_) ?_) ?_) ?_
  ·(intro o ho m' a w1 hm' hW hb hd K Q hK; obtain rfl := Option.some.inj ho; have e0 : a.tmps[8]?.getD undef = .pointer (some ⟨w4.heap.size, 0, none⟩) := (by rw [hb 8 (by decide +kernel)]; simp); have hbl := (hW.block _ hz6x).trans HPX6.out; have q0 := cell_of_row w1 _ 0 _ _ _ hbl; have q1 := cell_of_row w1 _ 1 _ _ _ hbl; go_simp; exact hK _ _ hW (qk _) rfl)
  ·(intro o ho m' a w1 hm' hW hb hd K Q hK; obtain rfl := Option.some.inj ho; have e0 : a.tmps[2]?.getD undef = .pointer (some ⟨w.heap.size, 0, none⟩) := (by rw [hb 2 (by decide +kernel)]; simp); have hbl := (hW.block _ hz6).trans HX6.out; have q0 := cell_of_row w1 _ 0 _ _ _ hbl; have q1 := cell_of_row w1 _ 1 _ _ _ hbl; go_simp; exact hK _ _ hW (qk _) rfl)
  ·(intro o ho m' a w1 hm' hW hb hd K Q hK; obtain rfl := Option.some.inj ho; have e0 := qo (hd 1 (by kernel_rfl) 49 rfl); go_simp; refine (HTA6.out _ hW).mono ?_; rintro e w2 ⟨A9, l9, c9, B9, m9, d9, rfl, hin9, hb2⟩; exact hK _ _ (hW.trans (hb2.mono hW.size)) hb2 ⟨A9, l9, c9, B9, m9, d9, rfl, hin9⟩)
  ·(intro o ho m' a w1 hm' hW hb hd K Q hK; obtain rfl := Option.some.inj ho; have e1 := qo (hd 0 (by kernel_rfl) 48 rfl); obtain ⟨A2, l2, c2, B2, m2, d2, e2, h2⟩ := (hd 2 (by kernel_rfl) 50 rfl); rw [e2] at h2; have e2 := qo e2; go_simp; refine (HEA.out _ _ hW h2).mono ?_; rintro e w2 ⟨rfl, hb2⟩; exact hK _ _ (hW.trans (hb2.mono hW.size)) hb2 rfl)
 case hWbB1 => exact (Below.refl _ _).drew
 case hfinbB1 =>
  intro vs w7 hW hF
  simp only [qF, hdst, List.getElem?_cons_succ, List.getElem?_cons_zero, Option.bind, List.drop_succ_cons, List.drop_zero, Act.put]
  have h3 : vs 3 = .bool true := hF 3 (by omega)
  rw [h3]
  have HB37 := qb (HB36.out.trans (hW.mono HB36.out.size))
  have HW47 := qb (HW46.out.trans (hW.mono HW46.out.size))
  have HW57 := qb (HW56.out.trans (hW.mono HW56.out.size))
  have HP7 := qb (qi HP6.out hW)
  have hz7 : w5.heap.size < w7.heap.size := lt_of_block HP7.out
  have hz37 : W3.heap.size <= w7.heap.size := HB37.out.size
  have HM7 := qb (Zz a W3.heap.size w4.heap.size A8 B8 c8 d8 rs8 fs8 w7 (HO4.out.toE.keep HW47.out) hz37 hA)
  obtain ⟨q0, q1, -⟩ := qr (qi HPX6.out hW)
  clear hW hF h3 HTA6 HEA HB16 HX6 HPX6 HP6 HI6
  go_simp
  go_wp2_with fail
  refine HM7.out.mono ?_
  rintro e w8 ⟨rfl, -, hb8, hst⟩
  have HB38 := qb (HB37.out.trans hb8)
  have HO8 := qb ((HO5.out.toE.keep HW57.out).at (fun j h1 _ h2 => hst.2 j h2 (.inr (by omega))))
  have hk5 : ∀ j, w4.heap.size < j -> j < w7.heap.size -> w8.heap[j]? = w7.heap[j]? := fun j h1 h2 => hst.2 j h2 (.inr (by omega))
  have hp8 := (hk5 w5.heap.size hz5 hz7).trans HP7.out
  have HP8 := qb hp8
  have HE8 := qb (HEO.out _ _ _ HO8.out.ow.inD (HI3.out.now HB38.out))
  obtain ⟨y0, y1, -⟩ := qr hp8
  obtain ⟨p0, p1, -⟩ := qr (qi HP3.out HB38.out)
  have hz8 : w7.heap.size <= w8.heap.size := hst.1
  clear hb8 hst hk5 hp8 HM7 q0 q1 HP7
  go_wp2_with fail
  refine HE8.out.mono ?_
  rintro e w9 ⟨rfl, hb⟩
  have HB39 := qb (HB38.out.trans (hb.mono HB38.out.size))
  have HO9 := qb (HO8.out.keep hb)
  have HP9 := qb (qi HP8.out hb)
  have hz9 : W4.heap.size <= w9.heap.size := by have := hb.size; omega
  clear hb HE8 HP8 y0 y1 p0 p1
  obtain ⟨q0, q1, -⟩ := qr HP9.out
  have HM9 := qb (Zz rd W4.heap.size w5.heap.size A9 B9 c9 d9 rs9 fs9 w9 HO9.out hz9 hO)
  go_wp2_with fail
  refine HM9.out.mono ?_
  rintro e w10 ⟨rfl, ⟨rs10, fs10, hl1, hl2, ho10⟩, hb10, hst⟩
  have HB310 := qb (HB39.out.trans (hb10.mono (Nat.le_trans HB34.out.size (Nat.le_refl _))))
  have hp10 := (hst.2 w5.heap.size (lt_of_block HP9.out) (.inr (Nat.le_refl _))).trans HP9.out
  have HP10 := qb hp10
  have hi10 := ho10.inD
  rw [hl1, hl2] at hi10
  have HI10 := qb hi10
  have HH10 := qb (yL rd _ w10 hi10 hO)
  obtain ⟨y0, y1, -⟩ := qr hp10
  clear hb10 hst hp10 ho10 hl1 hl2 hi10 HM9 q0 q1 HP9 HO9
  go_wp2_with fail
  refine HH10.out.mono ?_
  rintro e w11 ⟨rfl, hb⟩
  have HB311 := qb (HB310.out.trans (hb.mono HB310.out.size))
  have HI11 := qb (HI10.out.now hb)
  have HP11 := qb (qi HP10.out hb)
  have HB111 := qb (HB13.out.trans (HB311.out.mono HB13.out.size))
  have HTA11 := qb (HTA.out w11 HB111.out)
  obtain ⟨q0, q1, -⟩ := qr (qi HX3.out HB311.out)
  clear hb HH10 HI10 HP10 y0 y1
  go_wp2_with fail
  refine HTA11.out.mono ?_
  rintro e w12 ⟨A7, c7, rs7, B7, d7, fs7, rfl, ho7, hb⟩
  have HB312 := qb (HB311.out.trans (hb.mono HB311.out.size))
  have HI12 := qb (HI11.out.now hb)
  have HP12 := qb (qi HP11.out hb)
  have HM12 := qb (HM.out.below (HB3.out.trans (HB312.out.mono HB3.out.size)))
  have HIM12 := qb (HIM.out w12 _ ho7.inD HM12.out)
  clear hb ho7 HTA11 HI11 HP11 q0 q1
  go_wp2_with fail
  refine HIM12.out.mono ?_
  rintro e w13 ⟨A5, c5, rs5, B5, d5, fs5, rfl, ho13, hb⟩
  have HA13 := qb ((Below.refl w13.heap.size w13).alloc (Nat.le_refl _) (.cells (qx A5 rs5.length c5 B5 fs5.length d5) 30))
  have HBt := qb (hb.trans (HA13.out.mono hb.size))
  have HB313 := qb (HB312.out.trans (HBt.out.mono HB312.out.size))
  have HI13 := qb (HI12.out.now HBt.out)
  have HP13 := qb (qi HP12.out HBt.out)
  have HE13 := qb (HEO.out _ _ _ (ho13.inD.now HA13.out) (HI3.out.now HB313.out))
  obtain ⟨y0, y1, -⟩ := qr (heap_alloc_new w13 (.cells (qx A5 rs5.length c5 B5 fs5.length d5) 30))
  obtain ⟨p0, p1, -⟩ := qr (qi HP3.out HB313.out)
  clear hb ho13 HIM12 HI12 HP12
  go_wp2_with fail
  refine HE13.out.mono ?_
  rintro e w14 ⟨rfl, hb⟩
  have HB314 := qb (HB313.out.trans (hb.mono HB313.out.size))
  have HI14 := qb (HI13.out.now hb)
  have HH14 := qb (yL rd _ w14 HI14.out hO)
  obtain ⟨q0, q1, -⟩ := qr (qi HP13.out hb)
  clear hb HE13 HI13 HP13 y0 y1 p0 p1
  go_wp2_with fail
  refine HH14.out.mono ?_
  rintro e w15 ⟨rfl, hb⟩
  have HB315 := qb (HB314.out.trans (hb.mono HB314.out.size))
  have HB15 := qb (HB3.out.trans (HB315.out.mono HB3.out.size))
  clear hb
  go_wp2
  go_ret
  exact ⟨rfl, HB15.out⟩
set_option maxRecDepth 100000 in
theorem fnExactDeskLine_lifted (os : Os) (started : os.Started) (H : Type) (enc : TypeId × Value -> H) :
  ReturnsInHanded {} Tryz.checked os 3 .any (Rows.fnExactDeskLineSpec.pre6 enc Tryz.prog Tryz.f3 Rows.fnExactDeskLineRow.domain false)
   (Rows.fnExactDeskLineSpec.post enc Tryz.prog Tryz.f3 false true false false) := by
 refine VC (C := Tryz.checked) Tryz.own started (by kernel_rfl) Tryz.func3
  (ChangeSpec.witness6 (enc := enc) (C := Tryz.checked) false ⟨#[], #[.agg #[.slice none 0 0, .slice none 0 0], .string ⟨#[]⟩], []⟩ 8 (by kernel_rfl) (by kernel_rfl) (by kernel_rfl) (by kernel_rfl)) ?_
 intro W base args ds gs before hval0 hW _ hsh _
 have hval : ∀ (j : Nat) t v, Tryz.f3.params[j]? = some t -> args[j]? = some v -> Value.okWide Tryz.prog W .any base t v := hval0
 have hW' := hW
 obtain ⟨p, q, hA0, hV, rfl, _, _⟩ := hW
 have hA : DataW.TrodAll enc Tryz.prog W 0 (fun _ => true) true Tryz.f3.params.toList args.toList ds p := hA0
 rw [Tryz.params3] at hA hval
 obtain ⟨v0, v1, d0, d1, p0, p1, rfl, rfl, rfl, h0, h1⟩ := trodAll_two hA
 obtain ⟨rfl, rfl⟩ := trodVars_none hV
 obtain ⟨a, hu, hfa⟩ := KF Tryz.underlying25 (by kernel_rfl) (by kernel_rfl) Tryz.underlying22 Tryz.underlying23 Tryz.underlying103 (by kernel_rfl) (by kernel_rfl) Tryz.underlying3 Tryz.underlying9 Tryz.underlying9 Tryz.underlying22 Tryz.underlying22 Tryz.underlying105 (by kernel_rfl) (by kernel_rfl) Tryz.underlying9 Tryz.underlying9 Tryz.underlying4 Tryz.underlying37 Tryz.underlying9 (by kernel_rfl) (hval 0 _ v0 rfl rfl) h0
 obtain ⟨s0, rfl, rfl, rfl, hnm⟩ := open_string Tryz.underlying9 (hval 1 _ v1 rfl rfl) h1
 obtain ⟨s, rfl⟩ := xa s0
 refine (QH a s _ W hu hfa hnm (KW hsh)).mono fun e W' ⟨he, hw⟩ => ?_
 subst he
 exact ⟨_, rfl, VK hW' rfl rfl (by kernel_rfl) Tryz.underlying4 Tryz.laidOut (of_decide_eq_true (by kernel_rfl)) hw⟩
theorem fnExactDeskLine_holds : Rows.FnExactDeskLineSaid :=
 OpenClaim.holds_of_wide 3 Tryz.f3 rfl rfl rfl rfl rfl rfl rfl ⟨rfl, rfl, rfl, rfl, rfl⟩ rfl rfl rfl rfl rfl (by kernel_rfl) Tryz.func3 (by kernel_rfl)
  (of_decide_eq_true (by kernel_rfl)) (by unfold Func.isWrapper; first | (rw [if_pos (by decide +kernel)]; kernel_rfl) | (rw [if_neg (by decide +kernel)]; exact ⟨rfl, rfl⟩))
  (fun os started H enc _ => fnExactDeskLine_lifted os started H enc)
#print axioms fnExactDeskLine_holds
end Go.Proofs.YtmboieajfdkllaaGreat
