import Derived.Test.YtmboieajfdkllaaGreatU01
import Derived.Test.YtmboieajfdkllaaGreatU00
import Derived.Test.YtmboieajfdkllaaGreatU07
import Derived.Lib.FrozenHead
import Derived.Lib.OthersKept
import Derived.Shelf.Strings.BuilderK
import Derived.Test.YtmboieajfdkllaaGreatU06
set_option maxHeartbeats 4000000
set_option maxRecDepth 100000
open Go.Proofs.Tryz
namespace Go.Proofs.YtmboieajfdkllaaGreat
open Go.RowKit
def Bld (B b : Nat) (acc : Tx) (w : World) : Prop := Lib.IsBuilder 88 5 B b (Lib.byteCells acc) w
theorem zM (B b : Nat) (acc : Tx) (c : UInt8) (w : World) (h : Bld B b acc w) (hlen : acc.length <= 68719476736) (hBw : B <= w.heap.size) :
  Calls Tryz.prog 149 #[.pointer (some ⟨b, 0, none⟩), .int .u8 (c.toNat : Int)] w fun e w' => e = .returned .nilIface /\ Bld B b (acc ++ [c]) w' /\ Below B w w' := by
 refine (Any.Builder_WriteByte Tryz.laysB167 Tryz.Builder_ExtraB167 B b (Lib.byteCells acc) (c.toNat : Int) w h (by rw [Lib.byteCells_length]; omega) hBw).mono fun e w' ⟨h1, h2, h3⟩ => ⟨h1, ?_, h3⟩
 unfold Bld
 rw [Lib.byteCells_append]
 exact .inr h2
theorem ve (B b : Nat) (acc : Tx) (w : World) (h : Bld B b acc w) (hBw : B <= w.heap.size) :
  Calls Tryz.prog 76 #[.pointer (some ⟨b, 0, none⟩)] w fun e w' => e = .returned (.string ⟨acc.toArray⟩) /\ Below B w w' :=
 Any.Builder_String_any Tryz.lays169 Tryz.Builder_Extra_169 B b acc w h hBw
open Go.Deep
def BF (B b : Nat) (acc : Tx) (w : World) : Prop := Lib.IsBuilderF 88 5 B b (Lib.byteCells acc) w
def KO (B b : Nat) (w w' : World) : Prop := Below B w w' /\ Lib.OthersKept 5 (some b) w w'
theorem KO.trans {B b : Nat} {w w' w'' : World} (h : KO B b w w') (k : KO B b w' w'') : KO B b w w'' := ⟨h.1.trans k.1, h.2.trans k.2⟩
theorem KO.of {B b : Nat} {w w' : World} (h : Below w.heap.size w w') (hB : B <= w.heap.size) : KO B b w w' :=
 ⟨h.mono hB, fun k _ hk _ _ => (h.block k (Array.getElem?_eq_some_iff.1 hk).1).trans hk⟩
theorem KO.refl (B b : Nat) (w : World) : KO B b w w := ⟨Below.refl _ _, Lib.OthersKept.refl _ _ _⟩
theorem KO.set {B b : Nat} {w w' : World} (h : KO B b w w') {p : Addr} (hB : B <= w.heap.size) (hp : w.heap.size <= p.block) (v : Value) : KO B b w (w'.setCell p v) := by
 refine ⟨h.1.setCell (Nat.le_trans hB hp) v, fun k o hk hb ho => ?_⟩
 have hlt : k < w.heap.size := (Array.getElem?_eq_some_iff.1 hk).1
 rw [Below.heap_setCell _ _ _ _ (by omega)]
 exact h.2 k o hk hb ho
theorem KO.set4 {B b : Nat} {w w' : World} (h : KO B b w w') {c : Nat} (hB : B <= w.heap.size) (hp : w.heap.size <= c) (v0 v1 v2 v3 : Value) : KO B b w ((((w'.setCell ⟨c, 0, none⟩ v0).setCell ⟨c, 1, none⟩ v1).setCell ⟨c, 2, none⟩ v2).setCell ⟨c, 3, none⟩ v3) :=
 (((h.set (p := ⟨c, 0, none⟩) hB hp v0).set (p := ⟨c, 1, none⟩) hB hp v1).set (p := ⟨c, 2, none⟩) hB hp v2).set (p := ⟨c, 3, none⟩) hB hp v3
theorem KO.bx {B b k : Nat} {w w' : World} {cs : Array Value} {T : TypeId} {fz : Nat × Nat} (h : KO B b w w') (hk : w.heap[k]? = some (.cells cs T fz)) (hb : k ≠ b) (hT : T ≠ 5) : w'.heap[k]? = some (.cells cs T fz) :=
 h.2 k _ hk (by intro e; injection e with e; exact hb e) (fun c fz' e => by injection e with _ e2; exact hT e2)
def Sb (B b : Nat) (w : World) (k : Nat) : Prop := k < B /\ k < w.heap.size \/ ∃ cs T fz, k ≠ b /\ T ≠ 5 /\ w.heap[k]? = some (.cells cs T fz)
theorem Sb.lt {B b k : Nat} {w : World} (h : Sb B b w k) : k < w.heap.size := by
 rcases h with h | ⟨cs, T, fz, _, _, h⟩
 ·exact h.2
 exact (Array.getElem?_eq_some_iff.1 h).1
theorem Sb.ko {B b k : Nat} {w w' : World} (h : Sb B b w k) (hk : KO B b w w') : w'.heap[k]? = w.heap[k]? /\ Sb B b w' k := by
 rcases h with h | ⟨cs, T, fz, h1, h2, h3⟩
 ·exact ⟨hk.1.block k h.1, .inl ⟨h.1, Nat.lt_of_lt_of_le h.2 hk.1.size⟩⟩
 have h4 := hk.bx h3 h1 h2
 exact ⟨h4.trans h3.symm, .inr ⟨cs, T, fz, h1, h2, h4⟩⟩
theorem RdF.ko {B b : Nat} {w w' : World} {A : Option Addr} {fs : List Fd} (h : RdF w (Sb B b w) A fs) (hk : KO B b w w') : RdF w' (Sb B b w') A fs :=
 h.keep (fun _ hp => World.cell?_of_block (hp.ko hk).1) (fun _ hp => (hp.ko hk).2)
theorem RdIn.ko {B b : Nat} {w w' : World} {A : Option Addr} {vs : List Value} (h : RdIn w (Sb B b w) A vs) (hk : KO B b w w') : RdIn w' (Sb B b w') A vs :=
 h.keep (fun _ hp => World.cell?_of_block (hp.ko hk).1) (fun _ hp => (hp.ko hk).2)
theorem RdF.all {B b : Nat} {w : World} {A : Option Addr} {fs : List Fd} (h : RdF w (Sb B b w) A fs) : RdF w (All w) A fs := h.keep (fun _ _ => rfl) (fun _ hp => hp.lt)
theorem RdP.ko {B b : Nat} {w w' : World} {A : Option Addr} {xs : List Pt} (h : RdP w (fun k => k < B) A xs) (hk : KO B b w w') : RdP w' (fun k => k < B) A xs :=
 h.keep (fun _ hp => hk.1.cell hp) (fun _ hp => hp)
theorem BF.lt {B b : Nat} {acc : Tx} {w : World} (h : BF B b acc w) : b < w.heap.size := by
 rcases h with h | h
 ·exact h.lt
 exact h.lt
theorem BF.blk {B b : Nat} {acc : Tx} {w : World} (h : BF B b acc w) : ∃ cs, w.heap[b]? = some (.cells cs 88 (0, 0)) := by
 rcases h with ⟨_, v, h, _⟩ | ⟨_, v, h, _⟩
 ·exact ⟨_, h⟩
 exact ⟨_, h⟩
theorem BF.ne {B b k : Nat} {acc : Tx} {w : World} {cs : Array Value} {T : TypeId} {fz : Nat × Nat} (h : BF B b acc w) (hk : w.heap[k]? = some (.cells cs T fz)) (hT : T ≠ 88) : k ≠ b := by
 intro e
 subst e
 obtain ⟨cs', h'⟩ := h.blk
 rw [hk] at h'
 injection h' with h'
 injection h' with _ h2
 exact hT h2
theorem Qp {B b : Nat} {p : Value} {bs : List Value} {w w' : World} (h : Lib.BuilderAtF 88 5 B b p bs w) (row : Option Nat) (hg : w.grownBy w' row) (hr : row ≠ some b) (hn : ∀ v, w.heap[b]? = some (.cells #[p, v] 88 (0, 0)) -> w.ownsRowF B 5 1 v bs.length bs -> v.ownBlock = none \/ v.ownBlock ≠ row) : Lib.BuilderAtF 88 5 B b p bs w' := by
 have hlt := h.lt
 obtain ⟨hB, v, hb, hown, hne⟩ := h
 exact ⟨hB, v, (hg.block b hlt (fun e => hr e.symm)).trans hb, hown.kept hg (hn v hb hown), hne⟩
theorem BF.keep {B b : Nat} {acc : Tx} {w w' : World} (h : BF B b acc w) (hb : Below w.heap.size w w') : BF B b acc w' := by
 have key : ∀ p, Lib.BuilderAtF 88 5 B b p (Lib.byteCells acc) w -> Lib.BuilderAtF 88 5 B b p (Lib.byteCells acc) w' := fun p h => Qp h none (jg hb none) (by simp) (fun v _ _ => by cases v.ownBlock <;> simp)
 exact h.elim (fun h => .inl (key _ h)) (fun h => .inr (key _ h))
theorem BF.set {B b k : Nat} {acc : Tx} {w : World} {cs : Array Value} {T : TypeId} {fz : Nat × Nat} (h : BF B b acc w) (hk : w.heap[k]? = some (.cells cs T fz)) (hT : T ≠ 88) (hT2 : T ≠ 5) (o : Nat) (v : Value) : BF B b acc (w.setCell ⟨k, o, none⟩ v) := by
 have hne := h.ne hk hT
 have hg : w.grownBy (w.setCell ⟨k, o, none⟩ v) (some k) := vD (xb w (some k)) o v
 have key : ∀ p, Lib.BuilderAtF 88 5 B b p (Lib.byteCells acc) w -> Lib.BuilderAtF 88 5 B b p (Lib.byteCells acc) (w.setCell ⟨k, o, none⟩ v) := fun p h => Qp h (some k) hg (fun e => by injection e with e; exact hne e) (fun v _ ho => .inr (Lib.ownBlock_neF ho hk hT2))
 exact h.elim (fun h => .inl (key _ h)) (fun h => .inr (key _ h))
theorem BF.set4 {B b k : Nat} {acc : Tx} {w : World} {c0 c1 c2 c3 : Value} {T : TypeId} (h : BF B b acc w) (hk : w.heap[k]? = some (.cells #[c0, c1, c2, c3] T (0, 0))) (hT : T ≠ 88) (hT2 : T ≠ 5) (v0 v1 v2 v3 : Value) : BF B b acc ((((w.setCell ⟨k, 0, none⟩ v0).setCell ⟨k, 1, none⟩ v1).setCell ⟨k, 2, none⟩ v2).setCell ⟨k, 3, none⟩ v3) :=
 (((h.set hk hT hT2 0 v0).set (qP hk) hT hT2 1 v1).set (qP (qP hk)) hT hT2 2 v2).set (qP (qP (qP hk))) hT hT2 3 v3
theorem kl (B b : Nat) (acc s : Tx) (w : World) (h : BF B b acc w) (hlen : acc.length + s.length <= 140737488355328) (hBw : B <= w.heap.size) :
  Calls Tryz.prog 72 #[.pointer (some ⟨b, 0, none⟩), sv s] w fun e w' => (∃ v, e = .returned (.tuple v)) /\ BF B b (acc ++ s) w' /\ KO B b w w' := by
 refine (Any.Builder_WriteString_k Tryz.laysB166 Tryz.Builder_ExtraB166 B b (Lib.byteCells acc) ⟨s.toArray⟩ w h (by rw [Lib.byteCells_length]; simpa [ByteArray.size] using hlen) hBw).mono fun e w' ⟨h1, h2, h3, h4⟩ => ⟨⟨_, h1⟩, ?_, h3, h4⟩
 unfold BF
 rw [Lib.byteCells_append]
 exact .inr h2
theorem Qq (B b : Nat) (acc : Tx) (w : World) (h : BF B b acc w) (hBw : B <= w.heap.size) :
  Calls Tryz.prog 76 #[.pointer (some ⟨b, 0, none⟩)] w fun e w' => e = .returned (sv acc) /\ Below B w w' :=
 (Tryz.Builder_String_any_k B b acc w h hBw).mono fun _ _ ⟨h1, _, h3, _⟩ => ⟨h1, h3⟩
theorem Qr (w : World) : BF w.heap.size w.heap.size [] (w.alloc (.cells #[.pointer none, .slice none 0 0] 88)) :=
 .inl ⟨Nat.le_refl _, _, heap_alloc_new w _, World.ownsRowF_nil _ _ _ _, by simp [Value.ownBlock]⟩
theorem Vw {w : World} {base c : Nat} {A : Option Addr} {is : List Tx} (h : OwnS w base A c is) {g : Nat} (hg : Value.ownBlock (.slice A is.length c) = some g) : base <= g /\ ∃ cs, w.heap[g]? = some (.cells cs 9 (0, 0)) := by
 rcases h.2 with ⟨hv, _⟩ | ⟨g', cap, cur, hv, hbg, hgg, _⟩
 ·rw [hv] at hg; simp [Value.ownBlock] at hg
 rw [hv] at hg
 simp only [Value.ownBlock, Option.some.injEq] at hg
 subst hg
 exact ⟨hbg, cur, hgg⟩
theorem Vx {w : World} {base c : Nat} {A : Option Addr} {rs : List FRaw} (h : OwnF w base A c rs) {g : Nat} (hg : Value.ownBlock (.slice A rs.length c) = some g) : base <= g /\ ∃ cs, w.heap[g]? = some (.cells cs 62 (0, 0)) := by
 rcases h.2 with ⟨hv, _⟩ | ⟨g', cap, cur, hv, hbg, hgg, _⟩
 ·rw [hv] at hg; simp [Value.ownBlock] at hg
 rw [hv] at hg
 simp only [Value.ownBlock, Option.some.injEq] at hg
 subst hg
 exact ⟨hbg, cur, hgg⟩
theorem Qa {f : Func} {k j b : Nat} {tmps : Array Value} {n t : Tx} {h : Bool} {A : Option Addr} {l c : Nat} {u : Value} {w : World} (hf : f.results = #[.cell k 62, .tmp j]) (ht : tmps[k]?.getD undef = .pointer (some ⟨b, 0, none⟩)) (hj : tmps[j]?.getD undef = u) (hb : w.heap[b]? = some (.cells (qC n t h A l c) 62 (0, 0))) :
  (results f tmps).run Tryz.prog w = .ok (.tuple #[fdV n t h A l c, u]) w := by
 obtain ⟨⟨y0, y1, y2, y3⟩, -⟩ := qh hb
 simp [results, go_sem, *]
theorem xt {w : World} {base c k : Nat} {A : Option Addr} {xs : List Tx} (h : OwnS w base A c xs) (hk : k < base) (o : Nat) (v : Value) : OwnS (w.setCell ⟨k, o, none⟩ v) base A c xs := by
 refine World.ownsRow.kept h (vD (xb w (some k)) o v) ?_
 cases hv : Value.ownBlock (.slice A xs.length c) with
 | none => exact .inl rfl
 | some g => exact .inr fun e => by injection e with e; have := (h.lt g hv).1; omega
theorem ownSF4 {w : World} {base c k : Nat} {A : Option Addr} {xs : List Tx} (h : OwnS w base A c xs) (hk : k < base) (v0 v1 v2 v3 : Value) : OwnS ((((w.setCell ⟨k, 0, none⟩ v0).setCell ⟨k, 1, none⟩ v1).setCell ⟨k, 2, none⟩ v2).setCell ⟨k, 3, none⟩ v3) base A c xs :=
 xt (xt (xt (xt h hk 0 v0) hk 1 v1) hk 2 v2) hk 3 v3
def GotI (w w' : World) (f : Fd) (e : Ending) : Prop := ∃ nm A c v, e = .returned (.tuple #[fdV nm f.text f.holds A f.items.length c, v]) /\ OwnS w' w.heap.size A c f.items
theorem Qb (fs : List Fd) (n : Tx) (A : Option Addr) (c : Nat) (w : World) (hx : RdF w (All w) A fs) (hl : fs.length <= 1048576) (hi : ∀ f ∈ fs, f.items.length <= 1048576) :
  Calls Tryz.prog 111 #[.slice A fs.length c, sv n] w fun e w' => GotI w w' (Fd.get fs n) e /\ Below w.heap.size w w' := by
 have HX := qb hx
 have HI := qb hi
 obtain ⟨r, hr⟩ : ∃ r, r = Fd.find fs n := ⟨_, rfl⟩
 have HG : Hid (Fd.get fs n = r.getD Fd.none_) := by show _ = _; rw [hr]; rfl
 have HR := qb hr.symm
 clear hr hx hi
 go_enter func111, ntmps111
 go_wp2
 go_loopw [10] (fun i wr => ∃ (j : Nat), j <= fs.length /\ i = .int .i64 j /\ wr.heap[w.heap.size]? = some (.cells jP 62 (0, 0)) /\ Fd.find (fs.drop j) n = r /\ Below w.heap.size w wr) (fun i _ => fs.length - (intOf i).toNat)
 case atStart => exact ⟨0, Nat.zero_le _, rfl, heap_alloc_new w _, by rw [List.drop_zero]; exact HR.out, (Below.refl _ _).alloc (Nat.le_refl _) _⟩
 obtain ⟨j, hj, rfl, h0, hd, hb⟩ := hrel
 have HB := qb hb
 have H0 := qb h0
 have HD := qb hd
 have hz : w.heap.size < wr.heap.size := lt_of_block h0
 clear h0 hd hb
 by_cases hlt : j < fs.length
 ·obtain ⟨b1, o1, rfl, hb1, nn, tt, hh, is, Ai, ci, hxj, k1, k2, d0, d1, d2, d3⟩ := HX.out.at2 hlt
  have hil : is.length <= 1048576 := by have := HI.out _ (List.getElem_mem hlt); rw [hxj] at this; exact this
  have c0 := (HB.out.cell (p := ⟨b1, o1 + j * 4, none⟩) hb1).trans d0
  have c1 := (HB.out.cell (p := ⟨b1, o1 + j * 4 + 1, none⟩) hb1).trans d1
  have c2 := (HB.out.cell (p := ⟨b1, o1 + j * 4 + 2, none⟩) hb1).trans d2
  have c3 := (HB.out.cell (p := ⟨b1, o1 + j * 4 + 3, none⟩) hb1).trans d3
  clear d0 d1 d2 d3
  have hst := Fd.find_step HD.out hlt
  rw [hxj] at hst
  have HS := qb hst
  clear hst hxj
  have HBX := qb (heap_alloc_new wr (.cells (qC nn tt hh Ai is.length ci) 62))
  have HBA := qb ((Below.refl wr.heap.size wr).alloc (Nat.le_refl _) (.cells (qC nn tt hh Ai is.length ci) 62))
  have HK := qb k1
  have HB2 := qb (qa3 HB.out HBA.out)
  have H02 := qb (qi H0.out HBA.out)
  have hza1 : wr.heap.size < (wr.alloc (.cells (qC nn tt hh Ai is.length ci) 62)).heap.size := by simp
  clear k1
  go_upto_region 4 with fail
  generalize wr.alloc (.cells (qC nn tt hh Ai is.length ci) 62) = wb at *
  obtain ⟨⟨f0, f1, f2, f3⟩, q0, q1, q2, q3⟩ := qh HBX.out
  clear c0 c1 c2 c3
  by_cases hq : nn = n
  ·have hq' : (nn == n) = true := by simpa using hq
   have HE : Hid (Fd.get fs n = ⟨nn, tt, hh, is⟩) := by show _ = _; rw [HG.out, <- HS.out, if_pos hq]; rfl
   clear hq
   have HE0 := qb (xF wb wb.heap.size (Nat.le_refl _))
   have HBE := qb ((Below.refl wb.heap.size wb).alloc (Nat.le_refl _) (.cells #[] 9))
   have HKE : Hid (RdIn (wb.alloc (.cells #[] 9)) (All w) Ai (qS is)) := HK.out.keep (fun p hp => (HBE.out.cell (p := p) (Nat.lt_of_lt_of_le hp HB2.out.size)).trans (HB2.out.cell hp)) (fun _ h => h)
   go_wp2_with (at_builtin; refine vr rfl _ _ rfl wb.heap.size (some ⟨wb.heap.size, 0, none⟩) 0 [] (by rfl) HE0.out Ai ci is (by rfl) HKE.out (fun b h => by have := HB2.out.size; have h2 : b < w.heap.size := h; simp; omega) (by simp; omega) (by simp) ?_; intro A2 c2 w3 ho3 hg3; have HO3 := qb ho3; have HB3 := qb (HBE.out.trans (zo hg3 (by simp) (fun g hg => by simp [Value.ownBlock] at hg; omega))); have hx3 := qi HBX.out HB3.out; have hy3 := qi H02.out HB3.out; have HX3 := qb hx3; have HY3 := qb hy3; obtain ⟨⟨e0, e1, e2, e3⟩, r0, r1, r2, r3⟩ := qh hx3; obtain ⟨⟨y0, y1, y2, y3⟩, p0, p1, p2, p3⟩ := qh hy3; have hz3 := HB3.out.size; clear ho3 hg3 hx3 hy3 f0 f1 f2 f3 q0 q1 q2 q3)
   have HZ0 := qb ((Below.heap_setCell w3 ⟨wr.heap.size, 3, none⟩ (.slice A2 is.length c2) w.heap.size (show w.heap.size ≠ wr.heap.size by omega)).trans HY3.out)
   have HOF := qb (ownSF4 (k := w.heap.size) (xt (k := wr.heap.size) (zC HO3.out (show wr.heap.size + 1 <= wb.heap.size by omega)) (Nat.lt_succ_self _) 3 (.slice A2 is.length c2)) (by omega) (sv nn) (sv tt) (.bool hh) (.slice A2 is.length c2))
   refine bodyPost_ret (Qa (n := nn) (t := tt) (h := hh) (A := A2) (l := is.length) (c := c2) (u := .bool true) results111 rfl rfl (xQ HZ0.out)) rfl ⟨⟨nn, A2, c2, .bool true, by rw [HE.out], ?_⟩, xR (Below.setCell (qa3 HB2.out HB3.out) (p := ⟨wr.heap.size, 3, none⟩) (by show w.heap.size <= wr.heap.size; omega) _) (Nat.le_refl _) _ _ _ _⟩
   rw [HE.out]
   exact zC HOF.out (by omega)
  have hq' : (nn == n) = false := by simpa using hq
  have HN : Hid (Fd.find (fs.drop (j + 1)) n = r) := by show _ = _; rw [<- HS.out, if_neg hq]
  clear hq k2
  go_wp2
  go_roundw
  case rel => exact ⟨j + 1, by omega, by go_num, H02.out, HN.out, HB2.out⟩
  case measure => simp [intOf]; omega
 have HE : Hid (Fd.get fs n = Fd.none_) := by show _ = _; rw [HG.out, <- Fd.find_end HD.out hlt]; rfl
 obtain ⟨⟨y0, y1, y2, y3⟩, p0, p1, p2, p3⟩ := qh H0.out
 go_wp2
 exact bodyPost_ret (Qa (n := []) (t := []) (h := false) (A := none) (l := 0) (c := 0) (u := .bool false) results111 rfl rfl (xQ H0.out)) rfl ⟨⟨[], none, 0, .bool false, by rw [HE.out]; rfl, by rw [HE.out]; exact Jo _ _⟩, xR HB.out (Nat.le_refl _) _ _ _ _⟩
theorem Qc (fs : List Fd) (t : Tx) (A : Option Addr) (c : Nat) (S : Nat -> Prop) (w : World) (hS : ∀ b, S b -> b < w.heap.size) (hx : RdF w S A fs) (hl : fs.length <= 1048576) :
  Calls Tryz.prog 114 #[.slice A fs.length c, sv t] w (NewW w S (Fd.withI fs t)) := by
 have HX := qb hx
 have HSS := qb hS
 clear hx hS
 go_enter func114, ntmps114
 go_wp2
 go_loopw [5, 13] (fun o i wr => ∃ (j : Nat) (A2 : Option Addr) (c2 : Nat) (rs : List FRaw), j <= fs.length /\ i = .int .i64 j /\ o = .slice A2 rs.length c2 /\ OwnF wr w.heap.size A2 c2 rs /\ ElsF w S rs (⟨Fd.item, t, false, []⟩ :: Fd.rest (fs.take j)) /\ Below w.heap.size w wr) (fun _ i _ => fs.length - (intOf i).toNat)
 case atStart =>
  refine ⟨0, _, 1, [⟨Fd.item, t, false, none, 0, 0⟩], Nat.zero_le _, rfl, rfl, yQ w ⟨Fd.item, t, false, none, 0, 0⟩, ElsF.cons (vK _ _ _) (by rw [List.take_zero]; exact ElsF.nil), (Below.refl _ _).alloc (Nat.le_refl _) _⟩
 obtain ⟨j, A2, c2, rs, hj, rfl, rfl, hown, hels, hb⟩ := hrel
 have HB := qb hb
 have HEL := qb hels
 have hrl : rs.length <= 2000000 := by
  have h1 := hels.1
  have h2 := Fd.rest_len (fs.take j)
  rw [h1, List.length_cons]
  have h3 : (fs.take j).length <= j := by rw [List.length_take]; omega
  omega
 have HOW := qb hown
 clear hown hels hb
 by_cases hlt : j < fs.length
 ·obtain ⟨b1, o1, rfl, hbS, nn, tt, hh, is, Ai, ci, hxj, k1, d0, d1, d2, d3⟩ := HX.out.el hlt
  have hb1 := HSS.out _ hbS
  have c0 := (HB.out.cell (p := ⟨b1, o1 + j * 4, none⟩) hb1).trans d0
  have c1 := (HB.out.cell (p := ⟨b1, o1 + j * 4 + 1, none⟩) hb1).trans d1
  have c2' := (HB.out.cell (p := ⟨b1, o1 + j * 4 + 2, none⟩) hb1).trans d2
  have c3 := (HB.out.cell (p := ⟨b1, o1 + j * 4 + 3, none⟩) hb1).trans d3
  clear d0 d1 d2 d3
  have hrt := Fd.rest_take fs j hlt
  rw [hxj] at hrt
  have HRT := qb hrt
  have HK := qb k1
  have hBA := (Below.refl wr.heap.size wr).alloc (Nat.le_refl _) (.cells (qC nn tt hh Ai is.length ci) 62)
  have HBA := qb hBA
  have HBX := qb (heap_alloc_new wr (.cells (qC nn tt hh Ai is.length ci) 62))
  have HOWb := qb (kP HOW.out hBA)
  have HBb := qb (qa3 HB.out hBA)
  clear hrt hxj k1 hBA
  go_upto_region 5 with fail
  generalize wr.alloc (.cells (qC nn tt hh Ai is.length ci) 62) = wb at *
  obtain ⟨⟨f0, f1, f2, f3⟩, -⟩ := qh HBX.out
  clear c0 c1 c2' c3
  by_cases hq : nn = Fd.item
  ·subst hq
   have HN : Hid (Fd.rest (fs.take (j + 1)) = Fd.rest (fs.take j)) := by show _ = _; rw [HRT.out, if_pos rfl, List.append_nil]
   unfold Fd.item at f0
   go_wp2
   go_roundw
   case rel => exact ⟨j + 1, _, _, rs, by omega, by go_num, rfl, HOWb.out, by rw [HN.out]; exact HEL.out, HBb.out⟩
   case measure => simp [intOf]; omega
  have HN : Hid (Fd.rest (fs.take (j + 1)) = Fd.rest (fs.take j) ++ [⟨nn, tt, hh, is⟩]) := by show _ = _; rw [HRT.out, if_neg hq]
  have hq' : (nn == [105, 116, 101, 109]) = false := by simpa [Fd.item] using hq
  clear hq HRT
  have hBC := (Below.refl wb.heap.size wb).alloc (Nat.le_refl _) (.cells #[sv nn, sv tt, .bool hh, .slice Ai is.length ci] 62)
  have HBC := qb hBC
  have HRW := qb (jJ (us := [⟨nn, tt, hh, Ai, is.length, ci⟩]) (heap_alloc_new wb (.cells #[sv nn, sv tt, .bool hh, .slice Ai is.length ci] 62)) rfl)
  have HOW2 := qb (kP HOWb.out hBC)
  clear hBC
  go_wp2_with (at_builtin; refine jI rfl _ _ rfl w.heap.size A2 c2 rs [⟨nn, tt, hh, Ai, is.length, ci⟩] (by rfl) HOW2.out wb.heap.size 0 1 (by rfl) HRW.out (by simp) (by omega) (by have := HBb.out.size; simp; omega) ?_; intro A3 c3' w3 ho3 hg3 hbk3; have HO3 := qb ho3; have HG3 := qb (HBb.out.trans ((HBC.out.mono HBb.out.size).trans (zo hg3 (by have := HBb.out.size; simp; omega) (fun g hg => (HOW2.out.lt g hg).1)))); clear ho3 hg3 hbk3)
  go_roundw
  case rel => exact ⟨j + 1, A3, c3', rs ++ [⟨nn, tt, hh, Ai, is.length, ci⟩], by omega, by go_num, by simp, HO3.out, by rw [HN.out]; exact HEL.out.append (ElsF.cons HK.out ElsF.nil), HG3.out⟩
  case measure => simp [intOf]; omega
 have HT : Hid (fs.take j = fs) := by show _ = _; exact List.take_of_length_le (by omega)
 go_wp2
 go_ret
 refine ⟨_, _, rs, rfl, HOW.out, ?_, HB.out⟩
 rw [HT.out] at HEL
 exact HEL.out.keep (fun p hp => HB.out.cell (HSS.out _ hp)) (fun _ h => h)
end Go.Proofs.YtmboieajfdkllaaGreat
