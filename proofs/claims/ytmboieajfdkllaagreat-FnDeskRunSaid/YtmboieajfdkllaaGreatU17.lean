import Derived.Test.YtmboieajfdkllaaGreatU05
import Derived.Test.YtmboieajfdkllaaGreatU03
import Derived.Laws.StructEq
import Derived.KernelRfl
import Derived.Test.YtmboieajfdkllaaGreatU16
open Go.Proofs.Tryz
namespace Go.Proofs.YtmboieajfdkllaaGreat
open Go
section
variable {P : Program} {l : List Oper} {n : Nat} {a0 : Act} {W : (Nat -> Bool) -> Act -> World -> Prop} {Keep : Nat -> World -> World -> Prop} {F : Nat -> World -> Value -> Prop}
def WStep (P : Program) (l : List Oper) (n : Nat) (a0 : Act) (W : (Nat -> Bool) -> Act -> World -> Prop) (Keep : Nat -> World -> World -> Prop) (F : Nat -> World -> Value -> Prop) (i : Nat) : Prop :=
 ∀ o, l[i]? = some o -> ∀ (L : Nat -> Bool) (a : Act) (w : World), L i = false -> W L a w -> (∀ s, (∀ j < n, hdst l j ≠ some s) -> a.tmps[s]? = a0.tmps[s]?) →
  (∀ j, Region.waitsFor .any l.toArray i j = true -> ∀ d, hdst l j = some d -> F j w (a.tmps.getD d undef)) →
  ∀ (K : Act -> World -> Prop) (Q : Exit -> Act -> World -> Prop), (∀ v w', W (upd L i) (a.put o.dst v) w' -> Keep i w w' -> F i w' v -> K (a.put o.dst v) w') -> o.wp P a w K Q
structure WInv (l : List Oper) (n : Nat) (a0 : Act) (W : (Nat -> Bool) -> Act -> World -> Prop) (F : Nat -> World -> Value -> Prop) (listed : Array Bool) (a : Act) (w : World) : Prop where
 head : HeadInv .any l.toArray n listed
 world : W (fun i => listed.getD i false) a w
 defers : a.defers = a0.defers
 size : a.tmps.size = a0.tmps.size
 base : ∀ s, (∀ i < n, listed.getD i false = true -> hdst l i ≠ some s) -> a.tmps[s]? = a0.tmps[s]?
 vals : ∀ i < n, listed.getD i false = true -> ∀ d, hdst l i = some d -> F i w (a.tmps.getD d undef)
theorem XZ {Q : Exit -> Act -> World -> Prop} (hB : jx l n a0.tmps.size = true) (hkeep : ∀ i < n, ∀ j < n, j ≠ i -> ∀ w w' v, Keep i w w' -> F j w v -> F j w' v)
  (hstep : ∀ i < n, WStep P l n a0 W Keep F i)
  (hfin : ∀ (vs : Nat -> Value) (w' : World) (L : Nat -> Bool), (∀ i < n, L i = true) -> (∀ i < n, ∀ d, hdst l i = some d -> (qF l vs n a0).tmps.getD d undef = vs i) -> W L (qF l vs n a0) w' -> (∀ i < n, F i w' (vs i)) -> wpList P l.toArray Q (l.drop n) (qF l vs n a0) w') :
  ∀ (f : Nat) (listed : Array Bool) (a : Act) (w : World), cnt listed n = f -> WInv l n a0 W F listed a w -> wpAny P .any l.toArray Q (f + (l.length - n)) listed a w := by
 simp only [jx, Bool.and_eq_true, decide_eq_true_eq, List.all_eq_true, List.mem_range] at hB
 obtain ⟨⟨⟨⟨hn, hsink⟩, hchain⟩, hall⟩, hseq⟩ := hB
 have hn' : n < l.toArray.size := by simpa using hn
 intro f
 induction f with
 | zero =>
  intro listed a w hc inv
  rw [Nat.zero_add]
  have hl1 := xo hc
  have hls : listed.size = l.length := by simpa using inv.head.size
  have hl := ZW (l := l) (by omega) hls hl1 (fun t ht htl => inv.head.tail t ht (by simpa using htl))
  have hfa : a = qF l (fun i => match hdst l i with | some d => a.tmps.getD d undef | none => undef) n a0 := by
   obtain ⟨p1, p2, p3, p4⟩ := vw (l := l) (n := n) (a0 := a0) (fun i => match hdst l i with | some d => a.tmps.getD d undef | none => undef) (fun i hi => (hall i hi).2) n (Nat.le_refl _)
   generalize qF l (fun i => match hdst l i with | some d => a.tmps.getD d undef | none => undef) n a0 = b at *
   have e1 : a.tmps = b.tmps := by
    apply Array.ext_getElem?
    intro s
    by_cases hex : ∃ i, i < n /\ hdst l i = some s
    ·obtain ⟨i, hi, hd⟩ := hex
     rw [p3 i hi s hd]
     simp only [hd]
     have hsz : s < a.tmps.size := by
      obtain ⟨d, hd2, hdm, _⟩ := zS (hall i hi).2
      rw [hd] at hd2
      cases hd2
      rw [inv.size]; exact hdm
     simp [hsz]
    have hno : ∀ i < n, hdst l i ≠ some s := fun i hi e => hex ⟨i, hi, e⟩
    rw [p4 s hno]
    exact inv.base s fun i hi _ => hno i hi
   have e2 : a.defers = b.defers := by rw [inv.defers, p1]
   cases a; cases b
   simp only at e1 e2
   rw [e1, e2]
  have hsz := hfin (fun i => match hdst l i with | some d => a.tmps.getD d undef | none => undef) w _ hl1 (fun i _ d hd => by rw [<- hfa]; simp only [hd]) (by rw [<- hfa]; exact inv.world) (fun i hi => by
   obtain ⟨d, hd, _, _⟩ := zS (hall i hi).2
   simp only [hd]
   exact inv.vals i hi (hl1 i hi) d hd)
  rw [<- hfa] at hsz
  have := wpAny_of_seq (md := .any) (Q' := Q) (l.drop n) n listed a w (fun j => by simp [List.getElem?_drop]) (by rw [List.length_drop, hl]; exact hseq) hsz
  rwa [List.length_drop] at this
 | succ f ih =>
  intro listed a w hc inv
  have hls : listed.size = l.length := by simpa using inv.head.size
  obtain ⟨i0, hi0, hu0, hbef⟩ := kf (listed := listed) (n := n) (by omega)
  have hi0r : i0 ∈ Region.ready .any l.toArray listed := by
   have h1 := (hall i0 hi0).1
   unfold jc at h1
   split at h1
   ·rename_i o ho
    simp only [Bool.and_eq_true, Array.all_eq_true'] at h1
    refine mem_ready.2 ⟨getD_in (by omega) hu0, o, by simpa using ho, fun e he hb => ?_⟩
    have := h1.2 e he
    simp only [hb, Bool.not_true, Bool.false_or, decide_eq_true_eq] at this
    exact hbef _ this
   cases h1
  rw [show f + 1 + (l.length - n) = f + (l.length - n) + 1 by omega]
  refine ⟨fun h0 => (by rw [h0] at hi0r; cases hi0r), fun i hi => ?_⟩
  have hin : i < n := by
   rcases Nat.lt_or_ge i n with h | h
   ·exact h
   exact absurd hi (tail_waits hsink hchain hn' inv.head _ i0 rfl hi0 (getD_in (by omega) hu0) i h)
  obtain ⟨hun, o, ho, haft⟩ := mem_ready.1 hi
  have hol : l[i]? = some o := by simpa using ho
  have hgu : o.guard.isNone = true := by
   have h1 := (hall i hin).1
   unfold jc at h1
   rw [hol] at h1
   simp only [Bool.and_eq_true] at h1
   exact h1.1
  obtain ⟨d, hd, hdm, _⟩ := zS (hall i hin).2
  have hod : o.dst = some d := by simpa [hdst, hol] using hd
  have hunf := getD_both hun
  unfold wpOp
  simp only [ho, vv hgu, if_true]
  left
  have hcs := ke (n := n) (by omega) hunf hin
  refine hstep i hin o hol _ a w hunf inv.world (fun s hs => inv.base s fun j hj _ => hs j hj) (fun j hj d' hd' => ?_) _ Q fun v w' hw' hk hv => ?_
  ·obtain ⟨oi, hoi, e, he, hb, hon⟩ := Region.waitsFor_spec hj
   have : oi = o := Option.some.inj (hoi.symm.trans ho)
   subst this
   have hl2 := haft e he hb
   rw [hon] at hl2
   have hjn : j < n := by
    have h1 := (hall i hin).1
    unfold jc at h1
    rw [hol] at h1
    simp only [Bool.and_eq_true, Array.all_eq_true'] at h1
    have := h1.2 e he
    simp only [hb, Bool.not_true, Bool.false_or, decide_eq_true_eq] at this
    omega
   exact inv.vals j hjn hl2 d' hd'
  rw [hod]
  refine ih _ _ w' (by omega) ⟨inv.head.set hi hin, ?_, ?_, ?_, ?_, ?_⟩
  ·show W (fun j => (listed.setIfInBounds i true).getD j false) (a.put (some d) v) w'
   rw [ZL (by omega)]; rw [hod] at hw'; exact hw'
  ·simpa [Act.put] using inv.defers
  ·simpa [Act.put] using inv.size
  ·intro s hs
   have hne : d ≠ s := fun e => hs i hin (xn (by omega)) (by rw [hd, e])
   rw [jd hne]
   exact inv.base s fun j hj hl => hs j hj (getD_set_true hl)
  intro j hj hl d' hd'
  by_cases hij : i = j
  ·subst hij
   rw [hd] at hd'
   cases hd'
   rw [ZU (by rw [inv.size]; exact hdm)]
   exact hv
  rw [getD_set_ne false hij] at hl
  have hne : d ≠ d' := by
   intro e
   subst e
   obtain ⟨di, hdi, _, hi2⟩ := zS (hall i hin).2
   obtain ⟨dj, hdj, _, hj2⟩ := zS (hall j hj).2
   rw [hd] at hdi; cases hdi
   rw [hd'] at hdj; cases hdj
   rcases Nat.lt_or_gt_of_ne hij with h | h
   ·exact hj2 i h hd
   exact hi2 j h hd'
  rw [ZV (jd hne v)]
  exact hkeep i hin j hj (fun e => hij e.symm) w w' _ hk (inv.vals j hj hl d' hd')
theorem Ka {id : Nat} {Q : Exit -> Act -> World -> Prop} {w : World} (n : Nat) (hm : P.follows .mixedOrders = true) (hB : jx l n a0.tmps.size = true)
  (W : (Nat -> Bool) -> Act -> World -> Prop) (Keep : Nat -> World -> World -> Prop) (F : Nat -> World -> Value -> Prop) (hW : W (fun _ => false) a0 w.drew) (hkeep : ∀ i < n, ∀ j < n, j ≠ i -> ∀ w w' v, Keep i w w' -> F j w v -> F j w' v)
  (hstep : ∀ i < n, WStep P l n a0 W Keep F i)
  (hfin : ∀ (vs : Nat -> Value) (w' : World) (L : Nat -> Bool), (∀ i < n, L i = true) -> (∀ i < n, ∀ d, hdst l i = some d -> (qF l vs n a0).tmps.getD d undef = vs i) -> W L (qF l vs n a0) w' -> (∀ i < n, F i w' (vs i)) -> wpList P l.toArray Q (l.drop n) (qF l vs n a0) w') :
  (Code.region id l.toArray true).wp P Q a0 w := by
 have hB' := hB
 simp only [jx, Bool.and_eq_true, decide_eq_true_eq, List.all_eq_true, List.mem_range] at hB'
 obtain ⟨⟨⟨⟨hn, _⟩, _⟩, _⟩, _⟩ := hB'
 refine wp_region_any hm ?_
 have hsz : l.toArray.size = l.length := by simp
 rw [hsz]
 have h := XZ (Q := Q) hB hkeep hstep hfin n (Array.replicate l.length false) a0 w.drew (xp _ n (by omega))
  ⟨⟨by simp, fun j oj _ hl => (by rw [getD_replicate_false] at hl; cases hl), fun t _ ht => getD_in (by simpa using ht) (getD_replicate_false _ _)⟩,
   (by have e : (fun i => (Array.replicate l.length false).getD i false) = fun _ => false := (by funext i; exact getD_replicate_false _ _); show W (fun i => (Array.replicate l.length false).getD i false) a0 w.drew; rw [e]; exact hW), rfl, rfl, fun _ _ => rfl, fun i _ hl => (by rw [getD_replicate_false] at hl; cases hl)⟩
 rw [show n + (l.length - n) = l.length by omega] at h
 exact h
end
open Go.RowKit
def WB2 (wb : World) (i j s t : Nat) (L : Nat -> Bool) (a : Act) (w : World) : Prop :=
 Below wb.heap.size wb w /\ (s < a.tmps.size /\ t < a.tmps.size) /\ (L i = true -> ∃ b, a.tmps.getD s undef = .pointer (some ⟨b, 0, none⟩) /\ b < w.heap.size) /\ (L j = true -> ∃ b, a.tmps.getD t undef = .pointer (some ⟨b, 0, none⟩) /\ b < w.heap.size) ∧
  (L i = true -> L j = true -> a.tmps.getD s undef ≠ a.tmps.getD t undef)
section
variable {wb w w' : World} {i j s t k : Nat} {L : Nat -> Bool} {a : Act} {v : Value} {d : Nat}
theorem xX (h : d ≠ s) : (a.put (some d) v).tmps.getD s undef = a.tmps.getD s undef := by
 simp [Act.put, h]
theorem Zt (h : s < a.tmps.size) : (a.put (some s) v).tmps.getD s undef = v := by
 simp [Act.put, h]
theorem vd : (a.put (some d) v).tmps.size = a.tmps.size := by simp [Act.put]
theorem WB2.other (h : WB2 wb i j s t L a w) (hb : Below w.heap.size w w') (hi : i ≠ k) (hj : j ≠ k) (hs : d ≠ s) (ht : d ≠ t) : WB2 wb i j s t (upd L k) (a.put (some d) v) w' := by
 obtain ⟨h1, ⟨h2, h3⟩, h4, h5, h6⟩ := h
 have e1 : upd L k i = L i := by simp [upd, hi]
 have e2 : upd L k j = L j := by simp [upd, hj]
 unfold WB2
 rw [e1, e2, xX hs, xX ht, vd]
 refine ⟨h1.trans (hb.mono h1.size), ⟨h2, h3⟩, fun h => ?_, fun h => ?_, h6⟩
 ·obtain ⟨b, e, hlt⟩ := h4 h
  exact ⟨b, e, Nat.lt_of_lt_of_le hlt hb.size⟩
 obtain ⟨b, e, hlt⟩ := h5 h
 exact ⟨b, e, Nat.lt_of_lt_of_le hlt hb.size⟩
theorem WB2.fst (h : WB2 wb i j s t L a w) (hij : i ≠ j) (hst : s ≠ t) (o : Obj) : WB2 wb i j s t (upd L i) (a.put (some s) (.pointer (some ⟨w.heap.size, 0, none⟩))) (w.alloc o) := by
 obtain ⟨h1, ⟨h2, h3⟩, h4, h5, h6⟩ := h
 have e1 : upd L i i = true := by simp [upd]
 have e2 : upd L i j = L j := by simp [upd, hij.symm]
 unfold WB2
 rw [e1, e2, Zt h2, xX hst, vd]
 refine ⟨h1.alloc h1.size _, ⟨h2, h3⟩, fun _ => ⟨_, rfl, by simp⟩, fun h => ?_, fun _ h e => ?_⟩
 ·obtain ⟨b, e, hlt⟩ := h5 h
  exact ⟨b, e, by simp; omega⟩
 obtain ⟨b, e3, hlt⟩ := h5 h
 rw [e3] at e
 injection e with e; injection e with e; injection e with e
 omega
theorem WB2.snd (h : WB2 wb i j s t L a w) (hij : i ≠ j) (hst : s ≠ t) (o : Obj) : WB2 wb i j s t (upd L j) (a.put (some t) (.pointer (some ⟨w.heap.size, 0, none⟩))) (w.alloc o) := by
 obtain ⟨h1, ⟨h2, h3⟩, h4, h5, h6⟩ := h
 have e1 : upd L j i = L i := by simp [upd, hij]
 have e2 : upd L j j = true := by simp [upd]
 unfold WB2
 rw [e1, e2, Zt h3, xX hst.symm, vd]
 refine ⟨h1.alloc h1.size _, ⟨h2, h3⟩, fun h => ?_, fun _ => ⟨_, rfl, by simp⟩, fun h _ e => ?_⟩
 ·obtain ⟨b, e, hlt⟩ := h4 h
  exact ⟨b, e, by simp; omega⟩
 obtain ⟨b, e3, hlt⟩ := h4 h
 rw [e3] at e
 injection e with e; injection e with e; injection e with e
 omega
end
open Go.Deep
theorem st_und : Tryz.prog.underlying 90 = some (.struct (Tryz.prog.fieldsOf 90)) := by kernel_rfl
theorem st_flds : (Tryz.prog.fieldsOf 90).toList.map (fun f => (f.name, f.type, f.offset)) = [("Mode", 3, 0), ("Tag", 9, 1), ("Attr", 9, 2), ("Seen", 4, 3)] := by kernel_rfl
theorem st_held : Tryz.prog.stoodInHeld 90 = false := by kernel_rfl
theorem vQ (P : Program) (d : Nat) (xs ys : Array Value) : ∀ (fs gs : List Field), fs.map (fun f => (f.name, f.type, f.offset)) = gs.map (fun f => (f.name, f.type, f.offset)) -> Op.eqFields d xs ys fs = Op.eqFields d xs ys gs
 | [], [], _ => rfl
 | f :: fs, g :: gs, h => by
  simp only [List.map_cons, List.cons.injEq, Prod.mk.injEq] at h
  obtain ⟨⟨h1, h2, h3⟩, h4⟩ := h
  unfold Op.eqFields
  rw [h1, h2, h3, vQ P d xs ys fs gs h4]
def fld (n : String) (t : TypeId) (o : Nat) : Field := { name := n, type := t, offset := o, embedded := false, tag := "", pkgPath := "", byteOffset := 0 }
theorem vR (m m' : Int) (t t' a a' : Tx) (z z' : Bool) (W : World) : (Op.equalIn 10000 90 (stV m t a z) (stV m' t' a' z')).run Tryz.prog W = .ok ((m == m' && (t == t' && (a == a' && z == z')))) W := by
 rw [run_equalIn_agg (P := Tryz.prog) W 9999 90 _ _ st_und st_held]
 rw [vQ Tryz.prog 9999 _ _ _ [fld "Mode" 3 0, fld "Tag" 9 1, fld "Attr" 9 2, fld "Seen" 4 3] st_flds]
 have hl : ∀ x y : Tx, ((⟨x.toArray⟩ : ByteArray).toList == (⟨y.toArray⟩ : ByteArray).toList) = (x == y) := fun x y => by rw [<- beq_toListBytes, vB]
 have hi : ∀ (a b : Int) (W : World), (Op.equalIn 9999 3 (.int .i64 a) (.int .i64 b)).run Tryz.prog W = .ok (a == b) W := fun a b W => run_equalIn_int W 9998 3 .i64 .i64 a b underlying3
 have hs : ∀ (a b : Tx) (W : World), (Op.equalIn 9999 9 (sv a) (sv b)).run Tryz.prog W = .ok (a == b) W := fun a b W => by rw [run_equalIn_string W 9998 9 _ _ underlying9, hl]
 have hb : ∀ (a b : Bool) (W : World), (Op.equalIn 9999 4 (.bool a) (.bool b)).run Tryz.prog W = .ok (a == b) W := fun a b W => run_equalIn_bool' W 9998 4 a b underlying4
 have h1 := isAgg3
 have h2 := isAgg9
 have h3 := isAgg4
 simp only [Op.eqFields, fld, part, ne_eq, String.reduceEq, not_false_eq_true, if_true, Sem.run_bind, Sem.run_ite, Sem.run_pure, h1, h2, h3, Result.andThen_ok, Bool.false_eq_true, if_false, List.getElem?_toArray, List.getElem?_cons_zero, List.getElem?_cons_succ]
 rw [hi, Result.andThen_ok]
 generalize (m == m') = b1
 cases b1
 ·simp
 simp only [Bool.not_true, Bool.false_eq_true, if_false, Bool.true_and]
 rw [hs, Result.andThen_ok]
 generalize (t == t') = b2
 cases b2
 ·simp
 simp only [Bool.not_true, Bool.false_eq_true, if_false, Bool.true_and]
 rw [hs, Result.andThen_ok]
 generalize (a == a') = b3
 cases b3
 ·simp
 simp only [Bool.not_true, Bool.false_eq_true, if_false, Bool.true_and]
 rw [hb, Result.andThen_ok]
 cases (z == z') <;> simp
theorem vS (m m' : Int) (t t' a a' : Tx) (z z' : Bool) : (m == m' && (t == t' && (a == a' && z == z'))) = decide ((⟨m, t, a, z⟩ : St) = ⟨m', t', a', z'⟩) := by
 rw [Bool.eq_iff_iff]
 simp
def jM (m : Int) (t a : Tx) (z : Bool) (m' : Int) (t' a' : Tx) (z' : Bool) : Bool := decide ((⟨m, t, a, z⟩ : St) = ⟨m', t', a', z'⟩)
theorem zV {m m' : Int} {t t' a a' : Tx} {z z' : Bool} (h : (⟨m, t, a, z⟩ : St) = ⟨m', t', a', z'⟩) : jM m t a z m' t' a' z' = true := decide_eq_true h
theorem zW {m m' : Int} {t t' a a' : Tx} {z z' : Bool} (h : ¬ (⟨m, t, a, z⟩ : St) = ⟨m', t', a', z'⟩) : jM m t a z m' t' a' z' = false := decide_eq_false h
theorem st_neq (m m' : Int) (t t' a a' : Tx) (z z' : Bool) (W : World) : (binOp .neq 90 (stV m t a z) (stV m' t' a' z')).run Tryz.prog W = .ok (.bool (!jM m t a z m' t' a' z')) W := by
 rw [run_neq_struct, vR, vS, Result.andThen_ok]; rfl
theorem st_eql (m m' : Int) (t t' a a' : Tx) (z z' : Bool) (W : World) : (binOp .eql 90 (stV m t a z) (stV m' t' a' z')).run Tryz.prog W = .ok (.bool (jM m t a z m' t' a' z')) W := by
 rw [run_eql_struct, vR, vS, Result.andThen_ok]; rfl
theorem vT : Tryz.prog.eqGuardType Tryz.prog.depth 90 = false := by kernel_rfl
theorem QO (x y : Operand) (xs ys : Array Value) (W : World) : (eqGuard .neq 90 x y (.agg xs) (.agg ys)).run Tryz.prog W = .ok () W := run_eqGuard_agg W .neq 90 x y xs ys vT
theorem QP (x y : Operand) (xs ys : Array Value) (W : World) : (eqGuard .eql 90 x y (.agg xs) (.agg ys)).run Tryz.prog W = .ok () W := run_eqGuard_agg W .eql 90 x y xs ys vT
attribute [go_sem high] st_neq st_eql QO QP
def CkC (f : FuncId) (d : Nat) : Prop := ∀ (xs : List Pt) (p : Bool) (m : Int) (t a : Tx) (z : Bool) (A : Option Addr) (c : Nat) (w : World), Pt.oks xs d p = true -> RdP w (All w) A xs -> xs.length + Pt.sizes xs <= 1048576 -> St.Fit ⟨m, t, a, z⟩ →
  Calls Tryz.prog f #[stV m t a z, .slice A xs.length c] w fun e w' => e = .returned (St.v (Pt.ck xs ⟨m, t, a, z⟩)) /\ Below w.heap.size w w'
theorem xT {xs : List Pt} {d : Nat} {p : Bool} (h : Pt.oks xs d p = true) : ∀ x ∈ xs, Pt.ok x d = true := by
 induction xs generalizing p with
 | nil => intro x hx; cases hx
 | cons y t ih =>
  intro x hx
  simp only [Pt.oks, Bool.and_eq_true] at h
  rcases List.mem_cons.1 hx with e | hx
  ·rw [e]; exact h.1
  exact ih h.2.2 x hx
theorem Zg {xs : List Pt} {j : Nat} (hj : j < xs.length) (s : St) : Pt.ck (xs.drop j) s = if (Pt.ck1 xs[j] s).mode = 15 then St.bad else Pt.ck (xs.drop (j + 1)) (Pt.ck1 xs[j] s) := by
 rw [qX xs j hj, Pt.ck]
theorem Zh {xs : List Pt} {j : Nat} (hj : ¬ j < xs.length) (s : St) : Pt.ck (xs.drop j) s = s := by
 rw [zc xs j (by omega), Pt.ck]
theorem jQ {t : Tx} (h : zA t = true) : t.length <= 600 := by
 unfold zA at h
 simp only [Bool.and_eq_true] at h
 have := h.1
 unfold zx at this
 simp only [Bool.and_eq_true, decide_eq_true_eq] at this
 exact this.1
set_option maxRecDepth 100000 in
set_option maxHeartbeats 8000000 in
theorem Zi (d : Nat) (ih : ∀ d', d = d' + 1 -> CkC 108 d') : CkC 108 d := by
 intro xs p m t a z A c w ho hx hs hf
 have HO := qb (xT ho)
 have HX := qb hx
 have IH := qb ih
 have HFT := qb hf
 have hxl : xs.length <= 1048576 := by omega
 have HSZ := qb hs
 obtain ⟨r, hr⟩ : ∃ r, r = Pt.ck xs ⟨m, t, a, z⟩ := ⟨_, rfl⟩
 rw [<- hr]
 have HR := qb hr.symm
 clear hr ho hx hf ih hs
 obtain ⟨hB, g0, g1, g2, hz⟩ := qB (w := w) (cs := ql m t a z) (ds := qH) (es := ql 15 [] [] false) (T := 90) (Below.refl _ _)
 have HB0 := qb hB
 have HG0 := qb g0
 have HG1 := qb g1
 have HG2 := qb g2
 clear hB g0 g1 g2
 go_enter func108, ntmps108
 go_upto_region 2 with fail
 generalize ((w.alloc (.cells (ql m t a z) 90)).alloc (.cells qH 90)).alloc (.cells (ql 15 [] [] false) 90) = w0 at *
 go_wp2
 go_loopw [13] (fun i wr => ∃ (j : Nat) (s : St), j <= xs.length /\ i = .int .i64 j /\ wr.heap[w.heap.size]? = some (.cells (ql s.mode s.tag s.attr s.seen) 90 (0, 0)) /\ wr.heap[w.heap.size + 1]? = some (.cells qH 90 (0, 0)) /\ wr.heap[w.heap.size + 2]? = some (.cells (ql 15 [] [] false) 90 (0, 0)) /\ St.Fit s /\ Pt.ck (xs.drop j) s = r /\ Below w.heap.size w wr) (fun i _ => xs.length - (intOf i).toNat)
 case atStart => exact ⟨0, ⟨m, t, a, z⟩, Nat.zero_le _, rfl, HG0.out, HG1.out, HG2.out, HFT.out, by rw [List.drop_zero]; exact HR.out, HB0.out⟩
 obtain ⟨j, ⟨cm, ct, ca, cz⟩, hj, rfl, h0, h1, h2, hft, hck, hb⟩ := hrel
 dsimp only at h0 h1 h2
 have HB := qb hb
 have H0 := qb h0
 have H1 := qb h1
 have H2 := qb h2
 have HF := qb hft
 have HD := qb hck
 have hz2 : w.heap.size + 2 < wr.heap.size := (Array.getElem?_eq_some_iff.1 h2).1
 clear h0 h1 h2 hft hck hb
 by_cases hlt : j < xs.length
 ·obtain ⟨b1, o1, rfl, hb1, kd, tt, nn, us, vs, Ap, cp, Ao, co, hxj, k1, k2, k3, k4, c0, c1, c2, c3, c4⟩ := (HX.out.now HB.out).at2 hlt
  have hmem : Pt.mk kd tt nn us vs ∈ xs := by rw [<- hxj]; exact List.getElem_mem hlt
  have hok := HO.out _ hmem
  have hsm := Pt.size_mem hmem
  have hcd := Zg hlt ⟨cm, ct, ca, cz⟩
  rw [HD.out, hxj] at hcd
  have HD := qb hcd.symm
  clear hcd hmem hxj
  simp only [Pt.size] at hsm
  rw [Pt.ok] at hok
  have HBX := qb (heap_alloc_new wr (.cells (qD kd tt nn Ap us.length cp Ao vs.length co) 115))
  have hBA := (Below.refl wr.heap.size wr).alloc (Nat.le_refl _) (.cells (qD kd tt nn Ap us.length cp Ao vs.length co) 115)
  have HBA := qb hBA
  have HU := qb (k3.now hBA)
  have HV := qb (k4.now hBA)
  have hzb : wr.heap.size < (wr.alloc (.cells (qD kd tt nn Ap us.length cp Ao vs.length co) 115)).heap.size := by simp
  clear k1 k2 k3 k4 hBA
  go_upto_region 5 with fail
  generalize wr.alloc (.cells (qD kd tt nn Ap us.length cp Ao vs.length co) 115) = wb at *
  obtain ⟨⟨f0, f1, f2, f3, f4⟩, -⟩ := qI HBX.out
  have HBb := qb (HB.out.trans (HBA.out.mono (by omega)))
  have H0b := qb (qi H0.out HBA.out)
  have H1b := qb (qi H1.out HBA.out)
  have H2b := qb (qi H2.out HBA.out)
  clear c0 c1 c2 c3 c4 H0 H1 H2 HB
  obtain ⟨⟨y0, y1, y2, y3⟩, p0, p1, p2, p3⟩ := qh H0b.out
  by_cases e1 : kd = 1
  ·subst e1
   rw [if_pos rfl, Bool.and_eq_true] at hok
   have htl := jQ hok.1
   have HFN := qb (St.fit_after HF.out tt)
   have HC := qb (fun w => xz cm ct ca cz tt w HF.out.1 HF.out.2 (by omega))
   rw [Pt.ck1, if_pos rfl] at HD
   generalize St.after ⟨cm, ct, ca, cz⟩ tt = s1 at *
   obtain ⟨sm, st, sa, sz⟩ := s1
   dsimp only at HD
   clear hok
   go_wp2_with fail
   refine (HC.out _).mono ?_
   rintro e w2 ⟨rfl, hb⟩
   have HB2 := qb (qa3 HBb.out hb)
   have H02 := qb (qi H0b.out hb)
   have H12 := qb (qi H1b.out hb)
   have H22 := qb (qi H2b.out hb)
   have hz3 := hb.size
   clear hb y0 y1 y2 y3 p0 p1 p2 p3 f0 f1 f2 f3 f4
   obtain ⟨⟨y0, y1, y2, y3⟩, p0, p1, p2, p3⟩ := qh H02.out
   have HP0 := qb (put4 (v0 := .int .i64 sm) (v1 := sv st) (v2 := sv sa) (v3 := .bool sz) H02.out)
   have HP1 := qb (qQ (b := w.heap.size) (.int .i64 sm) (sv st) (sv sa) (.bool sz) H12.out (by omega))
   have HP2 := qb (qQ (b := w.heap.size) (.int .i64 sm) (sv st) (sv sa) (.bool sz) H22.out (by omega))
   have HPB := qb (qq HB2.out (Nat.le_refl _) (.int .i64 sm) (sv st) (sv sa) (.bool sz))
   go_upto_region 18 with fail
   generalize (((w2.setCell ⟨w.heap.size, 0, none⟩ (.int .i64 sm)).setCell ⟨w.heap.size, 1, none⟩ (sv st)).setCell ⟨w.heap.size, 2, none⟩ (sv sa)).setCell ⟨w.heap.size, 3, none⟩ (.bool sz) = w9 at *
   obtain ⟨⟨y0, y1, y2, y3⟩, -⟩ := qh HP0.out
   obtain ⟨⟨z0, z1, z2, z3⟩, x0, x1, x2, x3⟩ := qh HP1.out
   obtain ⟨⟨q0, q1, q2, q3⟩, -⟩ := qh HP2.out
   by_cases hm : sm = 15
   ·subst hm
    have HEE : Hid (r = St.bad) := by show _ = _; rw [<- HD.out, if_pos rfl]
    go_wp2
    exact bodyPost_ret (qp (m := 15) (t := []) (a := []) (z := false) results108 rfl (put4 HP1.out)) rfl ⟨by rw [HEE.out]; rfl, qq HPB.out (by omega) _ _ _ _⟩
   have nm : (sm == 15) = false := by simpa using hm
   rw [if_neg hm] at HD
   clear hm
   go_wp2
   go_roundw
   case rel => exact ⟨j + 1, ⟨sm, st, sa, sz⟩, by omega, by go_num, HP0.out, HP1.out, HP2.out, HFN.out, HD.out, HPB.out⟩
   case measure => simp [intOf]; omega
  rw [if_neg e1] at hok
  by_cases e2 : kd = 2
  ·subst e2
   have HFN := qb (St.fit_behind HF.out)
   have HC := qb (fun w => ka cm ct ca cz w (by have := HF.out.1; dsimp only at this; omega) (by have := HF.out.2; dsimp only at this; omega))
   rw [Pt.ck1, if_neg (show ¬ (2 : Int) = 1 by decide), if_pos rfl] at HD
   generalize St.behind ⟨cm, ct, ca, cz⟩ = s1 at *
   obtain ⟨sm, st, sa, sz⟩ := s1
   dsimp only at HD
   clear hok e1
   go_wp2_with fail
   refine (HC.out _).mono ?_
   rintro e w2 ⟨rfl, hb⟩
   have HB2 := qb (qa3 HBb.out hb)
   have H02 := qb (qi H0b.out hb)
   have H12 := qb (qi H1b.out hb)
   have H22 := qb (qi H2b.out hb)
   have hz3 := hb.size
   clear hb y0 y1 y2 y3 p0 p1 p2 p3 f0 f1 f2 f3 f4
   obtain ⟨⟨y0, y1, y2, y3⟩, p0, p1, p2, p3⟩ := qh H02.out
   have HP0 := qb (put4 (v0 := .int .i64 sm) (v1 := sv st) (v2 := sv sa) (v3 := .bool sz) H02.out)
   have HP1 := qb (qQ (b := w.heap.size) (.int .i64 sm) (sv st) (sv sa) (.bool sz) H12.out (by omega))
   have HP2 := qb (qQ (b := w.heap.size) (.int .i64 sm) (sv st) (sv sa) (.bool sz) H22.out (by omega))
   have HPB := qb (qq HB2.out (Nat.le_refl _) (.int .i64 sm) (sv st) (sv sa) (.bool sz))
   go_upto_region 18 with fail
   generalize (((w2.setCell ⟨w.heap.size, 0, none⟩ (.int .i64 sm)).setCell ⟨w.heap.size, 1, none⟩ (sv st)).setCell ⟨w.heap.size, 2, none⟩ (sv sa)).setCell ⟨w.heap.size, 3, none⟩ (.bool sz) = w9 at *
   obtain ⟨⟨y0, y1, y2, y3⟩, -⟩ := qh HP0.out
   obtain ⟨⟨z0, z1, z2, z3⟩, x0, x1, x2, x3⟩ := qh HP1.out
   obtain ⟨⟨q0, q1, q2, q3⟩, -⟩ := qh HP2.out
   by_cases hm : sm = 15
   ·subst hm
    have HEE : Hid (r = St.bad) := by show _ = _; rw [<- HD.out, if_pos rfl]
    go_wp2
    exact bodyPost_ret (qp (m := 15) (t := []) (a := []) (z := false) results108 rfl (put4 HP1.out)) rfl ⟨by rw [HEE.out]; rfl, qq HPB.out (by omega) _ _ _ _⟩
   have nm : (sm == 15) = false := by simpa using hm
   rw [if_neg hm] at HD
   clear hm
   go_wp2
   go_roundw
   case rel => exact ⟨j + 1, ⟨sm, st, sa, sz⟩, by omega, by go_num, HP0.out, HP1.out, HP2.out, HFN.out, HD.out, HPB.out⟩
   case measure => simp [intOf]; omega
  rw [if_neg e2] at hok
  by_cases e34 : kd = 3 \/ kd = 4
  case neg => rw [if_neg e34] at hok; cases hok
  rw [if_pos e34] at hok
  simp only [Bool.and_eq_true] at hok
  obtain ⟨-, -, -, hd0, hou, hov⟩ := hok
  obtain ⟨d', rfl⟩ : ∃ d', d = d' + 1 := ⟨d - 1, by have := of_decide_eq_true hd0; omega⟩
  clear hd0
  rw [Nat.add_sub_cancel] at hou hov
  have HS := qb HSZ.out
  have hsu : us.length + Pt.sizes us <= 1048576 := by have := HSZ.out; omega
  have hsv : vs.length + Pt.sizes vs <= 1048576 := by have := HSZ.out; omega
  have HCU := qb (fun w3 (hb : Below wb.heap.size wb w3) => IH.out d' rfl us false cm ct ca cz Ap cp w3 hou (HU.out.now hb) hsu HF.out)
  have HCV := qb (fun w3 (hb : Below wb.heap.size wb w3) => IH.out d' rfl vs false cm ct ca cz Ao co w3 hov (HV.out.now hb) hsv HF.out)
  have HFU := qb (Pt.fit_ck us _ HF.out)
  have HY3 := qb f3
  have HY4 := qb f4
  have hz4 : w.heap.size < wb.heap.size := by omega
  clear hou hov hsu hsv HU HV f1 f2 f3 f4
  rcases e34 with rfl | rfl
  ·rw [Pt.ck1, if_neg (show ¬ (3 : Int) = 1 by decide), if_neg (show ¬ (3 : Int) = 2 by decide), if_neg (show ¬ (3 : Int) = 4 by decide)] at HD
   generalize Pt.ck us ⟨cm, ct, ca, cz⟩ = s1 at *
   generalize Pt.ck vs ⟨cm, ct, ca, cz⟩ = s2 at *
   go_wp2_with fail
   refine Ka 10 (by kernel_rfl) (by kernel_rfl) (WB2 wb 8 9 8 9) (fun _ => KB) (fun i => ([bIs (stV cm ct ca cz), bIs (.pointer (some ⟨wr.heap.size, 3, none⟩)), bIs (.slice Ap us.length cp), bIs (St.v s1), bIs (stV cm ct ca cz), bIs (.pointer (some ⟨wr.heap.size, 4, none⟩)), bIs (.slice Ao vs.length co), bIs (St.v s2), bBox wb.heap.size qH 90, bBox wb.heap.size qH 90] : List TyB).getD i bAny) ?hWwW1 ?hkeepW1 ?hstepW1 ?hfinwW1
   case hkeepW1 =>
    refine fun _ _ => fun j hj _ => (?_ : ∀ j < 10, ∀ w w' v, KB w w' -> (([bIs (stV cm ct ca cz), bIs (.pointer (some ⟨wr.heap.size, 3, none⟩)), bIs (.slice Ap us.length cp), bIs (St.v s1), bIs (stV cm ct ca cz), bIs (.pointer (some ⟨wr.heap.size, 4, none⟩)), bIs (.slice Ao vs.length co), bIs (St.v s2), bBox wb.heap.size qH 90, bBox wb.heap.size qH 90] : List TyB).getD j bAny) w v -> (([bIs (stV cm ct ca cz), bIs (.pointer (some ⟨wr.heap.size, 3, none⟩)), bIs (.slice Ap us.length cp), bIs (St.v s1), bIs (stV cm ct ca cz), bIs (.pointer (some ⟨wr.heap.size, 4, none⟩)), bIs (.slice Ao vs.length co), bIs (St.v s2), bBox wb.heap.size qH 90, bBox wb.heap.size qH 90] : List TyB).getD j bAny) w' v) j hj
    refine qg (qg (qg (qg (qg (qg (qg (qg (qg (qg qG ?_) ?_) ?_) ?_) ?_) ?_) ?_) ?_) ?_) ?_
    ·exact qj
    ·exact qj
    ·exact qj
    ·exact qj
    ·exact qj
    ·exact qj
    ·exact qj
    ·exact qj
    all_goals exact yb
   case hstepW1 =>
    refine qg (qg (qg (qg (qg (qg (qg (qg (qg (qg qG ?_) ?_) ?_) ?_) ?_) ?_) ?_) ?_) ?_) ?_
    ·(intro o ho L9 a w1 hL9 hWW hb hd K Q hK0; obtain rfl := Option.some.inj ho; have hW := hWW.1; have hK := fun v w' (_ : Below (World.heap wb).size wb w') (h2 : KB w1 w') h3 => hK0 v w' (hWW.other h2 (by decide) (by decide) (by decide) (by decide)) h2 h3; have e0 : a.tmps[2]?.getD undef = .pointer (some ⟨w.heap.size, 0, none⟩) := (by rw [hb 2 (by decide +kernel)]; simp); have hbl := (hW.block _ hz4).trans H0b.out; have q0 := cell_of_row w1 _ 0 _ _ _ hbl; have q1 := cell_of_row w1 _ 1 _ _ _ hbl; have q2 := cell_of_row w1 _ 2 _ _ _ hbl; have q3 := cell_of_row w1 _ 3 _ _ _ hbl; go_simp; exact hK _ _ hW (VY _) rfl)
    ·(intro o ho L9 a w1 hL9 hWW hb hd K Q hK0; obtain rfl := Option.some.inj ho; have hW := hWW.1; have hK := fun v w' (_ : Below (World.heap wb).size wb w') (h2 : KB w1 w') h3 => hK0 v w' (hWW.other h2 (by decide) (by decide) (by decide) (by decide)) h2 h3; have e0 : a.tmps[7]?.getD undef = .pointer (some ⟨wr.heap.size, 0, none⟩) := (by rw [hb 7 (by decide +kernel)]; simp); go_simp; exact hK _ _ hW (VY _) rfl)
    ·(intro o ho L9 a w1 hL9 hWW hb hd K Q hK0; obtain rfl := Option.some.inj ho; have hW := hWW.1; have hK := fun v w' (_ : Below (World.heap wb).size wb w') (h2 : KB w1 w') h3 => hK0 v w' (hWW.other h2 (by decide) (by decide) (by decide) (by decide)) h2 h3; have e0 := qo (hd 1 (by kernel_rfl) 32 rfl); have hcw := (hW.cell (p := ⟨wr.heap.size, 3, none⟩) hzb).trans HY3.out; go_simp; exact hK _ _ hW (VY _) rfl)
    ·(intro o ho L9 a w1 hL9 hWW hb hd K Q hK0; obtain rfl := Option.some.inj ho; have hW := hWW.1; have hK := fun v w' (_ : Below (World.heap wb).size wb w') (h2 : KB w1 w') h3 => hK0 v w' (hWW.other h2 (by decide) (by decide) (by decide) (by decide)) h2 h3; have e0 := qo (hd 0 (by kernel_rfl) 31 rfl); have e1 := qo (hd 2 (by kernel_rfl) 33 rfl); go_simp; refine (HCU.out _ hW).mono ?_; rintro e w2 ⟨rfl, hb2⟩; exact hK _ _ (qa3 hW hb2) hb2 rfl)
    ·(intro o ho L9 a w1 hL9 hWW hb hd K Q hK0; obtain rfl := Option.some.inj ho; have hW := hWW.1; have hK := fun v w' (_ : Below (World.heap wb).size wb w') (h2 : KB w1 w') h3 => hK0 v w' (hWW.other h2 (by decide) (by decide) (by decide) (by decide)) h2 h3; have e0 : a.tmps[2]?.getD undef = .pointer (some ⟨w.heap.size, 0, none⟩) := (by rw [hb 2 (by decide +kernel)]; simp); have hbl := (hW.block _ hz4).trans H0b.out; have q0 := cell_of_row w1 _ 0 _ _ _ hbl; have q1 := cell_of_row w1 _ 1 _ _ _ hbl; have q2 := cell_of_row w1 _ 2 _ _ _ hbl; have q3 := cell_of_row w1 _ 3 _ _ _ hbl; go_simp; exact hK _ _ hW (VY _) rfl)
    ·(intro o ho L9 a w1 hL9 hWW hb hd K Q hK0; obtain rfl := Option.some.inj ho; have hW := hWW.1; have hK := fun v w' (_ : Below (World.heap wb).size wb w') (h2 : KB w1 w') h3 => hK0 v w' (hWW.other h2 (by decide) (by decide) (by decide) (by decide)) h2 h3; have e0 : a.tmps[7]?.getD undef = .pointer (some ⟨wr.heap.size, 0, none⟩) := (by rw [hb 7 (by decide +kernel)]; simp); go_simp; exact hK _ _ hW (VY _) rfl)
    ·(intro o ho L9 a w1 hL9 hWW hb hd K Q hK0; obtain rfl := Option.some.inj ho; have hW := hWW.1; have hK := fun v w' (_ : Below (World.heap wb).size wb w') (h2 : KB w1 w') h3 => hK0 v w' (hWW.other h2 (by decide) (by decide) (by decide) (by decide)) h2 h3; have e0 := qo (hd 5 (by kernel_rfl) 36 rfl); have hcw := (hW.cell (p := ⟨wr.heap.size, 4, none⟩) hzb).trans HY4.out; go_simp; exact hK _ _ hW (VY _) rfl)
    ·(intro o ho L9 a w1 hL9 hWW hb hd K Q hK0; obtain rfl := Option.some.inj ho; have hW := hWW.1; have hK := fun v w' (_ : Below (World.heap wb).size wb w') (h2 : KB w1 w') h3 => hK0 v w' (hWW.other h2 (by decide) (by decide) (by decide) (by decide)) h2 h3; have e0 := qo (hd 4 (by kernel_rfl) 35 rfl); have e1 := qo (hd 6 (by kernel_rfl) 37 rfl); go_simp; refine (HCV.out _ hW).mono ?_; rintro e w2 ⟨rfl, hb2⟩; exact hK _ _ (qa3 hW hb2) hb2 rfl)
    ·(intro o ho L9 a w1 hL9 hWW hb hd K Q hK0; obtain rfl := Option.some.inj ho; have hW := hWW.1; go_simp; exact hK0 _ _ (hWW.fst (by decide) (by decide) _) ((Below.refl _ _).alloc (Nat.le_refl _) _) ⟨_, rfl, hW.size, heap_alloc_new w1 _⟩)
    (intro o ho L9 a w1 hL9 hWW hb hd K Q hK0; obtain rfl := Option.some.inj ho; have hW := hWW.1; go_simp; exact hK0 _ _ (hWW.snd (by decide) (by decide) _) ((Below.refl _ _).alloc (Nat.le_refl _) _) ⟨_, rfl, hW.size, heap_alloc_new w1 _⟩)
   case hWwW1 => exact ⟨(Below.refl _ _).drew, ⟨by simp, by simp⟩, fun h => absurd h (by simp), fun h => absurd h (by simp), fun h => absurd h (by simp)⟩
   intro vs9 w3 L hL hS hWW hF
   have hW := hWW.1
   have hne := hWW.2.2.2.2 (hL 8 (by omega)) (hL 9 (by omega))
   rw [hS 8 (by omega) 8 (by kernel_rfl), hS 9 (by omega) 9 (by kernel_rfl)] at hne
   simp only [qF, hdst, List.getElem?_cons_succ, List.getElem?_cons_zero, Option.bind, List.drop_succ_cons, List.drop_zero, Act.put]
   have h3 : vs9 3 = St.v s1 := hF 3 (by omega)
   have h7 : vs9 7 = St.v s2 := hF 7 (by omega)
   obtain ⟨b8, h8, hB8, hh8⟩ := hF 8 (by omega)
   obtain ⟨b9, h9, hB9, hh9⟩ := hF 9 (by omega)
   rw [h8, h9] at hne
   have hnb : b8 ≠ b9 := fun e => hne (by rw [e])
   rw [h3, h7, h8, h9]
   have HB3 := qb (qa3 HBb.out hW)
   have H03 := qb (qi H0b.out hW)
   have H13 := qb (qi H1b.out hW)
   have H23 := qb (qi H2b.out hW)
   have hz5 := hW.size
   clear hF h3 h7 h8 h9 hWW hL hS hW hne HCU HCV y0 y1 y2 y3 p0 p1 p2 p3
   obtain ⟨sm, st, sa, sz⟩ := s1
   obtain ⟨vm, vt, va, vz⟩ := s2
   have hnb2 : b9 ≠ b8 := fun e => hnb e.symm
   have h8l : b8 < w3.heap.size := (Array.getElem?_eq_some_iff.1 hh8).1
   have h9l : b9 < w3.heap.size := (Array.getElem?_eq_some_iff.1 hh9).1
   obtain ⟨⟨y0, y1, y2, y3⟩, p0, p1, p2, p3⟩ := qh hh8
   obtain ⟨⟨z0, z1, z2, z3⟩, x0, x1, x2, x3⟩ := qh hh9
   have HQ8 := qb (qQ (b := b9) (.int .i64 vm) (sv vt) (sv va) (.bool vz) (put4 (v0 := .int .i64 sm) (v1 := sv st) (v2 := sv sa) (v3 := .bool sz) hh8) hnb)
   have HQ9 := qb (put4 (v0 := .int .i64 vm) (v1 := sv vt) (v2 := sv va) (v3 := .bool vz) (qQ (b := b8) (.int .i64 sm) (sv st) (sv sa) (.bool sz) hh9 hnb2))
   have HQ0 := qb (qQ (b := b9) (.int .i64 vm) (sv vt) (sv va) (.bool vz) (qQ (b := b8) (.int .i64 sm) (sv st) (sv sa) (.bool sz) H03.out (by omega)) (by omega))
   have HQ1 := qb (qQ (b := b9) (.int .i64 vm) (sv vt) (sv va) (.bool vz) (qQ (b := b8) (.int .i64 sm) (sv st) (sv sa) (.bool sz) H13.out (by omega)) (by omega))
   have HQ2 := qb (qQ (b := b9) (.int .i64 vm) (sv vt) (sv va) (.bool vz) (qQ (b := b8) (.int .i64 sm) (sv st) (sv sa) (.bool sz) H23.out (by omega)) (by omega))
   have HQB := qb (qq (qq HB3.out (b := b8) (by omega) (.int .i64 sm) (sv st) (sv sa) (.bool sz)) (b := b9) (by omega) (.int .i64 vm) (sv vt) (sv va) (.bool vz))
   go_simp
   go_upto_region 12 with fail
   generalize (((((((w3.setCell ⟨b8, 0, none⟩ (.int .i64 sm)).setCell ⟨b8, 1, none⟩ (sv st)).setCell ⟨b8, 2, none⟩ (sv sa)).setCell ⟨b8, 3, none⟩ (.bool sz)).setCell ⟨b9, 0, none⟩ (.int .i64 vm)).setCell ⟨b9, 1, none⟩ (sv vt)).setCell ⟨b9, 2, none⟩ (sv va)).setCell ⟨b9, 3, none⟩ (.bool vz) = w5 at *
   clear y0 y1 y2 y3 p0 p1 p2 p3 z0 z1 z2 z3 x0 x1 x2 x3 hh8 hh9 H03 H13 H23 HB3
   obtain ⟨⟨a0, a1, a2, a3⟩, -⟩ := qh HQ8.out
   obtain ⟨⟨g0, g1, g2, g3⟩, -⟩ := qh HQ9.out
   obtain ⟨⟨y0, y1, y2, y3⟩, p0, p1, p2, p3⟩ := qh HQ0.out
   obtain ⟨⟨z0, z1, z2, z3⟩, x0, x1, x2, x3⟩ := qh HQ1.out
   obtain ⟨⟨q0, q1, q2, q3⟩, -⟩ := qh HQ2.out
   by_cases hss : (⟨sm, st, sa, sz⟩ : St) = ⟨vm, vt, va, vz⟩
   ·rw [if_pos hss] at HD
    have hdd := zV hss
    clear hss
    dsimp only at HD
    have HFN := qb HFU.out
    have HP0 := qb (put4 (v0 := .int .i64 sm) (v1 := sv st) (v2 := sv sa) (v3 := .bool sz) HQ0.out)
    have HP1 := qb (qQ (b := w.heap.size) (.int .i64 sm) (sv st) (sv sa) (.bool sz) HQ1.out (by omega))
    have HP2 := qb (qQ (b := w.heap.size) (.int .i64 sm) (sv st) (sv sa) (.bool sz) HQ2.out (by omega))
    have HPB := qb (qq HQB.out (Nat.le_refl _) (.int .i64 sm) (sv st) (sv sa) (.bool sz))
    clear q0 q1 q2 q3 z0 z1 z2 z3 x0 x1 x2 x3
    go_upto_region 18 with fail
    generalize (((w5.setCell ⟨w.heap.size, 0, none⟩ (.int .i64 sm)).setCell ⟨w.heap.size, 1, none⟩ (sv st)).setCell ⟨w.heap.size, 2, none⟩ (sv sa)).setCell ⟨w.heap.size, 3, none⟩ (.bool sz) = w9 at *
    obtain ⟨⟨y0, y1, y2, y3⟩, -⟩ := qh HP0.out
    obtain ⟨⟨z0, z1, z2, z3⟩, x0, x1, x2, x3⟩ := qh HP1.out
    obtain ⟨⟨q0, q1, q2, q3⟩, -⟩ := qh HP2.out
    by_cases hm : sm = 15
    ·subst hm
     have HEE : Hid (r = St.bad) := by show _ = _; rw [<- HD.out, if_pos rfl]
     go_wp2
     exact bodyPost_ret (qp (m := 15) (t := []) (a := []) (z := false) results108 rfl (put4 HP1.out)) rfl ⟨by rw [HEE.out]; rfl, qq HPB.out (by omega) _ _ _ _⟩
    have nm : (sm == 15) = false := by simpa using hm
    rw [if_neg hm] at HD
    clear hm
    go_wp2
    go_roundw
    case rel => exact ⟨j + 1, ⟨sm, st, sa, sz⟩, by omega, by go_num, HP0.out, HP1.out, HP2.out, HFN.out, HD.out, HPB.out⟩
    case measure => simp [intOf]; omega
   rw [if_neg hss] at HD
   have HEE : Hid (r = St.bad) := HD.out.symm
   have hdd := zW hss
   clear hss
   go_wp2
   exact bodyPost_ret (qp (m := 15) (t := []) (a := []) (z := false) results108 rfl (put4 HQ1.out)) rfl ⟨by rw [HEE.out]; rfl, qq HQB.out (by omega) _ _ _ _⟩
  rw [Pt.ck1, if_neg (show ¬ (4 : Int) = 1 by decide), if_neg (show ¬ (4 : Int) = 2 by decide), if_pos (show (4 : Int) = 4 from rfl)] at HD
  generalize Pt.ck us ⟨cm, ct, ca, cz⟩ = s1 at *
  clear HCV
  go_wp2_with fail
  refine qU 5 (by kernel_rfl) (by kernel_rfl) (fun _ w => Below (World.heap wb).size wb w) KB (fun i => ([bIs (stV cm ct ca cz), bIs (.pointer (some ⟨wr.heap.size, 3, none⟩)), bIs (.slice Ap us.length cp), bIs (St.v s1), bIs (stV cm ct ca cz)] : List TyB).getD i bAny) ?hWbB1 ?hkeepB1 ?hstepB1 ?hfinbB1
  case hkeepB1 =>
   refine qg (qg (qg (qg (qg qG ?_) ?_) ?_) ?_) ?_
   all_goals exact qj
  case hstepB1 =>
   refine qg (qg (qg (qg (qg qG ?_) ?_) ?_) ?_) ?_
   all_goals (intro o ho m' a w1 hm' hW hb hd K Q hK; obtain rfl := Option.some.inj ho)
   ·(have e0 : a.tmps[2]?.getD undef = .pointer (some ⟨w.heap.size, 0, none⟩) := (by rw [hb 2 (by decide +kernel)]; simp); have hbl := (hW.block _ hz4).trans H0b.out; have q0 := cell_of_row w1 _ 0 _ _ _ hbl; have q1 := cell_of_row w1 _ 1 _ _ _ hbl; have q2 := cell_of_row w1 _ 2 _ _ _ hbl; have q3 := cell_of_row w1 _ 3 _ _ _ hbl; go_simp; exact hK _ _ hW (VY _) rfl)
   ·(have e0 : a.tmps[7]?.getD undef = .pointer (some ⟨wr.heap.size, 0, none⟩) := (by rw [hb 7 (by decide +kernel)]; simp); go_simp; exact hK _ _ hW (VY _) rfl)
   ·(have e0 := qo (hd 1 (by kernel_rfl) 47 rfl); have hcw := (hW.cell (p := ⟨wr.heap.size, 3, none⟩) hzb).trans HY3.out; go_simp; exact hK _ _ hW (VY _) rfl)
   ·(have e0 := qo (hd 0 (by kernel_rfl) 46 rfl); have e1 := qo (hd 2 (by kernel_rfl) 48 rfl); go_simp; refine (HCU.out _ hW).mono ?_; rintro e w2 ⟨rfl, hb2⟩; exact hK _ _ (qa3 hW hb2) hb2 rfl)
   (have e0 : a.tmps[2]?.getD undef = .pointer (some ⟨w.heap.size, 0, none⟩) := (by rw [hb 2 (by decide +kernel)]; simp); have hbl := (hW.block _ hz4).trans H0b.out; have q0 := cell_of_row w1 _ 0 _ _ _ hbl; have q1 := cell_of_row w1 _ 1 _ _ _ hbl; have q2 := cell_of_row w1 _ 2 _ _ _ hbl; have q3 := cell_of_row w1 _ 3 _ _ _ hbl; go_simp; exact hK _ _ hW (VY _) rfl)
  case hWbB1 => exact (Below.refl _ _).drew
  intro vs9 w3 hW hF
  simp only [qF, hdst, List.getElem?_cons_succ, List.getElem?_cons_zero, Option.bind, List.drop_succ_cons, List.drop_zero, Act.put]
  have h3 : vs9 3 = St.v s1 := hF 3 (by omega)
  have h7 : vs9 4 = stV cm ct ca cz := hF 4 (by omega)
  rw [h3, h7]
  have HPB := qb (qa3 HBb.out hW)
  have HP0 := qb (qi H0b.out hW)
  have HP1 := qb (qi H1b.out hW)
  have HP2 := qb (qi H2b.out hW)
  have hz5 := hW.size
  clear hF h3 h7 hW HCU y0 y1 y2 y3 p0 p1 p2 p3
  obtain ⟨sm, st, sa, sz⟩ := s1
  obtain ⟨⟨y0, y1, y2, y3⟩, p0, p1, p2, p3⟩ := qh HP0.out
  obtain ⟨⟨z0, z1, z2, z3⟩, x0, x1, x2, x3⟩ := qh HP1.out
  obtain ⟨⟨q0, q1, q2, q3⟩, -⟩ := qh HP2.out
  go_simp
  by_cases hss : (⟨sm, st, sa, sz⟩ : St) = ⟨cm, ct, ca, cz⟩
  ·rw [if_pos hss] at HD
   have hdd := zV hss
   clear hss
   have HFN := qb HF.out
   dsimp only at HD
   by_cases hm : cm = 15
   ·subst hm
    have HEE : Hid (r = St.bad) := by show _ = _; rw [<- HD.out, if_pos rfl]
    go_wp2
    exact bodyPost_ret (qp (m := 15) (t := []) (a := []) (z := false) results108 rfl (put4 HP1.out)) rfl ⟨by rw [HEE.out]; rfl, qq HPB.out (by omega) _ _ _ _⟩
   have nm : (cm == 15) = false := by simpa using hm
   rw [if_neg hm] at HD
   clear hm
   go_wp2
   go_roundw
   case rel => exact ⟨j + 1, ⟨cm, ct, ca, cz⟩, by omega, by go_num, HP0.out, HP1.out, HP2.out, HFN.out, HD.out, HPB.out⟩
   case measure => simp [intOf]; omega
  rw [if_neg hss] at HD
  have HEE : Hid (r = St.bad) := HD.out.symm
  have hdd := zW hss
  clear hss
  go_wp2
  exact bodyPost_ret (qp (m := 15) (t := []) (a := []) (z := false) results108 rfl (put4 HP1.out)) rfl ⟨by rw [HEE.out]; rfl, qq HPB.out (by omega) _ _ _ _⟩
 have HEE : Hid (r = ⟨cm, ct, ca, cz⟩) := by show _ = _; rw [<- HD.out, Zh hlt]
 obtain ⟨⟨y0, y1, y2, y3⟩, -⟩ := qh H0.out
 obtain ⟨⟨z0, z1, z2, z3⟩, x0, x1, x2, x3⟩ := qh H1.out
 go_wp2
 exact bodyPost_ret (qp (m := cm) (t := ct) (a := ca) (z := cz) results108 rfl (put4 H1.out)) rfl ⟨by rw [HEE.out], qq HB.out (by omega) _ _ _ _⟩
theorem XI (d : Nat) : CkC 108 d := by
 induction d with
 | zero => exact Zi 0 fun d' h => by omega
 | succ d ih => exact Zi (d + 1) fun d' h => by obtain rfl : d = d' := (by omega); exact ih
end Go.Proofs.YtmboieajfdkllaaGreat
