import Derived.Test.YtmboieajfdkllaaGreatU04
import Derived.Test.YtmboieajfdkllaaGreatU02
import Derived.Test.YtmboieajfdkllaaGreatU01
set_option maxHeartbeats 8000000
set_option maxRecDepth 100000
open Go.Proofs.Tryz
namespace Go.Proofs.YtmboieajfdkllaaGreat
open Go.RowKit Go.Deep
def CpP (w w' : World) (e : Ending) (xs : List Pt) : Prop := ∃ A c rs, e = .returned (.slice A (List.length rs) c) /\ PLx w' w.heap.size A c rs xs /\ Below w.heap.size w w'
def CpC (f : FuncId) (m : Nat) : Prop := ∀ (xs : List Pt) (A : Option Addr) (c : Nat) (w : World), xs.length + Pt.sizes xs <= m -> m <= 1048576 -> RdP w (All w) A xs →
  Calls Tryz.prog f #[.slice A xs.length c] w fun e w' => CpP w w' e xs
theorem ym (xs : List Pt) (j : Nat) (h : j < xs.length) : xs.take (j + 1) = xs.take j ++ [xs[j]] := by rw [List.take_succ_eq_append_getElem h]
theorem xG {w : World} {b : Nat} {c0 c1 c2 c3 c4 : Value} {T : TypeId} (h : w.heap[b]? = some (.cells #[c0, c1, c2, c3, c4] T (0, 0))) :
  w.cell? ⟨b, 0, none⟩ = some c0 /\ w.cell? ⟨b, 1, none⟩ = some c1 /\ w.cell? ⟨b, 2, none⟩ = some c2 /\ w.cell? ⟨b, 3, none⟩ = some c3 /\ w.cell? ⟨b, 4, none⟩ = some c4 := (qI h).1
theorem Js (m : Nat) (ih : ∀ m', m' < m -> CpC 80 m') : CpC 80 m := by
 intro xs A c w hs hm hx
 have IH := qb ih
 have HX := qb hx
 have HSZ := qb hs
 have HM := qb hm
 have hxl : xs.length <= 1048576 := by omega
 clear ih hx hs hm
 go_enter func80, ntmps80
 go_wp2
 go_loopw [3, 4] (fun o i wr => ∃ (j : Nat) (A2 : Option Addr) (c2 : Nat) (rs : List Raw), j <= xs.length /\ i = .int .i64 j /\ o = .slice A2 rs.length c2 /\ PLx wr w.heap.size A2 c2 rs (xs.take j) /\ Below w.heap.size w wr) (fun _ i _ => xs.length - (intOf i).toNat)
 case atStart => exact ⟨0, _, 0, [], Nat.zero_le _, rfl, rfl, PLx.empty w, (Below.refl _ _).alloc (Nat.le_refl _) _⟩
 obtain ⟨j, A2, c2, rs, hj, rfl, rfl, hp, hb⟩ := hrel
 have HP := qb hp
 have HB := qb hb
 have hrl : rs.length <= 1048576 := by have := hp.len; simp at this; omega
 have hwz : w.heap.size <= wr.heap.size := hb.size
 clear hp hb
 by_cases hlt : j < xs.length
 case neg =>
  have HEE : Hid (xs.take j = xs) := by show _ = _; exact List.take_of_length_le (by omega)
  go_wp2
  refine bodyPost_ret (v := .slice A2 rs.length c2) (by simp [results, results80, go_sem, *]) rfl ⟨A2, c2, rs, rfl, ?_, HB.out⟩
  have h := HP.out
  rwa [HEE.out] at h
 obtain ⟨b1, o1, rfl, hb1, kd, tt, nn, us, vs, Ap, cp, Ao, co, hxj, k1, k2, k3, k4, c0, c1, c2, c3, c4⟩ := (HX.out.now HB.out).at2 hlt
 have hmem : Pt.mk kd tt nn us vs ∈ xs := by rw [<- hxj]; exact List.getElem_mem hlt
 have hsm := Pt.size_mem hmem
 have htk := ym xs j hlt
 rw [hxj] at htk
 have HTK := qb htk
 simp only [Pt.size] at hsm
 have hux : us.length + Pt.sizes us < m := by have := HSZ.out; omega
 have hvx : vs.length + Pt.sizes vs < m := by have := HSZ.out; omega
 have HBX := qb (heap_alloc_new wr (.cells (qD kd tt nn Ap us.length cp Ao vs.length co) 115))
 have hBA := (Below.refl wr.heap.size wr).alloc (Nat.le_refl _) (.cells (qD kd tt nn Ap us.length cp Ao vs.length co) 115)
 have HBA := qb hBA
 have hza1 : wr.heap.size + 1 <= (wr.alloc (.cells (qD kd tt nn Ap us.length cp Ao vs.length co) 115)).heap.size := by simp
 have hza2 : (wr.alloc (.cells (qD kd tt nn Ap us.length cp Ao vs.length co) 115)).heap.size <= wr.heap.size + 1 := by simp
 have hul : us.length <= 1048576 := by have := HM.out; omega
 have hvl : vs.length <= 1048576 := by have := HM.out; omega
 have HCU := qb (fun w3 (hb : Below wr.heap.size wr w3) => IH.out _ hux us Ap cp w3 (Nat.le_refl _) (by have := HM.out; omega) (k3.now hb))
 have HCV := qb (fun w3 (hb : Below wr.heap.size wr w3) => IH.out _ hvx vs Ao co w3 (Nat.le_refl _) (by have := HM.out; omega) (k4.now hb))
 clear hmem hxj hsm htk hux hvx k1 k2 k3 k4 hBA
 go_upto_region 6 with fail
 generalize wr.alloc (.cells (qD kd tt nn Ap us.length cp Ao vs.length co) 115) = wa at *
 obtain ⟨f0, f1, f2, f3, f4⟩ := xG HBX.out
 clear c0 c1 c2 c3 c4
 go_wp2_with fail
 refine (HCU.out wa HBA.out).mono ?_
 rintro e w5 ⟨A5, c5, rs5, rfl, hp5, hb5⟩
 have HX5 := qb (qi HBX.out hb5)
 have hz5 := hb5.size
 obtain ⟨⟨f0, f1, f2, f3, f4⟩, g0, g1, g2, g3, g4⟩ := qI HX5.out
 have HP5 := qb hp5
 have HXs := qb (jN HX5.out (.slice A5 rs5.length c5))
 have HKS : Hid (∀ j, j ≠ wr.heap.size -> (w5.setCell ⟨wr.heap.size, 3, none⟩ (.slice A5 rs5.length c5)).heap[j]? = w5.heap[j]?) := fun j hj => Below.heap_setCell _ _ _ _ hj
 have hss1 : w5.heap.size <= (w5.setCell ⟨wr.heap.size, 3, none⟩ (.slice A5 rs5.length c5)).heap.size := by simp [World.setCell]
 have hss2 : (w5.setCell ⟨wr.heap.size, 3, none⟩ (.slice A5 rs5.length c5)).heap.size <= w5.heap.size := by simp [World.setCell]
 have HBs := qb ((qa3 HBA.out hb5).setCell (p := ⟨wr.heap.size, 3, none⟩) (Nat.le_refl _) (.slice A5 rs5.length c5))
 clear hb5 hp5
 go_wp2_with fail
 refine (HCV.out _ HBs.out).mono ?_
 rintro e w6 ⟨A6, c6, rs6, rfl, hp6, hb6⟩
 have HX6 := qb (qi HXs.out hb6)
 have hz6 := hb6.size
 obtain ⟨⟨f0, f1, f2, f3, f4⟩, g0, g1, g2, g3, g4⟩ := qI HX6.out
 have HP6 := qb hp6
 have HXt := qb (xj HX6.out (.slice A6 rs6.length c6))
 have HKT : Hid (∀ j, j ≠ wr.heap.size -> (w6.setCell ⟨wr.heap.size, 4, none⟩ (.slice A6 rs6.length c6)).heap[j]? = w6.heap[j]?) := fun j hj => Below.heap_setCell _ _ _ _ hj
 have hst1 : w6.heap.size <= (w6.setCell ⟨wr.heap.size, 4, none⟩ (.slice A6 rs6.length c6)).heap.size := by simp [World.setCell]
 have HBt := qb ((qa3 HBs.out hb6).setCell (p := ⟨wr.heap.size, 4, none⟩) (Nat.le_refl _) (.slice A6 rs6.length c6))
 have HK6 : Hid (∀ j, j < w5.heap.size -> j ≠ wr.heap.size -> w6.heap[j]? = w5.heap[j]?) := fun j hj hne => (hb6.block j (by omega)).trans (HKS.out j hne)
 clear hb6 hp6
 go_upto_region 8 with fail
 generalize w6.setCell ⟨wr.heap.size, 4, none⟩ (.slice A6 rs6.length c6) = wt at *
 have HKW : Hid (∀ j, j < wt.heap.size -> (wt.alloc (.cells #[.int .i64 kd, sv tt, sv nn, .slice A5 rs5.length c5, .slice A6 rs6.length c6] 115)).heap[j]? = wt.heap[j]?) := fun j hj => heap_alloc_old wt _ hj
 have hsw1 : wt.heap.size + 1 <= (wt.alloc (.cells #[.int .i64 kd, sv tt, sv nn, .slice A5 rs5.length c5, .slice A6 rs6.length c6] 115)).heap.size := by simp
 have HBW := qb (HBt.out.alloc HBt.out.size (.cells #[.int .i64 kd, sv tt, sv nn, .slice A5 rs5.length c5, .slice A6 rs6.length c6] 115))
 have HRW := qb (zH (us := [⟨kd, tt, nn, A5, rs5.length, c5, A6, rs6.length, c6⟩]) (heap_alloc_new wt (.cells #[.int .i64 kd, sv tt, sv nn, .slice A5 rs5.length c5, .slice A6 rs6.length c6] 115)) rfl)
 have HP9 := qb (HP.out.keep HBW.out)
 have HIN : Hid (InX (wt.alloc (.cells #[.int .i64 kd, sv tt, sv nn, .slice A5 rs5.length c5, .slice A6 rs6.length c6] 115)) wr.heap.size (.mk kd tt nn us vs) ⟨kd, tt, nn, A5, rs5.length, c5, A6, rs6.length, c6⟩) := vg HP5.out (fun j h1 h2 => (HKW.out j (by omega)).trans ((HKT.out j (by omega)).trans (HK6.out j h2 (by omega)))) HP6.out (fun j h1 h2 => (HKW.out j (by omega)).trans (HKT.out j (by omega))) (by omega) (by omega) (by omega)
 obtain ⟨⟨b0, b1, b2, b3, b4⟩, -⟩ := qI HXt.out
 have hwt : w.heap.size <= wt.heap.size := by omega
 go_wp2_with (at_builtin; refine zD rfl _ _ rfl w.heap.size A2 c2 rs [⟨kd, tt, nn, A5, rs5.length, c5, A6, rs6.length, c6⟩] (by rfl) HP9.out.own wt.heap.size 0 1 (by rfl) HRW.out (by simp) (by first | omega | (simp; done)) (by simp; omega) ?_; intro A3 c3 w3 ho3 hg3 hbk3; have HN3 := qb (ju HB.out HP.out HBW.out HIN.out ho3 hg3 hbk3); clear ho3 hg3 hbk3)
 go_roundw
 case rel => exact ⟨j + 1, A3, c3, rs ++ [⟨kd, tt, nn, A5, rs5.length, c5, A6, rs6.length, c6⟩], by omega, by go_num, (by simp), by rw [HTK.out]; exact HN3.out.1, HN3.out.2⟩
 case measure => simp [intOf]; omega
theorem Jt (m : Nat) : CpC 80 m := by
 induction m using Nat.strongRecOn with
 | ind m ih => exact Js m ih
open Go
def upd (L : Nat -> Bool) (i : Nat) : Nat -> Bool := fun j => decide (j = i) || L j
section
variable {P : Program} {l : List Oper} {n : Nat} {a0 : Act} {W : (Nat -> Bool) -> World -> Prop} {Keep : Nat -> World -> World -> Prop} {F : Nat -> World -> Value -> Prop}
def LStep (P : Program) (l : List Oper) (n : Nat) (a0 : Act) (W : (Nat -> Bool) -> World -> Prop) (Keep : Nat -> World -> World -> Prop) (F : Nat -> World -> Value -> Prop) (i : Nat) : Prop :=
 ∀ o, l[i]? = some o -> ∀ (L : Nat -> Bool) (a : Act) (w : World), L i = false -> W L w -> (∀ s, (∀ j < n, hdst l j ≠ some s) -> a.tmps[s]? = a0.tmps[s]?) →
  (∀ j, Region.waitsFor .any l.toArray i j = true -> ∀ d, hdst l j = some d -> F j w (a.tmps.getD d undef)) →
  ∀ (K : Act -> World -> Prop) (Q : Exit -> Act -> World -> Prop), (∀ v w', W (upd L i) w' -> Keep i w w' -> F i w' v -> K (a.put o.dst v) w') -> o.wp P a w K Q
structure LInv (l : List Oper) (n : Nat) (a0 : Act) (W : (Nat -> Bool) -> World -> Prop) (F : Nat -> World -> Value -> Prop) (listed : Array Bool) (a : Act) (w : World) : Prop where
 head : HeadInv .any l.toArray n listed
 world : W (fun i => listed.getD i false) w
 defers : a.defers = a0.defers
 size : a.tmps.size = a0.tmps.size
 base : ∀ s, (∀ i < n, listed.getD i false = true -> hdst l i ≠ some s) -> a.tmps[s]? = a0.tmps[s]?
 vals : ∀ i < n, listed.getD i false = true -> ∀ d, hdst l i = some d -> F i w (a.tmps.getD d undef)
theorem ZL {listed : Array Bool} {i : Nat} (h : i < listed.size) : (fun j => (listed.setIfInBounds i true).getD j false) = upd (fun j => listed.getD j false) i := by
 funext j
 unfold upd
 by_cases hj : j = i
 ·subst hj; rw [xn h]; simp
 rw [getD_set_ne false (fun e => hj e.symm)]; simp [hj]
theorem WY {Q : Exit -> Act -> World -> Prop} (hB : jx l n a0.tmps.size = true) (hkeep : ∀ i < n, ∀ j < n, j ≠ i -> ∀ w w' v, Keep i w w' -> F j w v -> F j w' v)
  (hstep : ∀ i < n, LStep P l n a0 W Keep F i)
  (hfin : ∀ (vs : Nat -> Value) (w' : World) (L : Nat -> Bool), (∀ i < n, L i = true) -> W L w' -> (∀ i < n, F i w' (vs i)) -> wpList P l.toArray Q (l.drop n) (qF l vs n a0) w') :
  ∀ (f : Nat) (listed : Array Bool) (a : Act) (w : World), cnt listed n = f -> LInv l n a0 W F listed a w -> wpAny P .any l.toArray Q (f + (l.length - n)) listed a w := by
 simp only [jx, Bool.and_eq_true, decide_eq_true_eq, List.all_eq_true, List.mem_range] at hB
 obtain ⟨⟨⟨⟨hn, hsink⟩, hchain⟩, hall⟩, hseq⟩ := hB
 have hn' : n < l.toArray.size := by simpa using hn
 intro f
 induction f with
 | zero =>
  intro listed a w hc inv
  rw [Nat.zero_add]
  have hl1 := xo hc
  have hls : listed.size = l.length := by simpa using inv.head.size
  have hl := ZW (l := l) (by omega) hls hl1 (fun t ht htl => inv.head.tail t ht (by simpa using htl))
  have hfa : a = qF l (fun i => match hdst l i with | some d => a.tmps.getD d undef | none => undef) n a0 := by
   obtain ⟨p1, p2, p3, p4⟩ := vw (l := l) (n := n) (a0 := a0) (fun i => match hdst l i with | some d => a.tmps.getD d undef | none => undef) (fun i hi => (hall i hi).2) n (Nat.le_refl _)
   generalize qF l (fun i => match hdst l i with | some d => a.tmps.getD d undef | none => undef) n a0 = b at *
   have e1 : a.tmps = b.tmps := by
    apply Array.ext_getElem?
    intro s
    by_cases hex : ∃ i, i < n /\ hdst l i = some s
    ·obtain ⟨i, hi, hd⟩ := hex
     rw [p3 i hi s hd]
     simp only [hd]
     have hsz : s < a.tmps.size := by
      obtain ⟨d, hd2, hdm, _⟩ := zS (hall i hi).2
      rw [hd] at hd2
      cases hd2
      rw [inv.size]; exact hdm
     simp [hsz]
    have hno : ∀ i < n, hdst l i ≠ some s := fun i hi e => hex ⟨i, hi, e⟩
    rw [p4 s hno]
    exact inv.base s fun i hi _ => hno i hi
   have e2 : a.defers = b.defers := by rw [inv.defers, p1]
   cases a; cases b
   simp only at e1 e2
   rw [e1, e2]
  have hsz := hfin (fun i => match hdst l i with | some d => a.tmps.getD d undef | none => undef) w _ hl1 inv.world (fun i hi => by
   obtain ⟨d, hd, _, _⟩ := zS (hall i hi).2
   simp only [hd]
   exact inv.vals i hi (hl1 i hi) d hd)
  rw [<- hfa] at hsz
  have := wpAny_of_seq (md := .any) (Q' := Q) (l.drop n) n listed a w (fun j => by simp [List.getElem?_drop]) (by rw [List.length_drop, hl]; exact hseq) hsz
  rwa [List.length_drop] at this
 | succ f ih =>
  intro listed a w hc inv
  have hls : listed.size = l.length := by simpa using inv.head.size
  obtain ⟨i0, hi0, hu0, hbef⟩ := kf (listed := listed) (n := n) (by omega)
  have hi0r : i0 ∈ Region.ready .any l.toArray listed := by
   have h1 := (hall i0 hi0).1
   unfold jc at h1
   split at h1
   ·rename_i o ho
    simp only [Bool.and_eq_true, Array.all_eq_true'] at h1
    refine mem_ready.2 ⟨getD_in (by omega) hu0, o, by simpa using ho, fun e he hb => ?_⟩
    have := h1.2 e he
    simp only [hb, Bool.not_true, Bool.false_or, decide_eq_true_eq] at this
    exact hbef _ this
   cases h1
  rw [show f + 1 + (l.length - n) = f + (l.length - n) + 1 by omega]
  refine ⟨fun h0 => (by rw [h0] at hi0r; cases hi0r), fun i hi => ?_⟩
  have hin : i < n := by
   rcases Nat.lt_or_ge i n with h | h
   ·exact h
   exact absurd hi (tail_waits hsink hchain hn' inv.head _ i0 rfl hi0 (getD_in (by omega) hu0) i h)
  obtain ⟨hun, o, ho, haft⟩ := mem_ready.1 hi
  have hol : l[i]? = some o := by simpa using ho
  have hgu : o.guard.isNone = true := by
   have h1 := (hall i hin).1
   unfold jc at h1
   rw [hol] at h1
   simp only [Bool.and_eq_true] at h1
   exact h1.1
  obtain ⟨d, hd, hdm, _⟩ := zS (hall i hin).2
  have hod : o.dst = some d := by simpa [hdst, hol] using hd
  have hunf := getD_both hun
  unfold wpOp
  simp only [ho, vv hgu, if_true]
  left
  have hcs := ke (n := n) (by omega) hunf hin
  refine hstep i hin o hol _ a w hunf inv.world (fun s hs => inv.base s fun j hj _ => hs j hj) (fun j hj d' hd' => ?_) _ Q fun v w' hw' hk hv => ?_
  ·obtain ⟨oi, hoi, e, he, hb, hon⟩ := Region.waitsFor_spec hj
   have : oi = o := Option.some.inj (hoi.symm.trans ho)
   subst this
   have hl2 := haft e he hb
   rw [hon] at hl2
   have hjn : j < n := by
    have h1 := (hall i hin).1
    unfold jc at h1
    rw [hol] at h1
    simp only [Bool.and_eq_true, Array.all_eq_true'] at h1
    have := h1.2 e he
    simp only [hb, Bool.not_true, Bool.false_or, decide_eq_true_eq] at this
    omega
   exact inv.vals j hjn hl2 d' hd'
  rw [hod]
  refine ih _ _ w' (by omega) ⟨inv.head.set hi hin, ?_, ?_, ?_, ?_, ?_⟩
  ·show W (fun j => (listed.setIfInBounds i true).getD j false) w'
   rw [ZL (by omega)]; exact hw'
  ·simpa [Act.put] using inv.defers
  ·simpa [Act.put] using inv.size
  ·intro s hs
   have hne : d ≠ s := fun e => hs i hin (xn (by omega)) (by rw [hd, e])
   rw [jd hne]
   exact inv.base s fun j hj hl => hs j hj (getD_set_true hl)
  intro j hj hl d' hd'
  by_cases hij : i = j
  ·subst hij
   rw [hd] at hd'
   cases hd'
   rw [ZU (by rw [inv.size]; exact hdm)]
   exact hv
  rw [getD_set_ne false hij] at hl
  have hne : d ≠ d' := by
   intro e
   subst e
   obtain ⟨di, hdi, _, hi2⟩ := zS (hall i hin).2
   obtain ⟨dj, hdj, _, hj2⟩ := zS (hall j hj).2
   rw [hd] at hdi; cases hdi
   rw [hd'] at hdj; cases hdj
   rcases Nat.lt_or_gt_of_ne hij with h | h
   ·exact hj2 i h hd
   exact hi2 j h hd'
  rw [ZV (jd hne v)]
  exact hkeep i hin j hj (fun e => hij e.symm) w w' _ hk (inv.vals j hj hl d' hd')
theorem YD {id : Nat} {Q : Exit -> Act -> World -> Prop} {w : World} (n : Nat) (hm : P.follows .mixedOrders = true) (hB : jx l n a0.tmps.size = true)
  (W : (Nat -> Bool) -> World -> Prop) (Keep : Nat -> World -> World -> Prop) (F : Nat -> World -> Value -> Prop) (hW : W (fun _ => false) w.drew) (hkeep : ∀ i < n, ∀ j < n, j ≠ i -> ∀ w w' v, Keep i w w' -> F j w v -> F j w' v)
  (hstep : ∀ i < n, LStep P l n a0 W Keep F i)
  (hfin : ∀ (vs : Nat -> Value) (w' : World) (L : Nat -> Bool), (∀ i < n, L i = true) -> W L w' -> (∀ i < n, F i w' (vs i)) -> wpList P l.toArray Q (l.drop n) (qF l vs n a0) w') :
  (Code.region id l.toArray true).wp P Q a0 w := by
 have hB' := hB
 simp only [jx, Bool.and_eq_true, decide_eq_true_eq, List.all_eq_true, List.mem_range] at hB'
 obtain ⟨⟨⟨⟨hn, _⟩, _⟩, _⟩, _⟩ := hB'
 refine wp_region_any hm ?_
 have hsz : l.toArray.size = l.length := by simp
 rw [hsz]
 have h := WY (Q := Q) hB hkeep hstep hfin n (Array.replicate l.length false) a0 w.drew (xp _ n (by omega))
  ⟨⟨by simp, fun j oj _ hl => (by rw [getD_replicate_false] at hl; cases hl), fun t _ ht => getD_in (by simpa using ht) (getD_replicate_false _ _)⟩,
   (by have e : (fun i => (Array.replicate l.length false).getD i false) = fun _ => false := (by funext i; exact getD_replicate_false _ _); show W (fun i => (Array.replicate l.length false).getD i false) w.drew; rw [e]; exact hW), rfl, rfl, fun _ _ => rfl, fun i _ hl => (by rw [getD_replicate_false] at hl; cases hl)⟩
 rw [show n + (l.length - n) = l.length by omega] at h
 exact h
end
def xH (l : List Oper) (m i : Nat) : Bool := match hdst l i with
 | some d => decide (d < m) && (List.range i).all fun j => hdst l j != some d
 | none => true
def kD (l : List Oper) (m : Nat) : Bool := (List.range l.length).all fun i => jc l i && xH l m i
theorem yn {l : List Oper} {m i : Nat} {d : Tmp} (h : xH l m i = true) (hd : hdst l i = some d) : d < m /\ ∀ j < i, hdst l j ≠ some d := by
 unfold xH at h
 rw [hd] at h
 simp only [Bool.and_eq_true, decide_eq_true_eq, List.all_eq_true, List.mem_range, bne_iff_ne, ne_eq] at h
 exact h
def YX (P : Program) (l : List Oper) (n : Nat) (a0 : Act) (W : (Nat -> Bool) -> World -> Prop) (Keep : Nat -> World -> World -> Prop) (F : Nat -> World -> Value -> Prop) (i : Nat) : Prop :=
 ∀ o, l[i]? = some o -> ∀ (L : Nat -> Bool) (a : Act) (w : World), L i = false -> W L w -> (∀ s, (∀ j < n, hdst l j ≠ some s) -> a.tmps[s]? = a0.tmps[s]?) →
  (∀ j, Region.waitsFor .any l.toArray i j = true -> ∀ d, hdst l j = some d -> F j w (a.tmps.getD d undef)) -> (∀ j, Region.waitsFor .any l.toArray i j = true -> L j = true) →
  ∀ (K : Act -> World -> Prop) (Q : Exit -> Act -> World -> Prop), (∀ v w', W (upd L i) w' -> Keep i w w' -> F i w' v -> K (a.put o.dst v) w') -> o.wp P a w K Q
section
variable {P : Program} {l : List Oper} {n : Nat} {a0 : Act} {W : (Nat -> Bool) -> World -> Prop} {Keep : Nat -> World -> World -> Prop} {F : Nat -> World -> Value -> Prop}
structure TInvAL (l : List Oper) (a0 : Act) (W : (Nat -> Bool) -> World -> Prop) (F : Nat -> World -> Value -> Prop) (listed : Array Bool) (a : Act) (w : World) : Prop where
 head : HeadInv .any l.toArray l.length listed
 world : W (fun i => listed.getD i false) w
 defers : a.defers = a0.defers
 size : a.tmps.size = a0.tmps.size
 base : ∀ s, (∀ i < l.length, listed.getD i false = true -> hdst l i ≠ some s) -> a.tmps[s]? = a0.tmps[s]?
 vals : ∀ i < l.length, listed.getD i false = true -> ∀ d, hdst l i = some d -> F i w (a.tmps.getD d undef)
 none : ∀ i < l.length, listed.getD i false = true -> hdst l i = none -> ∃ v, F i w v
theorem yo (vs : Nat -> Value) (hr : ∀ i < n, xH l a0.tmps.size i = true) : ∀ k, k <= n →
  (qF l vs k a0).defers = a0.defers /\ (qF l vs k a0).tmps.size = a0.tmps.size /\ (∀ i < k, ∀ d, hdst l i = some d -> (qF l vs k a0).tmps[d]? = some (vs i)) ∧
   (∀ s, (∀ i < k, hdst l i ≠ some s) -> (qF l vs k a0).tmps[s]? = a0.tmps[s]?)
 | 0, _ => ⟨rfl, rfl, fun i hi => absurd hi (by omega), fun _ _ => rfl⟩
 | k + 1, hk => by
  obtain ⟨h1, h2, h3, h4⟩ := yo vs hr k (by omega)
  cases hd : hdst l k with
  | none =>
   have e : qF l vs (k + 1) a0 = qF l vs k a0 := by simp only [qF, hd, Act.put]
   rw [e]
   refine ⟨h1, h2, fun i hi d' hd' => ?_, fun s hs => h4 s fun i hi => hs i (by omega)⟩
   by_cases hik : i = k
   ·subst hik; rw [hd] at hd'; cases hd'
   exact h3 i (by omega) d' hd'
  | some d =>
   obtain ⟨hdm, hnew⟩ := yn (hr k (by omega)) hd
   simp only [qF, hd, Act.put]
   refine ⟨h1, by simpa using h2, fun i hi d' hd' => ?_, fun s hs => ?_⟩
   ·by_cases hik : i = k
    ·subst hik
     rw [hd] at hd'
     cases hd'
     simp [h2, hdm]
    have hne : d ≠ d' := fun e => hnew i (by omega) (by rw [hd', e])
    rw [Array.getElem?_setIfInBounds_ne hne]
    exact h3 i (by omega) d' hd'
   have hne : d ≠ s := fun e => hs k (by omega) (by rw [hd, e])
   rw [Array.getElem?_setIfInBounds_ne hne]
   exact h4 s fun i hi => hs i (by omega)
theorem WW {Q : Exit -> Act -> World -> Prop} (hB : kD l a0.tmps.size = true) (hkeep : ∀ i < l.length, ∀ j < l.length, j ≠ i -> ∀ w w' v, Keep i w w' -> F j w v -> F j w' v)
  (hstep : ∀ i < l.length, YX P l l.length a0 W Keep F i)
  (hfin : ∀ (vs : Nat -> Value) (w' : World) (L : Nat -> Bool), (∀ i < l.length, L i = true) -> W L w' -> (∀ i < l.length, F i w' (vs i)) -> Q .normal (qF l vs l.length a0) w') :
  ∀ (f : Nat) (listed : Array Bool) (a : Act) (w : World), cnt listed l.length = f -> TInvAL l a0 W F listed a w -> wpAny P .any l.toArray Q f listed a w := by
 simp only [kD, List.all_eq_true, List.mem_range, Bool.and_eq_true] at hB
 intro f
 induction f with
 | zero =>
  intro listed a w hc inv
  have hl1 := xo hc
  refine ⟨?_, ?_⟩
  ·cases hr : Region.ready .any l.toArray listed with
   | nil => rfl
   | cons i r =>
    have hi : i ∈ Region.ready .any l.toArray listed := by rw [hr]; simp
    obtain ⟨hun, o, ho, _⟩ := mem_ready.1 hi
    have hil : i < l.length := by
     have := (List.getElem?_eq_some_iff.1 (show l[i]? = some o by simpa using ho)).1; exact this
    have := hl1 i hil
    rw [getD_both hun] at this
    cases this
  have hfa : ∀ vs : Nat -> Value, (∀ i < l.length, ∀ d, hdst l i = some d -> vs i = a.tmps.getD d undef) -> a = qF l vs l.length a0 := by
   intro vs hvs
   obtain ⟨p1, p2, p3, p4⟩ := yo (l := l) (n := l.length) (a0 := a0) vs (fun i hi => (hB i hi).2) l.length (Nat.le_refl _)
   generalize qF l vs l.length a0 = b at *
   have e1 : a.tmps = b.tmps := by
    apply Array.ext_getElem?
    intro s
    by_cases hex : ∃ i, i < l.length /\ hdst l i = some s
    ·obtain ⟨i, hi, hd⟩ := hex
     rw [p3 i hi s hd, hvs i hi s hd]
     have hsz : s < a.tmps.size := by rw [inv.size]; exact (yn (hB i hi).2 hd).1
     simp [hsz]
    have hno : ∀ i < l.length, hdst l i ≠ some s := fun i hi e => hex ⟨i, hi, e⟩
    rw [p4 s hno]
    exact inv.base s fun i hi _ => hno i hi
   have e2 : a.defers = b.defers := by rw [inv.defers, p1]
   cases a; cases b
   simp only at e1 e2
   rw [e1, e2]
  have hex : ∀ i, ∃ v, i < l.length -> (F i w v /\ ∀ d, hdst l i = some d -> v = a.tmps.getD d undef) := by
   intro i
   by_cases hi : i < l.length
   ·cases hd : hdst l i with
    | none =>
     obtain ⟨v, hv⟩ := inv.none i hi (hl1 i hi) hd
     exact ⟨v, fun _ => ⟨hv, fun d e => by cases e⟩⟩
    | some d => exact ⟨a.tmps.getD d undef, fun _ => ⟨inv.vals i hi (hl1 i hi) d hd, fun d' e => by injection e with e; rw [e]⟩⟩
   ·exact ⟨undef, fun h => absurd h hi⟩
  have hvs : ∀ i < l.length, F i w ((hex i).choose) /\ ∀ d, hdst l i = some d -> (hex i).choose = a.tmps.getD d undef := fun i hi => (hex i).choose_spec hi
  have hq := hfin (fun i => (hex i).choose) w _ hl1 inv.world (fun i hi => (hvs i hi).1)
  rw [<- hfa _ (fun i hi => (hvs i hi).2)] at hq
  exact hq
 | succ f ih =>
  intro listed a w hc inv
  have hls : listed.size = l.length := by simpa using inv.head.size
  obtain ⟨i0, hi0, hu0, hbef⟩ := kf (listed := listed) (n := l.length) (by omega)
  have hi0r : i0 ∈ Region.ready .any l.toArray listed := by
   have h1 := (hB i0 hi0).1
   unfold jc at h1
   split at h1
   ·rename_i o ho
    simp only [Bool.and_eq_true, Array.all_eq_true'] at h1
    refine mem_ready.2 ⟨getD_in (by omega) hu0, o, by simpa using ho, fun e he hb => ?_⟩
    have := h1.2 e he
    simp only [hb, Bool.not_true, Bool.false_or, decide_eq_true_eq] at this
    exact hbef _ this
   cases h1
  refine ⟨fun h0 => (by rw [h0] at hi0r; cases hi0r), fun i hi => ?_⟩
  obtain ⟨hun, o, ho, haft⟩ := mem_ready.1 hi
  have hol : l[i]? = some o := by simpa using ho
  have hin : i < l.length := (List.getElem?_eq_some_iff.1 hol).1
  have hgu : o.guard.isNone = true := by
   have h1 := (hB i hin).1
   unfold jc at h1
   rw [hol] at h1
   simp only [Bool.and_eq_true] at h1
   exact h1.1
  have hunf := getD_both hun
  unfold wpOp
  simp only [ho, vv hgu, if_true]
  left
  have hcs := ke (n := l.length) (by omega) hunf hin
  refine hstep i hin o hol _ a w hunf inv.world (fun s hs => inv.base s fun j hj _ => hs j hj) (fun j hj d' hd' => ?_) (fun j hj => by obtain ⟨oi, hoi, e, he, hb, hon⟩ := Region.waitsFor_spec hj; have h9 : oi = o := Option.some.inj (hoi.symm.trans ho); subst h9; have h8 := haft e he hb; rw [hon] at h8; exact h8) _ Q fun v w' hw' hk hv => ?_
  ·obtain ⟨oi, hoi, e, he, hb, hon⟩ := Region.waitsFor_spec hj
   have : oi = o := Option.some.inj (hoi.symm.trans ho)
   subst this
   have hl2 := haft e he hb
   rw [hon] at hl2
   have hjn : j < l.length := by
    have h1 := (hB i hin).1
    unfold jc at h1
    rw [hol] at h1
    simp only [Bool.and_eq_true, Array.all_eq_true'] at h1
    have := h1.2 e he
    simp only [hb, Bool.not_true, Bool.false_or, decide_eq_true_eq] at this
    omega
   exact inv.vals j hjn hl2 d' hd'
  have hod : o.dst = hdst l i := by simp [hdst, hol]
  rw [hod]
  refine ih _ _ w' (by omega) ⟨inv.head.set hi hin, ?_, ?_, ?_, ?_, ?_, ?_⟩
  ·show W (fun j => (listed.setIfInBounds i true).getD j false) w'
   rw [ZL (by omega)]; exact hw'
  ·cases hd : hdst l i <;> simpa [Act.put] using inv.defers
  ·cases hd : hdst l i <;> simpa [Act.put] using inv.size
  ·intro s hs
   have hb0 := inv.base s fun j hj hl => hs j hj (getD_set_true hl)
   cases hd : hdst l i with
   | none => exact hb0
   | some d =>
    have hne : d ≠ s := fun e => hs i hin (xn (by omega)) (by rw [hd, e])
    rw [jd hne]
    exact hb0
  ·intro j hj hl d' hd'
   by_cases hij : i = j
   ·subst hij
    rw [hd', ZU (by rw [inv.size]; exact (yn (hB i hin).2 hd').1)]
    exact hv
   rw [getD_set_ne false hij] at hl
   have hv2 := hkeep i hin j hj (fun e => hij e.symm) w w' _ hk (inv.vals j hj hl d' hd')
   cases hd : hdst l i with
   | none => exact hv2
   | some d =>
    have hne : d ≠ d' := by
     intro e
     subst e
     rcases Nat.lt_or_gt_of_ne hij with h | h
     ·exact (yn (hB j hj).2 hd').2 i h hd
     exact (yn (hB i hin).2 hd).2 j h hd'
    rw [ZV (jd hne v)]
    exact hv2
  intro j hj hl hd'
  by_cases hij : i = j
  ·subst hij; exact ⟨v, hv⟩
  rw [getD_set_ne false hij] at hl
  obtain ⟨v2, hv2⟩ := inv.none j hj hl hd'
  exact ⟨v2, hkeep i hin j hj (fun e => hij e.symm) w w' _ hk hv2⟩
theorem qa1 {id : Nat} {Q : Exit -> Act -> World -> Prop} {w : World} (n : Nat) (hn : l.length = n) (hm : P.follows .mixedOrders = true) (hB : kD l a0.tmps.size = true)
  (W : (Nat -> Bool) -> World -> Prop) (Keep : Nat -> World -> World -> Prop) (F : Nat -> World -> Value -> Prop) (hW : W (fun _ => false) w.drew) (hkeep : ∀ i < n, ∀ j < n, j ≠ i -> ∀ w w' v, Keep i w w' -> F j w v -> F j w' v)
  (hstep : ∀ i < n, YX P l n a0 W Keep F i)
  (hfin : ∀ (vs : Nat -> Value) (w' : World) (L : Nat -> Bool), (∀ i < n, L i = true) -> W L w' -> (∀ i < n, F i w' (vs i)) -> wpList P l.toArray Q (l.drop n) (qF l vs n a0) w') :
  (Code.region id l.toArray true).wp P Q a0 w := by
 subst hn
 refine wp_region_any hm ?_
 have hsz : l.toArray.size = l.length := by simp
 rw [hsz]
 exact WW (Q := Q) hB hkeep hstep (fun vs w' L h0 h1 h2 => by have h3 := hfin vs w' L h0 h1 h2; rw [List.drop_length] at h3; exact h3) l.length (Array.replicate l.length false) a0 w.drew (xp _ l.length (by omega))
  ⟨⟨by simp, fun j oj _ hl => (by rw [getD_replicate_false] at hl; cases hl), fun t h1 ht => absurd ht (by simp; omega)⟩,
   (by have e : (fun i => (Array.replicate l.length false).getD i false) = fun _ => false := (by funext i; exact getD_replicate_false _ _); show W (fun i => (Array.replicate l.length false).getD i false) w.drew; rw [e]; exact hW), rfl, rfl, fun _ _ => rfl, fun i _ hl => (by rw [getD_replicate_false] at hl; cases hl), fun i _ hl => (by rw [getD_replicate_false] at hl; cases hl)⟩
end
def vL (P : Program) (l : List Oper) (n : Nat) (a0 : Act) (W : (Nat -> Bool) -> Act -> World -> Prop) (i : Nat) : Prop :=
 ∀ o, l[i]? = some o -> ∀ (L : Nat -> Bool) (a : Act) (w : World), L i = false -> W L a w -> a.tmps.size = a0.tmps.size -> (∀ s, (∀ j < n, hdst l j ≠ some s) -> a.tmps[s]? = a0.tmps[s]?) →
  (∀ j, Region.waitsFor .any l.toArray i j = true -> L j = true) →
  ∀ (K : Act -> World -> Prop) (Q : Exit -> Act -> World -> Prop), (∀ v w', W (upd L i) (a.put o.dst v) w' -> K (a.put o.dst v) w') -> o.wp P a w K Q
section
variable {P : Program} {l : List Oper} {n : Nat} {a0 : Act} {W : (Nat -> Bool) -> Act -> World -> Prop}
structure TInvAV (l : List Oper) (a0 : Act) (W : (Nat -> Bool) -> Act -> World -> Prop) (listed : Array Bool) (a : Act) (w : World) : Prop where
 head : HeadInv .any l.toArray l.length listed
 world : W (fun i => listed.getD i false) a w
 defers : a.defers = a0.defers
 size : a.tmps.size = a0.tmps.size
 base : ∀ s, (∀ i < l.length, listed.getD i false = true -> hdst l i ≠ some s) -> a.tmps[s]? = a0.tmps[s]?
theorem QC {Q : Exit -> Act -> World -> Prop} (hB : kD l a0.tmps.size = true) (hstep : ∀ i < l.length, vL P l l.length a0 W i)
  (hfin : ∀ (vs : Nat -> Value) (w' : World) (L : Nat -> Bool), (∀ i < l.length, L i = true) -> W L (qF l vs l.length a0) w' -> Q .normal (qF l vs l.length a0) w') :
  ∀ (f : Nat) (listed : Array Bool) (a : Act) (w : World), cnt listed l.length = f -> TInvAV l a0 W listed a w -> wpAny P .any l.toArray Q f listed a w := by
 simp only [kD, List.all_eq_true, List.mem_range, Bool.and_eq_true] at hB
 intro f
 induction f with
 | zero =>
  intro listed a w hc inv
  have hl1 := xo hc
  refine ⟨?_, ?_⟩
  ·cases hr : Region.ready .any l.toArray listed with
   | nil => rfl
   | cons i r =>
    have hi : i ∈ Region.ready .any l.toArray listed := by rw [hr]; simp
    obtain ⟨hun, o, ho, _⟩ := mem_ready.1 hi
    have hil : i < l.length := by
     have := (List.getElem?_eq_some_iff.1 (show l[i]? = some o by simpa using ho)).1; exact this
    have := hl1 i hil
    rw [getD_both hun] at this
    cases this
  have hfa : ∀ vs : Nat -> Value, (∀ i < l.length, ∀ d, hdst l i = some d -> vs i = a.tmps.getD d undef) -> a = qF l vs l.length a0 := by
   intro vs hvs
   obtain ⟨p1, p2, p3, p4⟩ := yo (l := l) (n := l.length) (a0 := a0) vs (fun i hi => (hB i hi).2) l.length (Nat.le_refl _)
   generalize qF l vs l.length a0 = b at *
   have e1 : a.tmps = b.tmps := by
    apply Array.ext_getElem?
    intro s
    by_cases hex : ∃ i, i < l.length /\ hdst l i = some s
    ·obtain ⟨i, hi, hd⟩ := hex
     rw [p3 i hi s hd, hvs i hi s hd]
     have hsz : s < a.tmps.size := by rw [inv.size]; exact (yn (hB i hi).2 hd).1
     simp [hsz]
    have hno : ∀ i < l.length, hdst l i ≠ some s := fun i hi e => hex ⟨i, hi, e⟩
    rw [p4 s hno]
    exact inv.base s fun i hi _ => hno i hi
   have e2 : a.defers = b.defers := by rw [inv.defers, p1]
   cases a; cases b
   simp only at e1 e2
   rw [e1, e2]
  have hf := hfa (fun i => match hdst l i with | some d => a.tmps.getD d undef | none => undef) (fun i hi d hd => by simp only [hd])
  have hq := hfin (fun i => match hdst l i with | some d => a.tmps.getD d undef | none => undef) w _ hl1 (by rw [<- hf]; exact inv.world)
  rw [<- hf] at hq
  exact hq
 | succ f ih =>
  intro listed a w hc inv
  have hls : listed.size = l.length := by simpa using inv.head.size
  obtain ⟨i0, hi0, hu0, hbef⟩ := kf (listed := listed) (n := l.length) (by omega)
  have hi0r : i0 ∈ Region.ready .any l.toArray listed := by
   have h1 := (hB i0 hi0).1
   unfold jc at h1
   split at h1
   ·rename_i o ho
    simp only [Bool.and_eq_true, Array.all_eq_true'] at h1
    refine mem_ready.2 ⟨getD_in (by omega) hu0, o, by simpa using ho, fun e he hb => ?_⟩
    have := h1.2 e he
    simp only [hb, Bool.not_true, Bool.false_or, decide_eq_true_eq] at this
    exact hbef _ this
   cases h1
  refine ⟨fun h0 => (by rw [h0] at hi0r; cases hi0r), fun i hi => ?_⟩
  obtain ⟨hun, o, ho, haft⟩ := mem_ready.1 hi
  have hol : l[i]? = some o := by simpa using ho
  have hin : i < l.length := (List.getElem?_eq_some_iff.1 hol).1
  have hgu : o.guard.isNone = true := by
   have h1 := (hB i hin).1
   unfold jc at h1
   rw [hol] at h1
   simp only [Bool.and_eq_true] at h1
   exact h1.1
  have hunf := getD_both hun
  unfold wpOp
  simp only [ho, vv hgu, if_true]
  left
  have hcs := ke (n := l.length) (by omega) hunf hin
  refine hstep i hin o hol _ a w hunf inv.world inv.size (fun s hs => inv.base s fun j hj _ => hs j hj) (fun j hj => by obtain ⟨oi, hoi, e, he, hb, hon⟩ := Region.waitsFor_spec hj; have h9 : oi = o := Option.some.inj (hoi.symm.trans ho); subst h9; have h8 := haft e he hb; rw [hon] at h8; exact h8) _ Q fun v w' hw' => ?_
  have hod : o.dst = hdst l i := by simp [hdst, hol]
  rw [hod]
  refine ih _ _ w' (by omega) ⟨inv.head.set hi hin, ?_, ?_, ?_, ?_⟩
  ·show W (fun j => (listed.setIfInBounds i true).getD j false) _ w'
   rw [ZL (by omega), <- hod]; exact hw'
  ·cases hd : hdst l i <;> simpa [Act.put] using inv.defers
  ·cases hd : hdst l i <;> simpa [Act.put] using inv.size
  intro s hs
  have hb0 := inv.base s fun j hj hl => hs j hj (getD_set_true hl)
  cases hd : hdst l i with
  | none => exact hb0
  | some d =>
   have hne : d ≠ s := fun e => hs i hin (xn (by omega)) (by rw [hd, e])
   rw [jd hne]
   exact hb0
theorem QD {id : Nat} {Q : Exit -> Act -> World -> Prop} {w : World} (n : Nat) (hn : l.length = n) (hm : P.follows .mixedOrders = true) (hB : kD l a0.tmps.size = true)
  (W : (Nat -> Bool) -> Act -> World -> Prop) (hW : W (fun _ => false) a0 w.drew)
  (hstep : ∀ i < n, vL P l n a0 W i)
  (hfin : ∀ (vs : Nat -> Value) (w' : World) (L : Nat -> Bool), (∀ i < n, L i = true) -> W L (qF l vs n a0) w' -> wpList P l.toArray Q (l.drop n) (qF l vs n a0) w') :
  (Code.region id l.toArray true).wp P Q a0 w := by
 subst hn
 refine wp_region_any hm ?_
 have hsz : l.toArray.size = l.length := by simp
 rw [hsz]
 exact QC (Q := Q) hB hstep (fun vs w' L h0 h1 => by have h3 := hfin vs w' L h0 h1; rw [List.drop_length] at h3; exact h3) l.length (Array.replicate l.length false) a0 w.drew (xp _ l.length (by omega))
  ⟨⟨by simp, fun j oj _ hl => (by rw [getD_replicate_false] at hl; cases hl), fun t h1 ht => absurd ht (by simp; omega)⟩,
   (by have e : (fun i => (Array.replicate l.length false).getD i false) = fun _ => false := (by funext i; exact getD_replicate_false _ _); show W (fun i => (Array.replicate l.length false).getD i false) _ w.drew; rw [e]; exact hW), rfl, rfl, fun _ _ => rfl⟩
end
theorem XV {W w5 w6 : World} {B B5 B6 : Nat} {k : Int} {t nm : Tx} {A5 A6 : Option Addr} {c5 c6 : Nat} {rs5 rs6 : List Raw} {xs ys : List Pt} (h5 : PLx w5 B5 A5 c5 rs5 xs) (hk5 : ∀ j, B5 <= j -> j < w5.heap.size -> W.heap[j]? = w5.heap[j]?) (h6 : PLx w6 B6 A6 c6 rs6 ys) (hk6 : ∀ j, B6 <= j -> j < w6.heap.size -> W.heap[j]? = w6.heap[j]?) (hB5 : B <= B5) (hB6 : B <= B6) (hd : w6.heap.size <= B5) : InX W B (.mk k t nm xs ys) ⟨k, t, nm, A5, rs5.length, c5, A6, rs6.length, c6⟩ := by
 obtain ⟨L5, h5⟩ := h5
 obtain ⟨L6, h6⟩ := h6
 have g5 := h5.at hk5
 have g6 := h6.at hk6
 refine ⟨(bk A5 rs5.length c5 ++ L5) ++ (bk A6 rs6.length c6 ++ L6), ?_, ?_, ?_⟩
 ·rw [OwP]
  exact ⟨rfl, rfl, rfl, h5.len, h6.len, rs5, L5, rs6, L6, zC g5.own (Nat.zero_le _), g5.els, zC g6.own (Nat.zero_le _), g6.els, rfl⟩
 ·rw [List.nodup_append]
  refine ⟨h5.nodup, h6.nodup, fun a ha b hb e => ?_⟩
  subst e
  have h1 := h5.lts a ha
  have h2 := h6.lts a hb
  omega
 intro j hj
 rw [List.mem_append] at hj
 rcases hj with hj | hj
 ·exact Nat.le_trans hB5 (h5.lts j hj).1
 exact Nat.le_trans hB6 (h6.lts j hj).1
theorem XW {w w' : World} {c : Nat} (h : w'.ownsRow w.heap.size 115 5 (.slice (some ⟨w.heap.size, 0, none⟩) 0 c) 0 []) : PLx w' w.heap.size (some ⟨w.heap.size, 0, none⟩) c [] [] :=
 ⟨[], h, by simp [OwPs], by show ([w.heap.size] ++ []).Nodup; simp, fun j hj => by cases hj⟩
theorem kZ {a : Act} {d : Tmp} (h : d < a.tmps.size) (v : Value) : (a.put (some d) v).tmps[d]? = some v := by simp [Act.put, h]
theorem vc {qs : List (Nat × Nat × Value)} {L : Nat -> Bool} {a : Act} {i d : Nat} {v : Value} (h : ∀ p ∈ qs, L p.1 = true -> a.tmps[p.2.1]? = some p.2.2) (hd : d < a.tmps.size) (hn : ∀ p ∈ qs, (p.1 = i /\ p.2.1 = d /\ p.2.2 = v) \/ (p.1 ≠ i /\ p.2.1 ≠ d)) :
  ∀ p ∈ qs, upd L i p.1 = true -> (a.put (some d) v).tmps[p.2.1]? = some p.2.2 := by
 intro p hp hl
 rcases hn p hp with ⟨h1, h2, h3⟩ | ⟨h1, h2⟩
 ·rw [h2, h3, kZ hd _]
 rw [jd (fun e => h2 e.symm)]
 exact h p hp (by simpa [upd, h1] using hl)
theorem q_void {qs : List (Nat × Nat × Value)} {L : Nat -> Bool} {a : Act} {i : Nat} {v : Value} (h : ∀ p ∈ qs, L p.1 = true -> a.tmps[p.2.1]? = some p.2.2) (hn : ∀ p ∈ qs, p.1 ≠ i) :
  ∀ p ∈ qs, upd L i p.1 = true -> (a.put none v).tmps[p.2.1]? = some p.2.2 := fun p hp hl => h p hp (by simpa [upd, hn p hp] using hl)
theorem InX.keep {w w' : World} {B : Nat} {x : Pt} {r : Raw} (h : InX w B x r) (hk : ∀ j, B <= j -> j < w.heap.size -> w'.heap[j]? = w.heap[j]?) : InX w' B x r := by
 obtain ⟨L, h1, h2, h3⟩ := h
 exact ⟨L, OwP.keep _ _ _ h1 (fun b hb => hk b (h3 b hb) (OwP.lt _ _ _ h1 b hb)), h2, h3⟩
theorem InX.base {w : World} {B B' : Nat} {x : Pt} {r : Raw} (h : InX w B x r) (hb : B' <= B) : InX w B' x r := h.elim fun L h => ⟨L, h.1, h.2.1, fun j hj => Nat.le_trans hb (h.2.2 j hj)⟩
theorem jt {a : Array Value} {d : Nat} {v : Value} (h : a[d]? = some v) : a[d]?.getD undef = v := by rw [h]; rfl
theorem PLx.at {w w' : World} {B c : Nat} {A : Option Addr} {rs : List Raw} {xs : List Pt} (h : PLx w B A c rs xs) (hk : ∀ j, B <= j -> j < w.heap.size -> w'.heap[j]? = w.heap[j]?) : PLx w' B A c rs xs := h.elim fun L h => ⟨L, h.at hk⟩
theorem PLx.base {w : World} {B B' c : Nat} {A : Option Addr} {rs : List Raw} {xs : List Pt} (h : PLx w B A c rs xs) (hb : B' <= B) : PLx w B' A c rs xs := h.elim fun L h => ⟨L, h.base hb⟩
def cpq (b : Nat) (v3 v4 : Value) : List (Nat × Nat × Value) := [(0, 15, .pointer (some ⟨b, 3, none⟩)), (1, 16, v3), (3, 18, .pointer (some ⟨b, 4, none⟩)), (4, 19, v4), (6, 21, .pointer (some ⟨b, 3, none⟩)), (8, 22, .pointer (some ⟨b, 4, none⟩))]
structure WCp (wr : World) (kd : Int) (tt nn : Tx) (us vs : List Pt) (x3 x4 : Value) (L : Nat -> Bool) (a : Act) (w : World) : Prop where
 below : Below wr.heap.size wr w
 size : wr.heap.size + 1 <= w.heap.size
 q : ∀ p ∈ cpq wr.heap.size x3 x4, L p.1 = true -> a.tmps[p.2.1]? = some p.2.2
 r5 : L 2 = true -> ∃ (A5 : Option Addr) (c5 : Nat) (rs5 : List Raw), a.tmps[17]? = some (.slice A5 rs5.length c5) /\ PLx w (wr.heap.size + 1) A5 c5 rs5 us
 r6 : L 5 = true -> ∃ (A6 : Option Addr) (c6 : Nat) (rs6 : List Raw), a.tmps[20]? = some (.slice A6 rs6.length c6) /\ PLx w (wr.heap.size + 1) A6 c6 rs6 vs
 two : L 2 = true -> L 5 = true -> ∃ (A5 : Option Addr) (c5 : Nat) (rs5 : List Raw) (A6 : Option Addr) (c6 : Nat) (rs6 : List Raw), a.tmps[17]? = some (.slice A5 rs5.length c5) /\ a.tmps[20]? = some (.slice A6 rs6.length c6) /\ InX w (wr.heap.size + 1) (.mk kd tt nn us vs) ⟨kd, tt, nn, A5, rs5.length, c5, A6, rs6.length, c6⟩
 o1 : L 2 = true -> L 1 = true
 o2 : L 5 = true -> L 4 = true
 o3 : L 7 = true -> L 2 = true
 o4 : L 9 = true -> L 5 = true
 box : ∃ v3 v4, w.heap[wr.heap.size]? = some (.cells #[.int .i64 kd, sv tt, sv nn, v3, v4] 115 (0, 0)) /\ (L 7 = false -> v3 = x3) /\ (L 9 = false -> v4 = x4) /\ (L 7 = true -> a.tmps[17]? = some v3) /\ (L 9 = true -> a.tmps[20]? = some v4)
section
variable {wr : World} {kd : Int} {tt nn : Tx} {us vs : List Pt} {x3 x4 : Value} {L : Nat -> Bool} {a : Act} {w : World}
theorem WCp.quiet (h : WCp wr kd tt nn us vs x3 x4 L a w) {i d : Nat} {v : Value} (hd : d < a.tmps.size) (hi : (i, d, v) ∈ cpq wr.heap.size x3 x4) : WCp wr kd tt nn us vs x3 x4 (upd L i) (a.put (some d) v) w := by
 have hn : ∀ p ∈ cpq wr.heap.size x3 x4, (p.1 = i /\ p.2.1 = d /\ p.2.2 = v) \/ (p.1 ≠ i /\ p.2.1 ≠ d) := by
  intro p hp
  simp only [cpq, List.mem_cons, List.not_mem_nil, or_false, Prod.mk.injEq] at hi hp
  rcases hi with ⟨rfl, rfl, rfl⟩ | ⟨rfl, rfl, rfl⟩ | ⟨rfl, rfl, rfl⟩ | ⟨rfl, rfl, rfl⟩ | ⟨rfl, rfl, rfl⟩ | ⟨rfl, rfl, rfl⟩ <;> rcases hp with rfl | rfl | rfl | rfl | rfl | rfl <;> simp
 have hid : (i ≠ 2 /\ i ≠ 5 /\ i ≠ 7 /\ i ≠ 9) /\ d ≠ 17 /\ d ≠ 20 := by
  simp only [cpq, List.mem_cons, List.not_mem_nil, or_false, Prod.mk.injEq] at hi
  rcases hi with ⟨rfl, rfl, rfl⟩ | ⟨rfl, rfl, rfl⟩ | ⟨rfl, rfl, rfl⟩ | ⟨rfl, rfl, rfl⟩ | ⟨rfl, rfl, rfl⟩ | ⟨rfl, rfl, rfl⟩ <;> simp
 obtain ⟨⟨n2, n5, n7, n9⟩, n17, n20⟩ := hid
 have e2 : upd L i 2 = L 2 := by simp [upd, Ne.symm n2]
 have e5 : upd L i 5 = L 5 := by simp [upd, Ne.symm n5]
 have e7 : upd L i 7 = L 7 := by simp [upd, Ne.symm n7]
 have e9 : upd L i 9 = L 9 := by simp [upd, Ne.symm n9]
 have up : ∀ j, L j = true -> upd L i j = true := fun j hj => by simp [upd, hj]
 have p17 : (a.put (some d) v).tmps[17]? = a.tmps[17]? := jd n17 v
 have p20 : (a.put (some d) v).tmps[20]? = a.tmps[20]? := jd n20 v
 refine ⟨h.below, h.size, vc h.q hd hn, ?_, ?_, ?_, ?_, ?_, ?_, ?_, ?_⟩
 ·rw [e2, p17]; exact h.r5
 ·rw [e5, p20]; exact h.r6
 ·rw [e2, e5, p17, p20]; exact h.two
 ·rw [e2]; exact fun e => up _ (h.o1 e)
 ·rw [e5]; exact fun e => up _ (h.o2 e)
 ·rw [e7, e2]; exact h.o3
 ·rw [e9, e5]; exact h.o4
 rw [e7, e9, p17, p20]; exact h.box
theorem Zp {b : Nat} {i d : Nat} {v : Value} (h : (i = 2 /\ d = 17) \/ (i = 5 /\ d = 20)) : ∀ p ∈ cpq b x3 x4, (p.1 = i /\ p.2.1 = d /\ p.2.2 = v) \/ (p.1 ≠ i /\ p.2.1 ≠ d) := by
 intro p hp
 simp only [cpq, List.mem_cons, List.not_mem_nil, or_false] at hp
 rcases h with ⟨rfl, rfl⟩ | ⟨rfl, rfl⟩ <;> rcases hp with rfl | rfl | rfl | rfl | rfl | rfl <;> simp
theorem cpq_no2 {b : Nat} {i : Nat} (h : i = 7 \/ i = 9) : ∀ p ∈ cpq b x3 x4, p.1 ≠ i := by
 intro p hp
 simp only [cpq, List.mem_cons, List.not_mem_nil, or_false] at hp
 rcases h with rfl | rfl <;> rcases hp with rfl | rfl | rfl | rfl | rfl | rfl <;> simp
theorem WCp.call5 (h : WCp wr kd tt nn us vs x3 x4 L a w) (hl : L 2 = false) (hl1 : L 1 = true) (hd : 17 < a.tmps.size) {w2 : World} {A : Option Addr} {c : Nat} {rs : List Raw} (hp : PLx w2 w.heap.size A c rs us) (hb : Below w.heap.size w w2) :
  WCp wr kd tt nn us vs x3 x4 (upd L 2) (a.put (some 17) (.slice A rs.length c)) w2 := by
 have hz := hb.size
 have hs := h.size
 have l7 : L 7 = false := by
  cases e : L 7
  ·rfl
  rw [h.o3 e] at hl; cases hl
 have e17 : (a.put (some 17) (.slice A rs.length c)).tmps[17]? = some (.slice A rs.length c) := kZ hd _
 have e20 : (a.put (some 17) (.slice A rs.length c)).tmps[20]? = a.tmps[20]? := jd (by decide) _
 have e5 : upd L 2 5 = L 5 := by simp [upd]
 have e1 : upd L 2 1 = L 1 := by simp [upd]
 have e2 : upd L 2 2 = true := by simp [upd]
 have e4 : upd L 2 4 = L 4 := by simp [upd]
 have e7 : upd L 2 7 = L 7 := by simp [upd]
 have e9 : upd L 2 9 = L 9 := by simp [upd]
 refine ⟨h.below.trans (hb.mono (by omega)), by omega, vc h.q hd (Zp (.inl ⟨rfl, rfl⟩)), fun _ => ⟨A, c, rs, e17, hp.base hs⟩, ?_, ?_, ?_, ?_, ?_, ?_, ?_⟩
 ·rw [e5, e20]
  intro e
  obtain ⟨A6, c6, rs6, h1, h2⟩ := h.r6 e
  exact ⟨A6, c6, rs6, h1, h2.keep hb⟩
 ·rw [e5, e20]
  intro _ e
  obtain ⟨A6, c6, rs6, h1, h2⟩ := h.r6 e
  exact ⟨A, c, rs, A6, c6, rs6, e17, h1, XV hp (fun _ _ _ => rfl) h2 (fun j _ hj => hb.block j hj) hs (Nat.le_refl _) (Nat.le_refl _)⟩
 ·rw [e1]; exact fun _ => hl1
 ·rw [e5, e4]; exact h.o2
 ·rw [e2]; exact fun _ => rfl
 ·rw [e9, e5]; exact h.o4
 obtain ⟨v3, v4, h1, h2, h3, h4, h5⟩ := h.box
 rw [e7, e9, e20]
 exact ⟨v3, v4, (hb.block _ (by omega)).trans h1, h2, h3, (fun e => by rw [l7] at e; cases e), h5⟩
theorem WCp.call6 (h : WCp wr kd tt nn us vs x3 x4 L a w) (hl : L 5 = false) (hl1 : L 4 = true) (hd : 20 < a.tmps.size) {w2 : World} {A : Option Addr} {c : Nat} {rs : List Raw} (hp : PLx w2 w.heap.size A c rs vs) (hb : Below w.heap.size w w2) :
  WCp wr kd tt nn us vs x3 x4 (upd L 5) (a.put (some 20) (.slice A rs.length c)) w2 := by
 have hz := hb.size
 have hs := h.size
 have l9 : L 9 = false := by
  cases e : L 9
  ·rfl
  rw [h.o4 e] at hl; cases hl
 have e20 : (a.put (some 20) (.slice A rs.length c)).tmps[20]? = some (.slice A rs.length c) := kZ hd _
 have e17 : (a.put (some 20) (.slice A rs.length c)).tmps[17]? = a.tmps[17]? := jd (by decide) _
 have e5 : upd L 5 5 = true := by simp [upd]
 have e1 : upd L 5 1 = L 1 := by simp [upd]
 have e2 : upd L 5 2 = L 2 := by simp [upd]
 have e4 : upd L 5 4 = L 4 := by simp [upd]
 have e7 : upd L 5 7 = L 7 := by simp [upd]
 have e9 : upd L 5 9 = L 9 := by simp [upd]
 refine ⟨h.below.trans (hb.mono (by omega)), by omega, vc h.q hd (Zp (.inr ⟨rfl, rfl⟩)), ?_, fun _ => ⟨A, c, rs, e20, hp.base hs⟩, ?_, ?_, ?_, ?_, ?_, ?_⟩
 ·rw [e2, e17]
  intro e
  obtain ⟨A5, c5, rs5, h1, h2⟩ := h.r5 e
  exact ⟨A5, c5, rs5, h1, h2.keep hb⟩
 ·rw [e2, e17]
  intro e _
  obtain ⟨A5, c5, rs5, h1, h2⟩ := h.r5 e
  exact ⟨A5, c5, rs5, A, c, rs, h1, e20, vg h2 (fun j _ hj => hb.block j hj) hp (fun _ _ _ => rfl) (Nat.le_refl _) hs (Nat.le_refl _)⟩
 ·rw [e1, e2]; exact h.o1
 ·rw [e4]; exact fun _ => hl1
 ·rw [e7, e2]; exact h.o3
 ·rw [e5]; exact fun _ => rfl
 obtain ⟨v3, v4, h1, h2, h3, h4, h5⟩ := h.box
 rw [e7, e9, e17]
 exact ⟨v3, v4, (hb.block _ (by omega)).trans h1, h2, h3, h4, (fun e => by rw [l9] at e; cases e)⟩
theorem WCp.store (h : WCp wr kd tt nn us vs x3 x4 L a w) {i o : Nat} {u v : Value} (ho : (i = 7 /\ o = 3 /\ L 2 = true /\ L 7 = false /\ a.tmps[17]? = some u) \/ (i = 9 /\ o = 4 /\ L 5 = true /\ L 9 = false /\ a.tmps[20]? = some u)) :
  WCp wr kd tt nn us vs x3 x4 (upd L i) (a.put none v) (w.setCell ⟨wr.heap.size, o, none⟩ u) := by
 have hs := h.size
 have hsz : (w.setCell ⟨wr.heap.size, o, none⟩ u).heap.size = w.heap.size := by simp [World.setCell]
 have hk : ∀ j, wr.heap.size + 1 <= j -> (w.setCell ⟨wr.heap.size, o, none⟩ u).heap[j]? = w.heap[j]? := fun j hj => Below.heap_setCell _ _ _ _ (by show j ≠ wr.heap.size; omega)
 have hi : i = 7 \/ i = 9 := by rcases ho with h1 | h1; exact .inl h1.1; exact .inr h1.1
 have e5 : upd L i 5 = L 5 := by rcases hi with rfl | rfl <;> simp [upd]
 have e1 : upd L i 1 = L 1 := by rcases hi with rfl | rfl <;> simp [upd]
 have e2 : upd L i 2 = L 2 := by rcases hi with rfl | rfl <;> simp [upd]
 have e4 : upd L i 4 = L 4 := by rcases hi with rfl | rfl <;> simp [upd]
 refine ⟨h.below.setCell (Nat.le_refl _) u, by omega, q_void h.q (cpq_no2 hi), ?_, ?_, ?_, ?_, ?_, ?_, ?_, ?_⟩
 ·rw [e2]
  intro e
  obtain ⟨A5, c5, rs5, h1, h2⟩ := h.r5 e
  exact ⟨A5, c5, rs5, h1, h2.at (fun j hj _ => hk j hj)⟩
 ·rw [e5]
  intro e
  obtain ⟨A5, c5, rs5, h1, h2⟩ := h.r6 e
  exact ⟨A5, c5, rs5, h1, h2.at (fun j hj _ => hk j hj)⟩
 ·rw [e2, e5]
  intro e f
  obtain ⟨A5, c5, rs5, A6, c6, rs6, h1, h2, h3⟩ := h.two e f
  exact ⟨A5, c5, rs5, A6, c6, rs6, h1, h2, h3.keep (fun j hj _ => hk j hj)⟩
 ·rw [e2, e1]; exact h.o1
 ·rw [e5, e4]; exact h.o2
 ·rw [e2]
  rcases ho with ⟨rfl, rfl, h1, -⟩ | ⟨rfl, rfl, h1, -⟩
  ·exact fun _ => h1
  simpa [upd] using h.o3
 ·rw [e5]
  rcases ho with ⟨rfl, rfl, h1, -⟩ | ⟨rfl, rfl, h1, -⟩
  ·simpa [upd] using h.o4
  exact fun _ => h1
 obtain ⟨v3, v4, h1, h2, h3, h4, h5⟩ := h.box
 rcases ho with ⟨rfl, rfl, g1, g2, g3⟩ | ⟨rfl, rfl, g1, g2, g3⟩
 ·exact ⟨u, v4, jN h1 u, (fun e => by simp [upd] at e), by simpa [upd] using h3, fun _ => g3, fun e => h5 (by simpa [upd] using e)⟩
 exact ⟨v3, u, xj h1 u, by simpa [upd] using h2, (fun e => by simp [upd] at e), fun e => h4 (by simpa [upd] using e), fun _ => g3⟩
end
theorem XX (m : Nat) (ih : ∀ m', m' < m -> CpC 90 m') : CpC 90 m := by
 intro xs A c w hs hm hx
 have IH := qb ih
 have HX := qb hx
 have HSZ := qb hs
 have HM := qb hm
 have hxl : xs.length <= 1048576 := by omega
 clear ih hx hs hm
 obtain ⟨i0, hi, hz0, hz1, hz2⟩ := info_parts Tryz.info_Part
 go_enter func90, ntmps90
 go_wp2_with (at_make; refine wpList_make_own _ rfl _ _ _ rfl w.heap.size _ i0 _ 5 underlying27 hi hz0 hz1 .i64 .i64 _ xs.length rfl rfl rfl ?b2 ?b3 (Nat.le_refl _) ?_; (rotate_left; rotate_left); intro w1 ho1 hg1; have HO1 := qb (XW ho1); have HB1 := qb (zo hg1 (Nat.le_refl _) (fun g hg => by cases hg)); clear ho1 hg1)
 case b2 => rw [hz2]; omega
 case b3 => unfold maxLen; omega
 go_loopw [3, 11] (fun o i wr => ∃ (j : Nat) (A2 : Option Addr) (c2 : Nat) (rs : List Raw), j <= xs.length /\ i = .int .i64 j /\ o = .slice A2 rs.length c2 /\ PLx wr w.heap.size A2 c2 rs (xs.take j) /\ Below w.heap.size w wr) (fun _ i _ => xs.length - (intOf i).toNat)
 case atStart => exact ⟨0, _, _, [], Nat.zero_le _, rfl, rfl, HO1.out, HB1.out⟩
 obtain ⟨j, A2, c2, rs, hj, rfl, rfl, hp, hb⟩ := hrel
 have HP := qb hp
 have HB := qb hb
 have hrl : rs.length <= 1048576 := by have := hp.len; simp at this; omega
 have hwz : w.heap.size <= wr.heap.size := hb.size
 clear hp hb
 by_cases hlt : j < xs.length
 case neg =>
  have HEE : Hid (xs.take j = xs) := by show _ = _; exact List.take_of_length_le (by omega)
  go_wp2
  refine bodyPost_ret (v := .slice A2 rs.length c2) (by simp [results, results90, go_sem, *]) rfl ⟨A2, c2, rs, rfl, ?_, HB.out⟩
  have h := HP.out
  rwa [HEE.out] at h
 obtain ⟨b1, o1, rfl, hb1, kd, tt, nn, us, vs, Ap, cp, Ao, co, hxj, k1, k2, k3, k4, c0, c1, c2, c3, c4⟩ := (HX.out.now HB.out).at2 hlt
 have hmem : Pt.mk kd tt nn us vs ∈ xs := by rw [<- hxj]; exact List.getElem_mem hlt
 have hsm := Pt.size_mem hmem
 have htk := ym xs j hlt
 rw [hxj] at htk
 have HTK := qb htk
 simp only [Pt.size] at hsm
 have hux : us.length + Pt.sizes us < m := by have := HSZ.out; omega
 have hvx : vs.length + Pt.sizes vs < m := by have := HSZ.out; omega
 have HBX := qb (heap_alloc_new wr (.cells (qD kd tt nn Ap us.length cp Ao vs.length co) 115))
 have hBA := (Below.refl wr.heap.size wr).alloc (Nat.le_refl _) (.cells (qD kd tt nn Ap us.length cp Ao vs.length co) 115)
 have HBA := qb hBA
 have hza1 : wr.heap.size + 1 <= (wr.alloc (.cells (qD kd tt nn Ap us.length cp Ao vs.length co) 115)).heap.size := by simp
 have hza2 : (wr.alloc (.cells (qD kd tt nn Ap us.length cp Ao vs.length co) 115)).heap.size <= wr.heap.size + 1 := by simp
 have hul : us.length <= 1048576 := by have := HM.out; omega
 have hvl : vs.length <= 1048576 := by have := HM.out; omega
 have HCU := qb (fun w3 (hb : Below wr.heap.size wr w3) => IH.out _ hux us Ap cp w3 (Nat.le_refl _) (by have := HM.out; omega) (k3.now hb))
 have HCV := qb (fun w3 (hb : Below wr.heap.size wr w3) => IH.out _ hvx vs Ao co w3 (Nat.le_refl _) (by have := HM.out; omega) (k4.now hb))
 clear hmem hxj hsm htk hux hvx k1 k2 k3 k4 hBA
 go_upto_region 5 with fail
 generalize wr.alloc (.cells (qD kd tt nn Ap us.length cp Ao vs.length co) 115) = wa at *
 obtain ⟨f0, f1, f2, f3, f4⟩ := xG HBX.out
 have HBd := qb HBA.out.drew
 have HXd := qb HBX.out
 clear c0 c1 c2 c3 c4 HBA HBX f0 f1 f2 f3 f4
 refine QD 10 (by rfl) (by kernel_rfl) (by kernel_rfl) (WCp wr kd tt nn us vs (.slice Ap us.length cp) (.slice Ao vs.length co)) ?hWV ?hstepV ?hfinV
 case hWV => exact ⟨HBd.out, hza1, fun p _ hl => (by cases hl), (fun e => by cases e), (fun e => by cases e), (fun e => by cases e), (fun e => by cases e), (fun e => by cases e), (fun e => by cases e), (fun e => by cases e), ⟨_, _, HXd.out, fun _ => rfl, fun _ => rfl, (fun e => by cases e), (fun e => by cases e)⟩⟩
 case hstepV =>
  refine qg (qg (qg (qg (qg (qg (qg (qg (qg (qg qG ?_) ?_) ?_) ?_) ?_) ?_) ?_) ?_) ?_) ?_
  ·skip
   intro o ho L a v hL hV hsz hb hd K Q hK
   obtain rfl := Option.some.inj ho
   have HZ := qb hsz
   clear hsz ho
   have e0 : a.tmps[5]?.getD undef = .pointer (some ⟨wr.heap.size, 0, none⟩) := by rw [hb 5 (by decide +kernel)]; simp
   go_simp
   refine hK _ _ (hV.quiet ?_ ?_)
   ·rw [HZ.out]; simp
   simp [cpq]
  ·skip
   intro o ho L a v hL hV hsz hb hd K Q hK
   obtain rfl := Option.some.inj ho
   have HZ := qb hsz
   clear hsz ho
   have e15 : a.tmps[15]?.getD undef = .pointer (some ⟨wr.heap.size, 3, none⟩) := jt (hV.q (0, 15, .pointer (some ⟨wr.heap.size, 3, none⟩)) (by simp [cpq]) (hd 0 (by kernel_rfl)))
   have l7 : L 7 = false := by
    cases e : L 7
    ·rfl
    rw [hV.o1 (hV.o3 e)] at hL; cases hL
   obtain ⟨v3, v4, hbx, hv3, -⟩ := hV.box
   obtain rfl := hv3 l7
   obtain ⟨f0, f1, f2, f3, f4⟩ := xG hbx
   go_simp
   refine hK _ _ (hV.quiet ?_ ?_)
   ·rw [HZ.out]; simp
   simp [cpq]
  ·skip
   intro o ho L a v hL hV hsz hb hd K Q hK
   obtain rfl := Option.some.inj ho
   have HZ := qb hsz
   clear hsz ho
   have e16 : a.tmps[16]?.getD undef = .slice Ap us.length cp := jt (hV.q (1, 16, .slice Ap us.length cp) (by simp [cpq]) (hd 1 (by kernel_rfl)))
   go_simp
   refine (HCU.out v hV.below).mono ?_
   rintro e v2 ⟨A5, c5, rs5, rfl, hp5, hb5⟩
   exact hK _ _ (hV.call5 hL (hd 1 (by kernel_rfl)) (by rw [HZ.out]; simp) hp5 hb5)
  ·skip
   intro o ho L a v hL hV hsz hb hd K Q hK
   obtain rfl := Option.some.inj ho
   have HZ := qb hsz
   clear hsz ho
   have e0 : a.tmps[5]?.getD undef = .pointer (some ⟨wr.heap.size, 0, none⟩) := by rw [hb 5 (by decide +kernel)]; simp
   go_simp
   refine hK _ _ (hV.quiet ?_ ?_)
   ·rw [HZ.out]; simp
   simp [cpq]
  ·skip
   intro o ho L a v hL hV hsz hb hd K Q hK
   obtain rfl := Option.some.inj ho
   have HZ := qb hsz
   clear hsz ho
   have e18 : a.tmps[18]?.getD undef = .pointer (some ⟨wr.heap.size, 4, none⟩) := jt (hV.q (3, 18, .pointer (some ⟨wr.heap.size, 4, none⟩)) (by simp [cpq]) (hd 3 (by kernel_rfl)))
   have l9 : L 9 = false := by
    cases e : L 9
    ·rfl
    rw [hV.o2 (hV.o4 e)] at hL; cases hL
   obtain ⟨v3, v4, hbx, -, hv4, -⟩ := hV.box
   obtain rfl := hv4 l9
   obtain ⟨f0, f1, f2, f3, f4⟩ := xG hbx
   go_simp
   refine hK _ _ (hV.quiet ?_ ?_)
   ·rw [HZ.out]; simp
   simp [cpq]
  ·skip
   intro o ho L a v hL hV hsz hb hd K Q hK
   obtain rfl := Option.some.inj ho
   have HZ := qb hsz
   clear hsz ho
   have e19 : a.tmps[19]?.getD undef = .slice Ao vs.length co := jt (hV.q (4, 19, .slice Ao vs.length co) (by simp [cpq]) (hd 4 (by kernel_rfl)))
   go_simp
   refine (HCV.out v hV.below).mono ?_
   rintro e v2 ⟨A6, c6, rs6, rfl, hp6, hb6⟩
   exact hK _ _ (hV.call6 hL (hd 4 (by kernel_rfl)) (by rw [HZ.out]; simp) hp6 hb6)
  ·skip
   intro o ho L a v hL hV hsz hb hd K Q hK
   obtain rfl := Option.some.inj ho
   have HZ := qb hsz
   clear hsz ho
   have e0 : a.tmps[5]?.getD undef = .pointer (some ⟨wr.heap.size, 0, none⟩) := by rw [hb 5 (by decide +kernel)]; simp
   go_simp
   refine hK _ _ (hV.quiet ?_ ?_)
   ·rw [HZ.out]; simp
   simp [cpq]
  ·skip
   intro o ho L a v hL hV hsz hb hd K Q hK
   obtain rfl := Option.some.inj ho
   have HZ := qb hsz
   clear hsz ho
   have e21 : a.tmps[21]?.getD undef = .pointer (some ⟨wr.heap.size, 3, none⟩) := jt (hV.q (6, 21, .pointer (some ⟨wr.heap.size, 3, none⟩)) (by simp [cpq]) (hd 6 (by kernel_rfl)))
   obtain ⟨A5, c5, rs5, h17, -⟩ := hV.r5 (hd 2 (by kernel_rfl))
   have e17 := jt h17
   obtain ⟨v3, v4, hbx, -⟩ := hV.box
   obtain ⟨⟨f0, f1, f2, f3, f4⟩, g0, g1, g2, g3, g4⟩ := qI hbx
   go_simp
   exact hK undef _ (hV.store (.inl ⟨rfl, rfl, hd 2 (by kernel_rfl), hL, h17⟩))
  ·skip
   intro o ho L a v hL hV hsz hb hd K Q hK
   obtain rfl := Option.some.inj ho
   have HZ := qb hsz
   clear hsz ho
   have e0 : a.tmps[5]?.getD undef = .pointer (some ⟨wr.heap.size, 0, none⟩) := by rw [hb 5 (by decide +kernel)]; simp
   go_simp
   refine hK _ _ (hV.quiet ?_ ?_)
   ·rw [HZ.out]; simp
   simp [cpq]
  skip
  intro o ho L a v hL hV hsz hb hd K Q hK
  obtain rfl := Option.some.inj ho
  have HZ := qb hsz
  clear hsz ho
  have e22 : a.tmps[22]?.getD undef = .pointer (some ⟨wr.heap.size, 4, none⟩) := jt (hV.q (8, 22, .pointer (some ⟨wr.heap.size, 4, none⟩)) (by simp [cpq]) (hd 8 (by kernel_rfl)))
  obtain ⟨A5, c5, rs5, h17, -⟩ := hV.r6 (hd 5 (by kernel_rfl))
  have e17 := jt h17
  obtain ⟨v3, v4, hbx, -⟩ := hV.box
  obtain ⟨⟨f0, f1, f2, f3, f4⟩, g0, g1, g2, g3, g4⟩ := qI hbx
  go_simp
  exact hK undef _ (hV.store (.inr ⟨rfl, rfl, hd 5 (by kernel_rfl), hL, h17⟩))
 intro vs9 wt L hL hV
 obtain ⟨A5, c5, rs5, A6, c6, rs6, h17, h20, hin⟩ := hV.two (hL 2 (by omega)) (hL 5 (by omega))
 obtain ⟨v3, v4, hbx, -, -, h7, h9⟩ := hV.box
 obtain rfl := Option.some.inj ((h7 (hL 7 (by omega))).symm.trans h17)
 obtain rfl := Option.some.inj ((h9 (hL 9 (by omega))).symm.trans h20)
 have HIN0 := qb hin
 have HXt := qb hbx
 have HBt := qb hV.below
 have hzt := hV.size
 clear hin hbx hV h7 h9 h17 h20 hL HBd HXd HCU HCV
 simp only [qF, hdst, List.getElem?_cons_succ, List.getElem?_cons_zero, Option.bind, List.drop_succ_cons, List.drop_zero, Act.put]
 go_simp
 have HKW : Hid (∀ j, j < wt.heap.size -> (wt.alloc (.cells #[.int .i64 kd, sv tt, sv nn, .slice A5 rs5.length c5, .slice A6 rs6.length c6] 115)).heap[j]? = wt.heap[j]?) := fun j hj => heap_alloc_old wt _ hj
 have hsw1 : wt.heap.size + 1 <= (wt.alloc (.cells #[.int .i64 kd, sv tt, sv nn, .slice A5 rs5.length c5, .slice A6 rs6.length c6] 115)).heap.size := by simp
 have HBW := qb (HBt.out.alloc HBt.out.size (.cells #[.int .i64 kd, sv tt, sv nn, .slice A5 rs5.length c5, .slice A6 rs6.length c6] 115))
 have HRW := qb (zH (us := [⟨kd, tt, nn, A5, rs5.length, c5, A6, rs6.length, c6⟩]) (heap_alloc_new wt (.cells #[.int .i64 kd, sv tt, sv nn, .slice A5 rs5.length c5, .slice A6 rs6.length c6] 115)) rfl)
 have HP9 := qb (HP.out.keep HBW.out)
 have HIN : Hid (InX (wt.alloc (.cells #[.int .i64 kd, sv tt, sv nn, .slice A5 rs5.length c5, .slice A6 rs6.length c6] 115)) wr.heap.size (.mk kd tt nn us vs) ⟨kd, tt, nn, A5, rs5.length, c5, A6, rs6.length, c6⟩) := (HIN0.out.keep (fun j _ hj => HKW.out j hj)).base (by omega)
 obtain ⟨⟨b0, b1, b2, b3, b4⟩, -⟩ := qI HXt.out
 have hwt : w.heap.size <= wt.heap.size := by omega
 go_wp2_with (at_builtin; refine zD rfl _ _ rfl w.heap.size A2 c2 rs [⟨kd, tt, nn, A5, rs5.length, c5, A6, rs6.length, c6⟩] (by rfl) HP9.out.own wt.heap.size 0 1 (by rfl) HRW.out (by simp) (by first | omega | (simp; done)) (by simp; omega) ?_; intro A3 c3 w3 ho3 hg3 hbk3; have HN3 := qb (ju HB.out HP.out HBW.out HIN.out ho3 hg3 hbk3); clear ho3 hg3 hbk3)
 go_roundw
 case rel => exact ⟨j + 1, A3, c3, rs ++ [⟨kd, tt, nn, A5, rs5.length, c5, A6, rs6.length, c6⟩], by omega, by go_num, (by simp), by rw [HTK.out]; exact HN3.out.1, HN3.out.2⟩
 case measure => simp [intOf]; omega
theorem XY (m : Nat) : CpC 90 m := by
 induction m using Nat.strongRecOn with
 | ind m ih => exact XX m ih
end Go.Proofs.YtmboieajfdkllaaGreat
