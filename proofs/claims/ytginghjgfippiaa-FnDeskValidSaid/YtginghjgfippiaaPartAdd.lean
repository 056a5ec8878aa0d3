/- Parts put behind parts, for the draws: walks. -/
import Derived.Test.YtginghjgfippiaaPartDrawP
import Derived.Test.YtginghjgfippiaaPartV
import Derived.Deep.CutBlock
namespace Go.Proofs.Ytginghjgfippiaa
open Go.RowKit

section
variable {w w' : World} {B c : Nat} {A : Option Addr} {rs : List Raw} {xs : List Pt}
theorem PLs.cellN (h : PLs w B A c rs xs) {i : Nat} (hi : i < rs.length) : ∃ g, A = some ⟨g, 0, none⟩ ∧ B ≤ g ∧ g < w.heap.size ∧ (∀ j, j < 5 → w.cell? ⟨g, i * 5 + j, none⟩ = (rs[i]).cs[j]?) ∧ ∀ o, w.frozen? ⟨g, o, none⟩ = false := by
  obtain ⟨g, rfl, h1, h2⟩ := own_some h.own (by omega)
  have hrd : Rd w w.heap.size (some ⟨g, 0, none⟩) (rcells rs) := Rd.of_own h.own
  obtain ⟨b, o, e, _, hc⟩ := hrd (by intro e; have := rcells_length rs; rw [e] at this; simp at this; omega)
  injection e with e
  injection e with e1 e2
  subst e1 e2
  have hr : rs[i]? = some rs[i] := List.getElem?_eq_getElem hi
  refine ⟨g, rfl, h1, h2, fun j hj => ?_, fun o => h.own.frozenAt o⟩
  have hg := rcells_get rs i _ j hr hj
  have hv : (rs[i]).cs[j]? = some ((rs[i]).cs[j]'(by simpa using hj)) := List.getElem?_eq_getElem _
  rw [hv, show i * 5 + j = 0 + (i * 5 + j) by omega]
  exact hc _ _ (hg.trans hv)
/-- one of the parts: its kind and its text -/
theorem PLs.one (h : PLs w B A c rs xs) {i : Nat} (hi : i < xs.length) : ∃ g r k t n us vs, A = some ⟨g, 0, none⟩ ∧ rs[i]? = some r ∧ xs[i]? = some (.mk k t n us vs) ∧ B ≤ g ∧ g < w.heap.size ∧ w.cell? ⟨g, i * 5, none⟩ = some (.int .i64 k) ∧ w.cell? ⟨g, i * 5 + 1, none⟩ = some (sv t) ∧ w.frozen? ⟨g, i * 5 + 1, none⟩ = false := by
  have hir : i < rs.length := by rw [h.len]; exact hi
  obtain ⟨g, rfl, h1, h2, hc, hf⟩ := h.cellN hir
  have hp := h.els.2 i _ _ (List.getElem?_eq_getElem hir) (List.getElem?_eq_getElem hi)
  have c0 := hc 0 (by omega)
  have c1 := hc 1 (by omega)
  generalize hxx : xs[i] = x at hp
  cases x with
  | mk k t n us vs =>
    obtain ⟨Ap, cp, Ao, co, e, _⟩ := hp.parts
    injection e with e
    simp only [Array.mk.injEq, List.cons.injEq, and_true] at e
    refine ⟨g, rs[i], k, t, n, us, vs, rfl, List.getElem?_eq_getElem hir, by rw [List.getElem?_eq_getElem hi, hxx], h1, h2, ?_, ?_, hf _⟩
    · rw [← e.1]; simpa using c0
    · rw [← e.2.1]; simpa using c1
end
theorem text_wt {xs : List Pt} {i : Nat} {k : Int} {t n : Tx} {us vs : List Pt} (h : xs[i]? = some (.mk k t n us vs)) : t.length ≤ wt xs := by
  have hm : Pt.mk k t n us vs ∈ xs := List.mem_of_getElem? h
  have := Pt.size_mem hm
  simp only [Pt.size] at this
  unfold wt
  omega
theorem own_empty (w : World) : OwnN (w.alloc (.cells #[] 66)) w.heap.size (some ⟨w.heap.size, 0, none⟩) 0 [] :=
  ⟨rfl, .inr ⟨w.heap.size, 0, #[], rfl, Nat.le_refl _, heap_alloc_new w _, Nat.le_refl _, Nat.zero_le _, rfl, rfl⟩⟩
/-- what is left of a list of parts behind which others were put -/
def AddP (w : World) (B : Nat) (A : Option Addr) (c l n : Nat) (e : Ending) (w' : World) : Prop :=
  ∃ A' c' rs' xs', e = .returned (.slice A' (List.length rs') c') ∧ PLs w' B A' c' rs' xs' ∧ wt xs' ≤ n ∧ w.grownBy w' (Value.ownBlock (.slice A l c)) ∧ (Value.ownBlock (.slice A' rs'.length c') = Value.ownBlock (.slice A l c) ∨ ∀ j, Value.ownBlock (.slice A' rs'.length c') = some j → w.heap.size ≤ j)
abbrev txtRaw (t : Tx) : Raw := ⟨1, t, [], none, 0, 0, none, 0, 0⟩
theorem raw_in {w : World} {S : Nat → Prop} (k : Int) (t n : Tx) : InP w S (.mk k t n [] []) (Raw.v ⟨k, t, n, none, 0, 0, none, 0, 0⟩) := InP.mk (xs := []) (ys := []) (cp := 0) (co := 0) (Nat.le_refl _) (Nat.le_refl _) RdP.nil_ RdP.nil_
theorem raw_row {w : World} {b : Nat} {us : List Raw} {cs : Array Value} {t : TypeId} {fr : Nat × Nat} (h : w.heap[b]? = some (.cells cs t fr)) (hc : cs.toList = rcells us) : ∀ j u, (rcells us)[j]? = some u → w.cell? ⟨b, 0 + j, none⟩ = some u := fun j u hu => by
  rw [Nat.zero_add, cell_of_row w b j cs t fr h, ← Array.getElem?_toList, hc]; exact hu
set_option maxRecDepth 20000 in
set_option maxHeartbeats 4000000 in
theorem spec_l20Add (t : Tx) (B : Nat) (A : Option Addr) (c : Nat) (rs : List Raw) (xs : List Pt) (w : World) (h : PLs w B A c rs xs) (hB : B ≤ w.heap.size) (hw : wt xs ≤ 1000000) (ht : t.length ≤ 1000000) :
    Calls Try.prog 43 #[.slice A rs.length c, sv t] w (AddP w B A c rs.length (wt xs + 1 + t.length)) := by
  have H := Lib.hid h
  have hrl : rs.length ≤ 1000000 := by rw [h.len]; unfold wt at hw; omega
  by_cases hl : ∃ k t0 n us vs, xs[xs.length - 1]? = some (.mk k t0 n us vs) ∧ k = 1
  · obtain ⟨k, t0, n, us, vs, hx, rfl⟩ := hl
    have hne : 0 < xs.length := by
      rcases Nat.eq_zero_or_pos xs.length with h0 | h0
      · rw [List.eq_nil_of_length_eq_zero h0] at hx; simp at hx
      · exact h0
    have hi : rs.length - 1 < xs.length := by rw [h.len]; omega
    obtain ⟨g, r, k', t', n', us', vs', rfl, hr, hx', hg1, hg2, c0, c1, c2⟩ := h.one hi
    rw [← h.len, hx'] at hx
    injection hx with hx
    injection hx with e1 e2 e3 e4 e5
    subst e1 e2 e3 e4 e5
    have hXX := Lib.hid hx'
    have hRR := Lib.hid hr
    have htw := text_wt hx'
    have hWS := Lib.hid (wt_set (t := t' ++ t) hx')
    have hrp : 0 < rs.length := by rw [h.len]; exact hne
    have hi0 : (0 : Int) ≤ (rs.length : Int) - 1 := by omega
    have hi1 : ((rs.length : Int) - 1).toNat = rs.length - 1 := by omega
    have hi2 : (rs.length : Int) - 1 < (rs.length : Int) := by omega
    have hsum : (9223372036854775807 < t'.length + t.length) = False := by rw [eq_iff_iff, iff_false]; omega
    have HA := Lib.hid ((Below.refl w.heap.size w).alloc (Nat.le_refl _) (.cells #[] 66))
    have HRD : Hid (∀ j u, (rcells rs)[j]? = some u → (w.alloc (.cells #[] 66)).cell? ⟨g, 0 + j, none⟩ = some u) := by
      intro j u hu
      have hrd : Rd w w.heap.size (some ⟨g, 0, none⟩) (rcells rs) := Rd.of_own h.own
      obtain ⟨b, o, e, hb, hc⟩ := hrd (by intro e; have := rcells_length rs; rw [e] at this; simp at this; omega)
      injection e with e
      injection e with e1 e2
      subst e1 e2
      exact (HA.out.cell (p := ⟨g, 0 + j, none⟩) hb).trans (hc j u hu)
    clear h hx' hr
    go_enter Try.func43, Try.ntmps43
    go_wp2_with (at_builtin; refine app_parts_at rfl _ _ rfl w.heap.size (some ⟨w.heap.size, 0, none⟩) 0 [] rs (by rfl) (own_empty w) g 0 c (by rfl) HRD.out (by omega) (by simp) (by simp) ?_; intro A3 c3 w3 ho3 hg3 hbk3; have hP3 := PLs.copied H.out (own_base ho3 hB) (fun j hj => (ho3.lt j hj).1) (fun j hj => (hg3.block j (by simp; omega) (by simp [Value.ownBlock]; omega)).trans (heap_alloc_old w _ hj)) (by have := hg3.size; simp at this; omega); obtain ⟨g3, r3, k3, t3, n3, us3, vs3, rfl, hr3, hx3, hb3, hl3, d0, d1, d2⟩ := hP3.one (by rw [← H.out.len]; omega : rs.length - 1 < xs.length); obtain ⟨rfl, rfl, rfl, rfl, rfl⟩ : 1 = k3 ∧ t' = t3 ∧ n' = n3 ∧ us' = us3 ∧ vs' = vs3 := (by have e := hXX.out.symm.trans hx3; injection e with e; injection e with e1 e2 e3 e4 e5; exact ⟨e1, e2, e3, e4, e5⟩); have HP3 := Lib.hid (hP3.text hr3 hx3 (t' ++ t)); have HG3 := Lib.hid hg3; have HO3 := Lib.hid (ho3.lt g3 rfl); clear hP3 ho3 hg3 hbk3 hr3 hx3)
    go_ret
    have hbw : Below w.heap.size w (w3.setCell ⟨g3, (rs.length - 1) * 5 + 1, none⟩ (sv (t' ++ t))) := Below.setCell (HA.out.trans (grown_to_below HG3.out (by simp) (fun j hj => by injection hj with hj; simp at hj; omega))) (p := ⟨g3, (rs.length - 1) * 5 + 1, none⟩) HO3.out.1 _
    exact ⟨some ⟨g3, 0, none⟩, c3, _, _, by simp, HP3.out, by have := hWS.out; simp at this; omega, below_grownBy hbw _, .inr (fun j hj => by injection hj with hj; rw [← hj]; exact HO3.out.1)⟩
  · have hnk : ∀ k t0 n us vs, xs[xs.length - 1]? = some (.mk k t0 n us vs) → ¬ k = 1 := fun k t0 n us vs e1 e2 => hl ⟨k, t0, n, us, vs, e1, e2⟩
    clear hl
    have HA := Lib.hid ((Below.refl w.heap.size w).alloc (Nat.le_refl _) (.cells #[.int .i64 1, sv t, sv [], .slice none 0 0, .slice none 0 0] 66))
    have HRW := Lib.hid (raw_row (us := [txtRaw t]) (heap_alloc_new w (.cells #[.int .i64 1, sv t, sv [], .slice none 0 0, .slice none 0 0] 66)) rfl)
    have HP := Lib.hid (h.keep HA.out)
    have HNO := Lib.hid h.own.lt
    by_cases h0 : xs = []
    · have hr0 : rs = [] := List.eq_nil_of_length_eq_zero (by rw [h.len, h0]; rfl)
      have hl0 : rs.length = 0 := by rw [hr0]; rfl
      have hneg : decide ((0 : Int) ≤ (rs.length : Int) - 1) = false := by rw [hl0]; rfl
      subst hr0
      subst h0
      clear h hnk hneg hl0
      go_enter Try.func43, Try.ntmps43
      go_wp2_with (at_builtin; refine app_parts_at rfl _ _ rfl B _ c _ [txtRaw t] (by rfl) HP.out.own w.heap.size 0 1 (by rfl) HRW.out (by simp) (by first | omega | (simp; done)) (by first | (simp; done) | (simp; omega)) ?_; intro A3 c3 w3 ho3 hg3 hbk3)
      go_ret
      have hP3 := HP.out.app (ys := [.mk 1 t [] [] []]) ho3 hg3 hbk3 (Els.cons (raw_in 1 t []) Els.nil)
      refine ⟨A3, c3, _, _, by simp, hP3, by rw [wt_append, wt_one, wt_nil]; first | (simp; done) | (simp; omega), grown_trans (World.grownBy_alloc w _ _) hg3, ?_⟩
      rw [List.length_append]
      rcases hbk3 with e | e
      · exact .inl e
      · exact .inr (fun j hj => by rw [show ([txtRaw t] : List Raw).length = 1 from rfl] at hj; rw [show ([txtRaw t] : List Raw).length = 1 from rfl] at e; rw [e] at hj; injection hj with hj; simp at hj; omega)
    · have hne : 0 < xs.length := List.length_pos_iff.2 h0
      have hi : rs.length - 1 < xs.length := by rw [h.len]; omega
      obtain ⟨g, r, k, t0, n, us, vs, rfl, hr, hx, hg1, hg2, c0, c1, c2⟩ := h.one hi
      have hk := hnk k t0 n us vs (by rw [← h.len]; exact hx)
      have hk' : (k == 1) = false := by simpa using hk
      have hrp : 0 < rs.length := by rw [h.len]; exact hne
      have hi0 : (0 : Int) ≤ (rs.length : Int) - 1 := by omega
      have hi1 : ((rs.length : Int) - 1).toNat = rs.length - 1 := by omega
      have hi2 : (rs.length : Int) - 1 < (rs.length : Int) := by omega
      clear h hnk hr hx hk c1 c2 h0
      go_enter Try.func43, Try.ntmps43
      go_wp2_with (at_builtin; refine app_parts_at rfl _ _ rfl B _ c _ [txtRaw t] (by rfl) HP.out.own w.heap.size 0 1 (by rfl) HRW.out (by simp) (by first | omega | (simp; done)) (by first | (simp; done) | (simp; omega)) ?_; intro A3 c3 w3 ho3 hg3 hbk3)
      go_ret
      have hP3 := HP.out.app (ys := [.mk 1 t [] [] []]) ho3 hg3 hbk3 (Els.cons (raw_in 1 t []) Els.nil)
      refine ⟨A3, c3, _, _, by simp, hP3, by rw [wt_append, wt_one, wt_nil]; first | (simp; done) | (simp; omega), grown_trans (World.grownBy_alloc w _ _) hg3, ?_⟩
      rw [List.length_append]
      rcases hbk3 with e | e
      · exact .inl e
      · exact .inr (fun j hj => by rw [show ([txtRaw t] : List Raw).length = 1 from rfl] at hj; rw [show ([txtRaw t] : List Raw).length = 1 from rfl] at e; rw [e] at hj; injection hj with hj; simp at hj; omega)
set_option maxRecDepth 20000 in
set_option maxHeartbeats 4000000 in
theorem spec_l20Put (B M : Nat) (A : Option Addr) (c : Nat) (rs : List Raw) (xs : List Pt) (Am : Option Addr) (cm : Nat) (more : List Pt) (w : World) (h : PLs w B A c rs xs) (hBM : B ≤ M) (hM : M ≤ w.heap.size) (hA : ∀ j, Value.ownBlock (.slice A rs.length c) = some j → j < M)
    (hm : RdP w (fun j => M ≤ j ∧ j < w.heap.size) Am more) (hw : wt xs + wt more ≤ 1000000) :
    Calls Try.prog 61 #[.slice A rs.length c, .slice Am more.length cm] w (AddP w B A c rs.length (wt xs + wt more)) := by
  have HMO := Lib.hid hm
  have HAM := Lib.hid hA
  have H := Lib.hid h
  have hml : more.length ≤ 1000000 := by unfold wt at hw; omega
  clear hm hA h
  go_enter Try.func61, Try.ntmps61
  go_wp2
  go_loopw [0, 5] (fun l i wr => ∃ (k : Nat) (A1 : Option Addr) (c1 : Nat) (rs1 : List Raw) (xs1 : List Pt), k ≤ more.length ∧ i = .int .i64 (k : Int) ∧ l = .slice A1 rs1.length c1 ∧ PLs wr B A1 c1 rs1 xs1 ∧ wt xs1 + wt (more.drop k) ≤ wt xs + wt more ∧ w.grownBy wr (Value.ownBlock (.slice A rs.length c)) ∧ (Value.ownBlock (.slice A1 rs1.length c1) = Value.ownBlock (.slice A rs.length c) ∨ ∀ j, Value.ownBlock (.slice A1 rs1.length c1) = some j → w.heap.size ≤ j)) (fun _ i _ => more.length - (intOf i).toNat)
  case atStart => exact ⟨0, A, c, rs, xs, Nat.zero_le _, rfl, rfl, H.out, by simp, grown_refl _ _, .inl rfl⟩
  case round =>
    obtain ⟨k, A1, c1, rs1, xs1, hk, rfl, rfl, hp, hwt, hg, hor⟩ := hrel
    have HP := Lib.hid hp
    have HG := Lib.hid hg
    have HOR := Lib.hid hor
    have hbz := hg.size
    by_cases hlt : k < more.length
    · have hmr : RdP wr (fun j => M ≤ j ∧ j < w.heap.size) Am more := HMO.out.keep (fun p hp => World.cell?_of_block (hg.block _ hp.2 (fun e => by have := HAM.out _ e.symm; have := hp.1; omega))) (fun _ h => h)
      obtain ⟨b, o, rfl, hb1, kd, tt, nn, us, vs, Ap, cp, Ao, co, hmk, g1, g2, g3, g4, m0, m1, m2, m3, m4⟩ := hmr.at2 hlt
      have hbl : b < wr.heap.size := by have := hb1.2; omega
      have hwd : wt (more.drop k) = 1 + (tt.length + nn.length + wt us + wt vs) + wt (more.drop (k + 1)) := by
        rw [drop_cons more k hlt, hmk]
        unfold wt
        simp only [List.length_cons, Pt.sizes, Pt.size]
        omega
      have HWD := Lib.hid hwd
      have HWT := Lib.hid hwt
      have hEx : InP wr (fun j => B ≤ j ∧ j < wr.heap.size ∧ Value.ownBlock (.slice A1 rs1.length c1) ≠ some j) (.mk kd tt nn us vs) (Raw.v ⟨kd, tt, nn, Ap, us.length, cp, Ao, vs.length, co⟩) :=
        InP.keep (fun _ _ => rfl) (fun j hj => ⟨Nat.le_trans hBM hj.1, by have := hj.2; omega, fun e => by
          rcases HOR.out with e2 | e2
          · rw [e2] at e; have := HAM.out _ e; have := hj.1; omega
          · have := e2 _ e; have := hj.2; omega⟩) _ _ (InP.mk (k := kd) (t := tt) (n := nn) g1 g2 g3 g4)
      have HEX := Lib.hid hEx
      have htl : tt.length ≤ 1000000 := by omega
      clear hp hg hor hmr hmk g1 g2 g3 g4 hEx hwd hwt
      by_cases hk1 : kd = 1
      · subst hk1
        have HADD := Lib.hid (spec_l20Add tt B A1 c1 rs1 xs1 wr HP.out (by omega) (by have := HWT.out; have := HWD.out; omega) htl)
        go_wp2_with fail
        refine HADD.out.mono ?_
        rintro e w2 ⟨A2, c2, rs2, xs2, rfl, hp2, hw2, hg2, hor2⟩
        have HG2 : Hid (w.grownBy w2 (Value.ownBlock (.slice A rs.length c))) := by
          rcases HOR.out with e | e
          · exact grown_trans HG.out (by rw [← e]; exact hg2)
          · exact ⟨hg2.os.trans HG.out.os, hg2.tape.trans HG.out.tape, hg2.output.trans HG.out.output, Nat.le_trans HG.out.size hg2.size, fun j hj hn => (hg2.block j (by omega) (fun e2 => by have := e _ e2.symm; omega)).trans (HG.out.block j hj hn)⟩
        have HOR2 : Hid (Value.ownBlock (.slice A2 rs2.length c2) = Value.ownBlock (.slice A rs.length c) ∨ ∀ j, Value.ownBlock (.slice A2 rs2.length c2) = some j → w.heap.size ≤ j) := by
          rcases hor2 with e | e
          · rcases HOR.out with e2 | e2
            · exact .inl (e.trans e2)
            · exact .inr (fun j hj => e2 j (by rw [← e]; exact hj))
          · exact .inr (fun j hj => by have := e j hj; omega)
        clear hg2 hor2
        go_wp2
        go_roundw
        case rel => exact ⟨k + 1, A2, c2, rs2, xs2, by omega, by go_num, rfl, hp2, by have := HWT.out; have := HWD.out; omega, HG2.out, HOR2.out⟩
        case measure => simp [intOf]; omega
      · have hk1' : (kd == 1) = false := by simpa using hk1
        have hrl : rs1.length ≤ 1000000 := by rw [HP.out.len]; have := HWT.out; unfold wt at *; omega
        have HA := Lib.hid ((Below.refl wr.heap.size wr).alloc (Nat.le_refl _) (.cells (ptCells kd tt nn Ap us.length cp Ao vs.length co) 66))
        have HPA := Lib.hid (HP.out.keep HA.out)
        have HRW := Lib.hid (raw_row (us := [⟨kd, tt, nn, Ap, us.length, cp, Ao, vs.length, co⟩]) (heap_alloc_new wr (.cells (ptCells kd tt nn Ap us.length cp Ao vs.length co) 66)) rfl)
        have HEA : Hid (InP (wr.alloc (.cells (ptCells kd tt nn Ap us.length cp Ao vs.length co) 66)) (fun j => B ≤ j ∧ j < (wr.alloc (.cells (ptCells kd tt nn Ap us.length cp Ao vs.length co) 66)).heap.size ∧ Value.ownBlock (.slice A1 rs1.length c1) ≠ some j) (.mk kd tt nn us vs) (Raw.v ⟨kd, tt, nn, Ap, us.length, cp, Ao, vs.length, co⟩)) :=
          InP.keep (fun p hp => HA.out.cell hp.2.1) (fun j hj => ⟨hj.1, by simp; have := hj.2.1; omega, hj.2.2⟩) _ _ HEX.out
        clear hk1
        go_wp2_with (at_builtin; refine app_parts_at rfl _ _ rfl B A1 c1 rs1 [⟨kd, tt, nn, Ap, us.length, cp, Ao, vs.length, co⟩] (by rfl) HPA.out.own wr.heap.size 0 1 (by rfl) HRW.out (by simp) (by omega) (by simp; omega) ?_; intro A3 c3 w3 ho3 hg3 hbk3)
        have HP3 := Lib.hid (HPA.out.app (ys := [.mk kd tt nn us vs]) ho3 hg3 hbk3 (Els.cons HEA.out Els.nil))
        have hz3 := hg3.size
        have HG3 : Hid (w.grownBy w3 (Value.ownBlock (.slice A rs.length c))) := by
          rcases HOR.out with e | e
          · exact grown_trans (grown_trans HG.out (World.grownBy_alloc wr _ _)) (by rw [← e]; exact hg3)
          · exact ⟨hg3.os.trans HG.out.os, hg3.tape.trans HG.out.tape, hg3.output.trans HG.out.output, by simp at hz3; omega, fun j hj hn => (hg3.block j (by simp; omega) (fun e2 => by have := e _ e2.symm; omega)).trans ((heap_alloc_old wr _ (by omega)).trans (HG.out.block j hj hn))⟩
        have HOR3 : Hid (Value.ownBlock (.slice A3 (rs1 ++ [(⟨kd, tt, nn, Ap, us.length, cp, Ao, vs.length, co⟩ : Raw)]).length c3) = Value.ownBlock (.slice A rs.length c) ∨ ∀ j, Value.ownBlock (.slice A3 (rs1 ++ [(⟨kd, tt, nn, Ap, us.length, cp, Ao, vs.length, co⟩ : Raw)]).length c3) = some j → w.heap.size ≤ j) := by
          show _ ∨ _
          rw [List.length_append]
          rcases hbk3 with e | e
          · rcases HOR.out with e2 | e2
            · exact .inl (e.trans e2)
            · exact .inr (fun j hj => e2 j (by rw [← e]; exact hj))
          · exact .inr (fun j hj => by rw [e] at hj; injection hj with hj; simp at hj; omega)
        clear ho3 hg3 hbk3
        go_roundw
        case rel => exact ⟨k + 1, A3, c3, _, _, by omega, by go_num, by simp, HP3.out, by rw [wt_append, wt_one]; have := HWT.out; have := HWD.out; omega, HG3.out, HOR3.out⟩
        case measure => simp [intOf]; omega
    · have hwe : wt (more.drop k) = 0 := by rw [drop_nil more k (by omega)]; exact wt_nil
      go_wp2
      go_ret
      exact ⟨A1, c1, rs1, xs1, rfl, HP.out, by omega, HG.out, HOR.out⟩
end Go.Proofs.Ytginghjgfippiaa
