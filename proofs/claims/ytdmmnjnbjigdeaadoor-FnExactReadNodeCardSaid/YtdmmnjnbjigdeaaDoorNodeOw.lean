/- Nodes in rows of their own, each row in a block that no other has. No function of the program is walked here. -/
import Derived.Test.YtdmmnjnbjigdeaaDoorNodeApp
import Derived.Test.YtdmmnjnbjigdeaaDoorChg
namespace Go.Proofs.YtdmmnjnbjigdeaaDoor
open Go.RowKit

theorem own_at {w w' : World} {base size n : Nat} {e : TypeId} {v : Value} {xs : List Value} (h : w.ownsRow base e size v n xs) (hk : ∀ g, v.ownBlock = some g → w'.heap[g]? = w.heap[g]?) : w'.ownsRow base e size v n xs := by
  refine ⟨h.1, ?_⟩
  rcases h.2 with hn | ⟨g, cap, cur, rfl, hb, hgg, rest⟩
  · exact .inl hn
  · refine .inr ⟨g, cap, cur, rfl, hb, ?_, rest⟩
    rw [hk g rfl]
    exact hgg
/-- the block of a slice -/
abbrev bk (A : Option Addr) (n c : Nat) : List Nat := (Value.ownBlock (.slice A n c)).toList
theorem bk_mem {A : Option Addr} {n c g : Nat} : g ∈ bk A n c ↔ Value.ownBlock (.slice A n c) = some g := by
  unfold bk
  cases Value.ownBlock (.slice A n c) <;> simp [eq_comm]
theorem bk_len (A : Option Addr) (n m c : Nat) : bk A n c = bk A m c := by cases A <;> rfl
mutual
/-- the raw cells hold the node, in rows of its own: these lie in the blocks L -/
def OwT (w : World) : Nd → Raw → List Nat → Prop
  | .mk k n t ns xs, r, L => r.k = k ∧ r.n = n ∧ r.t = t ∧ r.ln = ns.length ∧ r.li = xs.length ∧ OwnS w 0 r.An r.cn ns ∧ ∃ rs L2, OwnN w 0 r.Ai r.ci rs ∧ OwTs w xs rs L2 ∧ L = bk r.An r.ln r.cn ++ (bk r.Ai r.li r.ci ++ L2)
def OwTs (w : World) : List Nd → List Raw → List Nat → Prop
  | [], rs, L => rs = [] ∧ L = []
  | x :: s, rs, L => ∃ r rs' L1 L2, rs = r :: rs' ∧ L = L1 ++ L2 ∧ OwT w x r L1 ∧ OwTs w s rs' L2
end
section
variable {w w' : World}
theorem OwTs.len : ∀ {xs : List Nd} {rs : List Raw} {L : List Nat}, OwTs w xs rs L → rs.length = xs.length
  | [], rs, L, h => by simp only [OwTs] at h; rw [h.1]; rfl
  | x :: s, rs, L, h => by
    simp only [OwTs] at h
    obtain ⟨r, rs', L1, L2, rfl, rfl, _, h2⟩ := h
    simp [h2.len]
theorem OwTs.keep_of {xs : List Nd} (hx : ∀ x ∈ xs, ∀ (r : Raw) (L : List Nat), OwT w x r L → (∀ b ∈ L, w'.heap[b]? = w.heap[b]?) → OwT w' x r L) : ∀ {rs : List Raw} {L : List Nat}, OwTs w xs rs L → (∀ b ∈ L, w'.heap[b]? = w.heap[b]?) → OwTs w' xs rs L := by
  induction xs with
  | nil => intro rs L h _; simp only [OwTs] at h ⊢; exact h
  | cons x s ih =>
    intro rs L h hk
    simp only [OwTs] at h ⊢
    obtain ⟨r, rs', L1, L2, rfl, rfl, h1, h2⟩ := h
    exact ⟨r, rs', L1, L2, rfl, rfl, hx x (by simp) r L1 h1 (fun b hb => hk b (by simp [hb])), ih (fun y hy => hx y (List.mem_cons_of_mem _ hy)) h2 (fun b hb => hk b (by simp [hb]))⟩
theorem OwT.keep (x : Nd) : ∀ (r : Raw) (L : List Nat), OwT w x r L → (∀ b ∈ L, w'.heap[b]? = w.heap[b]?) → OwT w' x r L := by
  induction x using Nd.ind with
  | h k n t ns xs ih =>
    intro r L h hk
    simp only [OwT] at h ⊢
    obtain ⟨h1, h2, h3, h4, h5, h6, rs, L2, h7, h8, rfl⟩ := h
    refine ⟨h1, h2, h3, h4, h5, own_at h6 (fun g hg => hk g ?_), rs, L2, own_at h7 (fun g hg => hk g ?_), OwTs.keep_of ih h8 (fun b hb => hk b (by simp [hb])), rfl⟩
    · rw [List.mem_append]; exact .inl (bk_mem.2 (by rw [h4]; exact hg))
    · rw [List.mem_append, List.mem_append]; exact .inr (.inl (bk_mem.2 (by rw [h5, ← h8.len]; exact hg)))
theorem OwTs.keep {xs : List Nd} {rs : List Raw} {L : List Nat} (h : OwTs w xs rs L) (hk : ∀ b ∈ L, w'.heap[b]? = w.heap[b]?) : OwTs w' xs rs L := OwTs.keep_of (fun x _ => OwT.keep x) h hk
theorem OwTs.snoc : ∀ {xs : List Nd} {rs : List Raw} {L L1 : List Nat} {x : Nd} {r : Raw}, OwTs w xs rs L → OwT w x r L1 → OwTs w (xs ++ [x]) (rs ++ [r]) (L ++ L1)
  | [], rs, L, L1, x, r, h, hx => by
    simp only [OwTs] at h
    obtain ⟨rfl, rfl⟩ := h
    simp only [List.nil_append, OwTs]
    exact ⟨r, [], L1, [], rfl, by simp, hx, rfl, rfl⟩
  | y :: s, rs, L, L1, x, r, h, hx => by
    simp only [OwTs] at h
    obtain ⟨r1, rs', La, Lb, rfl, rfl, h1, h2⟩ := h
    simp only [List.cons_append, OwTs]
    exact ⟨r1, rs' ++ [r], La, Lb ++ L1, rfl, by simp, h1, h2.snoc hx⟩
theorem OwTs.els_of {S : Nat → Prop} : ∀ {xs : List Nd} {rs : List Raw} {L : List Nat}, (∀ x ∈ xs, ∀ (r : Raw) (L1 : List Nat), OwT w x r L1 → (∀ b ∈ L1, S b) → InN w S x r.v) → OwTs w xs rs L → (∀ b ∈ L, S b) → Els w S rs xs
  | [], rs, L, _, h, _ => by simp only [OwTs] at h; rw [h.1]; exact ⟨rfl, fun i r x h => by simp at h⟩
  | x :: s, rs, L, hx, h, hS => by
    simp only [OwTs] at h
    obtain ⟨r, rs', L1, L2, rfl, rfl, h1, h2⟩ := h
    have e1 := hx x (by simp) r L1 h1 (fun b hb => hS b (by simp [hb]))
    have e2 := h2.els_of (fun y hy => hx y (List.mem_cons_of_mem _ hy)) (fun b hb => hS b (by simp [hb]))
    refine ⟨by simp [e2.1], fun i r2 x2 g1 g2 => ?_⟩
    cases i with
    | zero => simp at g1 g2; subst g1; subst g2; exact e1
    | succ i => exact e2.2 i r2 x2 (by simpa using g1) (by simpa using g2)
theorem OwT.inN {S : Nat → Prop} (x : Nd) : ∀ (r : Raw) (L : List Nat), OwT w x r L → (∀ b ∈ L, S b) → InN w S x r.v := by
  induction x using Nd.ind with
  | h k n t ns xs ih =>
    intro r L h hS
    simp only [OwT] at h
    obtain ⟨rfl, rfl, rfl, h4, h5, h6, rs, L2, h7, h8, rfl⟩ := h
    have hl := h8.len
    have hels := h8.els_of ih (fun b hb => hS b (by simp [hb]))
    have hb1 : ∀ g, Value.ownBlock (.slice r.An ns.length r.cn) = some g → S g := fun g hg => hS g (by rw [List.mem_append]; exact .inl (bk_mem.2 (by rw [h4]; exact hg)))
    have hb2 : ∀ g, Value.ownBlock (.slice r.Ai rs.length r.ci) = some g → S g := fun g hg => hS g (by rw [List.mem_append, List.mem_append]; exact .inr (.inl (bk_mem.2 (by rw [h5, ← hl]; exact hg))))
    have hv : r.v = ndV r.k r.n r.t r.An ns.length r.cn r.Ai xs.length r.ci := by unfold Raw.v; rw [h4, h5]
    rw [hv]
    refine InN.mk (fun hne => ?_) (ownS_cap h6) ?_ (hels.rdN h7 hb2)
    · have hln : 0 < ns.length := by
        rcases Nat.eq_zero_or_pos ns.length with h0 | h0
        · exact absurd (by rw [List.eq_nil_of_length_eq_zero h0]; rfl) hne
        · exact h0
      obtain ⟨g, hA, _, _⟩ := own_some h6 hln
      obtain ⟨b, o, e, hb, hc⟩ := ownS_rd h6 hne
      refine ⟨b, o, e, hb1 b ?_, hc⟩
      rw [e]; rfl
    · obtain ⟨A, c, e, hc, _⟩ := own_shape h7
      injection e with _ _ e3
      rw [← hl, e3]; exact hc
theorem OwTs.els {S : Nat → Prop} {xs : List Nd} {rs : List Raw} {L : List Nat} (h : OwTs w xs rs L) (hS : ∀ b ∈ L, S b) : Els w S rs xs := h.els_of (fun x _ => OwT.inN x) hS
theorem OwTs.split : ∀ {xs : List Nd} {rs : List Raw} {L : List Nat} {j : Nat}, OwTs w xs rs L → (hj : j < xs.length) → ∃ rs1 r rs2 L1 La L2, rs = rs1 ++ r :: rs2 ∧ L = L1 ++ (La ++ L2) ∧ rs1.length = j ∧ OwTs w (xs.take j) rs1 L1 ∧ OwT w xs[j] r La ∧ OwTs w (xs.drop (j + 1)) rs2 L2
  | x :: s, rs, L, 0, h, _ => by
    simp only [OwTs] at h
    obtain ⟨r, rs', L1, L2, rfl, rfl, h1, h2⟩ := h
    exact ⟨[], r, rs', [], L1, L2, rfl, by simp, rfl, by simp [OwTs], h1, by simpa using h2⟩
  | x :: s, rs, L, j + 1, h, hj => by
    simp only [OwTs] at h
    obtain ⟨r, rs', L1, L2, rfl, rfl, h1, h2⟩ := h
    obtain ⟨rs1, r2, rs2, M1, Ma, M2, rfl, rfl, h3, h4, h5, h6⟩ := h2.split (j := j) (by simpa using hj)
    refine ⟨r :: rs1, r2, rs2, L1 ++ M1, Ma, M2, by simp, by simp, by simp [h3], ?_, by simpa using h5, by simpa using h6⟩
    simp only [List.take_succ_cons, OwTs]
    exact ⟨r, rs1, L1, M1, rfl, rfl, h1, h4⟩
theorem OwTs.lt_of {xs : List Nd} (hx : ∀ x ∈ xs, ∀ (r : Raw) (L : List Nat), OwT w x r L → ∀ b ∈ L, b < w.heap.size) : ∀ {rs : List Raw} {L : List Nat}, OwTs w xs rs L → ∀ b ∈ L, b < w.heap.size := by
  induction xs with
  | nil => intro rs L h b hb; simp only [OwTs] at h; rw [h.2] at hb; cases hb
  | cons x s ih =>
    intro rs L h b hb
    simp only [OwTs] at h
    obtain ⟨r, rs', L1, L2, rfl, rfl, h1, h2⟩ := h
    rw [List.mem_append] at hb
    rcases hb with hb | hb
    · exact hx x (by simp) r L1 h1 b hb
    · exact ih (fun y hy => hx y (List.mem_cons_of_mem _ hy)) h2 b hb
theorem OwT.lt (x : Nd) : ∀ (r : Raw) (L : List Nat), OwT w x r L → ∀ b ∈ L, b < w.heap.size := by
  induction x using Nd.ind with
  | h k n t ns xs ih =>
    intro r L h b hb
    simp only [OwT] at h
    obtain ⟨rfl, rfl, rfl, h4, h5, h6, rs, L2, h7, h8, rfl⟩ := h
    rw [List.mem_append, List.mem_append] at hb
    rcases hb with hb | hb | hb
    · exact (h6.lt b (by rw [← h4]; exact bk_mem.1 hb)).2
    · exact (h7.lt b (by rw [h8.len, ← h5]; exact bk_mem.1 hb)).2
    · exact h8.lt_of ih b hb
theorem OwTs.lt {xs : List Nd} {rs : List Raw} {L : List Nat} (h : OwTs w xs rs L) : ∀ b ∈ L, b < w.heap.size := h.lt_of (fun x _ => OwT.lt x)
end

/-- a node in a box, its names and its nodes in rows of the call's own, each row in a block that no other has -/
structure TBx (w : World) (b base : Nat) (kd nn : Int) (tt : Tx) (An : Option Addr) (cn : Nat) (ns : List Tx) (Ai : Option Addr) (ci : Nat) (rs : List Raw) (xs : List Nd) (L : List Nat) : Prop where
  box : w.heap[b]? = some (.cells (ndCells kd nn tt An ns.length cn Ai rs.length ci) 26 (0, 0))
  nown : OwnS w base An cn ns
  iown : OwnN w base Ai ci rs
  els : OwTs w xs rs L
  nodup : (bk An ns.length cn ++ (bk Ai rs.length ci ++ L)).Nodup
  rng : ∀ j ∈ L, base ≤ j
  lt : b < base
  le : base ≤ w.heap.size
section
variable {w w' : World} {b base : Nat} {kd nn : Int} {tt : Tx} {An Ai : Option Addr} {cn ci : Nat} {ns : List Tx} {rs : List Raw} {xs : List Nd} {L : List Nat}
theorem TBx.keep (h : TBx w b base kd nn tt An cn ns Ai ci rs xs L) (hb : Below w.heap.size w w') : TBx w' b base kd nn tt An cn ns Ai ci rs xs L :=
  ⟨bx_keep h.box hb, own_below h.nown hb, own_below h.iown hb, h.els.keep (fun j hj => hb.block j (h.els.lt j hj)), h.nodup, h.rng, h.lt, Nat.le_trans h.le hb.size⟩
theorem TBx.lts (h : TBx w b base kd nn tt An cn ns Ai ci rs xs L) : ∀ j ∈ bk An ns.length cn ++ (bk Ai rs.length ci ++ L), base ≤ j ∧ j < w.heap.size := by
  intro j hj
  rw [List.mem_append, List.mem_append] at hj
  rcases hj with hj | hj | hj
  · exact h.nown.lt j (bk_mem.1 hj)
  · exact h.iown.lt j (bk_mem.1 hj)
  · exact ⟨h.rng j hj, h.els.lt j hj⟩
/-- what is made later lies elsewhere -/
theorem TBx.more (h : TBx w b base kd nn tt An cn ns Ai ci rs xs L) {L1 : List Nat} (h1 : L1.Nodup) (h2 : ∀ j ∈ L1, w.heap.size ≤ j) : (bk An ns.length cn ++ (bk Ai rs.length ci ++ (L ++ L1))).Nodup := by
  rw [← List.append_assoc, ← List.append_assoc, List.nodup_append]
  refine ⟨by rw [List.append_assoc]; exact h.nodup, h1, fun a ha c hc e => ?_⟩
  subst e
  have := (h.lts a (by rw [← List.append_assoc]; exact ha)).2
  have := h2 a hc
  omega
theorem TBx.appI (h : TBx w b base kd nn tt An cn ns Ai ci rs xs L) {A' : Option Addr} {c' : Nat} {r : Raw} {x : Nd} {L1 : List Nat} (ho : OwnN w' base A' c' (rs ++ [r])) (hg : w.grownBy w' (Value.ownBlock (.slice Ai rs.length ci)))
    (hbk : Value.ownBlock (.slice A' (rs.length + 1) c') = Value.ownBlock (.slice Ai rs.length ci) ∨ Value.ownBlock (.slice A' (rs.length + 1) c') = some w.heap.size)
    (hx : OwT w x r L1) (hL : (bk An ns.length cn ++ (bk Ai rs.length ci ++ (L ++ L1))).Nodup) (hr1 : ∀ j ∈ L1, base ≤ j) (v : Value) (hv : v = .slice A' (rs ++ [r]).length c') :
    TBx (w'.setCell ⟨b, 4, none⟩ v) b base kd nn tt An cn ns A' c' (rs ++ [r]) (xs ++ [x]) (L ++ L1) := by
  subst hv
  have h1 := h.lt; have h3 := h.le
  have hr := ownN_row h.iown
  have hn := h.nown.lt
  have hl : (rs ++ [r]).length = rs.length + 1 := by simp
  have hxl := OwT.lt x r L1 hx
  have hne : ∀ j, j < base → some j ≠ Value.ownBlock (.slice Ai rs.length ci) := fun j hj e => by have := hr _ e.symm; omega
  have hLl : ∀ j ∈ L ++ L1, base ≤ j ∧ j < w.heap.size := fun j hj => by
    rw [List.mem_append] at hj
    rcases hj with hj | hj
    · exact ⟨h.rng j hj, h.els.lt j hj⟩
    · exact ⟨hr1 j hj, hxl j hj⟩
  have hnd2 := List.nodup_append.1 hL
  have hnd3 := List.nodup_append.1 hnd2.2.1
  refine ⟨?_, offN ?_ h1, offN ho h1, ?_, ?_, fun j hj => (hLl j hj).1, h1, by have := hg.size; simp [World.setCell]; omega⟩
  · exact cells_set ((hg.block b (by omega) (hne b h1)).trans h.box)
  · exact h.nown.kept hg (by
      cases hv : Value.ownBlock (.slice An ns.length cn) with
      | none => exact .inl rfl
      | some k => exact .inr fun e => hnd2.2.2 k (bk_mem.2 hv) k (by rw [List.mem_append]; exact .inl (bk_mem.2 e.symm)) rfl)
  · refine (h.els.snoc hx).keep (fun j hj => ?_)
    have hj2 := hLl j hj
    exact (Below.heap_setCell _ _ _ _ (by show j ≠ b; omega)).trans (hg.block j hj2.2 (fun e => hnd3.2.2 j (bk_mem.2 e.symm) j hj rfl))
  · rw [hl]
    rcases hbk with e | e
    · rw [show bk A' (rs.length + 1) c' = bk Ai rs.length ci from congrArg _ e]; exact hL
    · rw [show bk A' (rs.length + 1) c' = [w.heap.size] from congrArg _ e, List.nodup_append]
      refine ⟨hnd2.1, ?_, fun a ha c hc e2 => ?_⟩
      · rw [List.nodup_append]
        refine ⟨by simp, hnd3.2.1, fun a ha c hc e2 => ?_⟩
        simp at ha
        subst ha
        subst e2
        exact absurd (hLl _ hc).2 (Nat.lt_irrefl _)
      · subst e2
        rw [List.mem_append] at hc
        rcases hc with hc | hc
        · simp at hc
          subst hc
          exact absurd (hn _ (bk_mem.1 ha)).2 (Nat.lt_irrefl _)
        · exact hnd2.2.2 a ha a (by rw [List.mem_append]; exact .inr hc) rfl
theorem TBx.appN (h : TBx w b base kd nn tt An cn ns Ai ci rs xs L) {A' : Option Addr} {c' : Nat} {ys : List Tx} (ho : OwnS w' base A' c' ys) (hg : w.grownBy w' (Value.ownBlock (.slice An ns.length cn)))
    (hbk : Value.ownBlock (.slice A' ys.length c') = Value.ownBlock (.slice An ns.length cn) ∨ Value.ownBlock (.slice A' ys.length c') = some w.heap.size) (v : Value) (hv : v = .slice A' ys.length c') :
    TBx (w'.setCell ⟨b, 3, none⟩ v) b base kd nn tt A' c' ys Ai ci rs xs L := by
  subst hv
  have h1 := h.lt; have h3 := h.le
  have hr := ownS_row h.nown
  have hn := h.iown.lt
  have hne : ∀ j, j < base → some j ≠ Value.ownBlock (.slice An ns.length cn) := fun j hj e => by have := hr _ e.symm; omega
  have hnd2 := List.nodup_append.1 h.nodup
  refine ⟨?_, offN ho h1, offN ?_ h1, ?_, ?_, h.rng, h1, by have := hg.size; simp [World.setCell]; omega⟩
  · exact cells_set ((hg.block b (by omega) (hne b h1)).trans h.box)
  · exact h.iown.kept hg (by
      cases hv : Value.ownBlock (.slice Ai rs.length ci) with
      | none => exact .inl rfl
      | some k => exact .inr fun e => hnd2.2.2 k (bk_mem.2 e.symm) k (by rw [List.mem_append]; exact .inl (bk_mem.2 hv)) rfl)
  · refine h.els.keep (fun j hj => ?_)
    have hj1 := h.rng j hj
    exact (Below.heap_setCell _ _ _ _ (by show j ≠ b; omega)).trans (hg.block j (h.els.lt j hj) (fun e => hnd2.2.2 j (bk_mem.2 e.symm) j (by rw [List.mem_append]; exact .inr hj) rfl))
  · rcases hbk with e | e
    · rw [show bk A' ys.length c' = bk An ns.length cn from congrArg _ e]; exact h.nodup
    · rw [show bk A' ys.length c' = [w.heap.size] from congrArg _ e, List.nodup_append]
      refine ⟨by simp, hnd2.2.1, fun a ha c hc e2 => ?_⟩
      simp at ha
      subst ha
      subst e2
      exact absurd (h.lts _ (by rw [List.mem_append]; exact .inr hc)).2 (Nat.lt_irrefl _)
theorem TBx.boxI (h : TBx w b base kd nn tt An cn ns Ai ci rs xs L) (hg : w.grownBy w' (Value.ownBlock (.slice Ai rs.length ci))) : w'.heap[b]? = some (.cells (ndCells kd nn tt An ns.length cn Ai rs.length ci) 26 (0, 0)) :=
  (hg.block b (Nat.lt_of_lt_of_le h.lt h.le) (fun e => by have := ownN_row h.iown _ e.symm; have := h.lt; omega)).trans h.box
theorem TBx.boxN (h : TBx w b base kd nn tt An cn ns Ai ci rs xs L) (hg : w.grownBy w' (Value.ownBlock (.slice An ns.length cn))) : w'.heap[b]? = some (.cells (ndCells kd nn tt An ns.length cn Ai rs.length ci) 26 (0, 0)) :=
  (hg.block b (Nat.lt_of_lt_of_le h.lt h.le) (fun e => by have := ownS_row h.nown _ e.symm; have := h.lt; omega)).trans h.box
/-- the node, in its rows -/
theorem TBx.node (h : TBx w b base kd nn tt An cn ns Ai ci rs xs L) : OwT w (.mk kd nn tt ns xs) ⟨kd, nn, tt, An, ns.length, cn, Ai, rs.length, ci⟩ (bk An ns.length cn ++ (bk Ai rs.length ci ++ L)) := by
  rw [OwT]
  exact ⟨rfl, rfl, rfl, rfl, h.els.len, own_base h.nown (Nat.zero_le _), rs, L, own_base h.iown (Nat.zero_le _), h.els, rfl⟩
end
/-- a node that the call has made, in rows of its own -/
def NewT (w : World) (x : Nd) (e : Ending) (w' : World) : Prop :=
  ∃ (r : Raw) (L : List Nat), e = .returned r.v ∧ OwT w' x r L ∧ L.Nodup ∧ (∀ b ∈ L, w.heap.size ≤ b) ∧ Below w.heap.size w w'
theorem NewT.newN {w w' : World} {x : Nd} {e : Ending} (h : NewT w x e w') : NewN w x e w' := by
  obtain ⟨r, L, rfl, h1, h2, h3, h4⟩ := h
  exact ⟨_, _, _, _, _, _, _, _, _, rfl, OwT.inN x r L h1 (fun b hb => ⟨h3 b hb, OwT.lt x r L h1 b hb⟩), h4⟩
end Go.Proofs.YtdmmnjnbjigdeaaDoor
