/- Locations: their texts, and reading them: plain laws. No program is walked here. -/
import Derived.Test.YtjlaelkdmgcniaaDoorLocP
import Derived.Test.YtjlaelkdmgcniaaDoorPartsP
import Derived.Lib.IndexMore
namespace Go.Proofs.YtjlaelkdmgcniaaDoor
open Go.RowKit

theorem cut_hit {c : UInt8} {t x r : Tx} (h : noB c x) : Lib.cut (x ++ (c :: t) ++ r) (c :: t) = (x, r, true) := by
  unfold Lib.cut
  rw [index_first_ h, if_pos (by omega)]
  simp
theorem cut_miss {c : UInt8} {t x : Tx} (h : noB c x) : Lib.cut x (c :: t) = (x, [], false) := by
  unfold Lib.cut
  rw [index_no h, if_neg (by omega)]
theorem cut_len (s sep : Tx) : (Lib.cut s sep).1.length ≤ s.length ∧ ((Lib.cut s sep).2.1 = [] ∨ (Lib.cut s sep).2.1.length + sep.length ≤ s.length) := by
  unfold Lib.cut
  split
  · next h =>
    have := Lib.index_room s sep h
    refine ⟨by simp; omega, .inr ?_⟩
    simp
    omega
  · exact ⟨Nat.le_refl _, .inl rfl⟩
theorem cut_len1 (s sep : Tx) : (Lib.cut s sep).1.length ≤ s.length := (cut_len s sep).1
theorem cut_len2 (s sep : Tx) : (Lib.cut s sep).2.1.length ≤ s.length := by
  rcases (cut_len s sep).2 with h | h
  · rw [h]; simp
  · omega

theorem hostByte_no {c : UInt8} (h : hostByte c = true) : c ≠ 47 ∧ c ≠ 63 := by
  constructor <;> (rintro rfl; revert h; decide)
theorem plainByte_no2 {c : UInt8} (h : plainByte c = true) : c ≠ 47 ∧ c ≠ 63 := by
  constructor <;> (rintro rfl; revert h; decide)
theorem host_no {s : Tx} (h : hostOk s = true) : noB 47 s ∧ noB 63 s ∧ s ≠ [] := by
  simp only [hostOk, Bool.and_eq_true, decide_eq_true_eq] at h
  refine ⟨fun b hb => (hostByte_no (List.all_eq_true.1 h.2 b hb)).1, fun b hb => (hostByte_no (List.all_eq_true.1 h.2 b hb)).2, ?_⟩
  rintro rfl
  simp at h
theorem step_no {s : Tx} (h : stepOk s = true) : noB 47 s ∧ noB 63 s ∧ s ≠ [] := by
  simp only [stepOk, Bool.and_eq_true, decide_eq_true_eq] at h
  refine ⟨fun b hb => (plainByte_no2 (List.all_eq_true.1 h.2 b hb)).1, fun b hb => (plainByte_no2 (List.all_eq_true.1 h.2 b hb)).2, ?_⟩
  rintro rfl
  simp at h
theorem sch_no {s : Tx} (h : schOk s = true) : noB 58 s ∧ noB 47 s ∧ noB 63 s := by
  unfold schOk at h
  rw [Bool.or_eq_true, beq_iff_eq, beq_iff_eq] at h
  rcases h with rfl | rfl <;> refine ⟨?_, ?_, ?_⟩ <;> (intro b hb; revert b; decide)
theorem noB_append {c : UInt8} {a b : Tx} (ha : noB c a) (hb : noB c b) : noB c (a ++ b) := by
  intro x hx
  rcases List.mem_append.1 hx with h | h
  · exact ha x h
  · exact hb x h
theorem noB_cons {c d : UInt8} {a : Tx} (hd : d ≠ c) (ha : noB c a) : noB c (d :: a) := by
  intro x hx
  rcases List.mem_cons.1 hx with rfl | h
  · exact hd
  · exact ha x h
theorem noB_nil {c : UInt8} : noB c [] := fun _ h => by cases h
theorem noB_join {c d : UInt8} (hd : d ≠ c) : ∀ {xs : List Tx}, (∀ x ∈ xs, noB c x) → noB c (Lib.join xs [d])
  | [], _ => noB_nil
  | [x], h => by rw [Lib.join_one]; exact h x (by simp)
  | x :: y :: t, h => by
    rw [join_cons2]
    exact noB_append (noB_append (h x (by simp)) (noB_cons hd noB_nil)) (noB_join hd fun z hz => h z (List.mem_cons_of_mem _ hz))
theorem join_nonempty {sep : Tx} : ∀ {xs : List Tx}, xs ≠ [] → (∀ x ∈ xs, x ≠ []) → Lib.join xs sep ≠ []
  | [], h, _ => absurd rfl h
  | [x], _, h => by rw [Lib.join_one]; exact h x (by simp)
  | x :: y :: t, _, h => by
    rw [join_cons2]
    have := h x (by simp)
    simp [this]

structure LcOk (l : Lc) : Prop where
  sch : schOk l.sch = true
  host : hostOk l.host = true
  six : l.path.length ≤ 6
  path : ∀ x ∈ l.path, stepOk x = true
  qu : (readAsked l.qu).2 = true
theorem locOk_parts {l : Lc} (h : locOk l = true) : LcOk l := by
  simp only [locOk, Bool.and_eq_true, decide_eq_true_eq] at h
  exact ⟨h.1.1.1.1, h.1.1.1.2, h.1.1.2, fun x hx => List.all_eq_true.1 h.1.2 x hx, h.2⟩

def quT (q : Tx) : Tx := if q = [] then [] else 63 :: q
theorem locBody_eq (l : Lc) : locBody l = l.sch ++ [58, 47, 47] ++ (l.host ++ [47] ++ (Lib.join l.path [47] ++ quT l.qu)) := by
  unfold locBody quT
  simp

/-! ### the way impl reads -/
def parseLI (s : Tx) : Lc × Bool :=
  (⟨(Lib.cut s [58, 47, 47]).1, (Lib.cut (Lib.cut s [58, 47, 47]).2.1 [47]).1,
    if (Lib.cut (Lib.cut (Lib.cut s [58, 47, 47]).2.1 [47]).2.1 [63]).1 = [] then [] else Lib.split (Lib.cut (Lib.cut (Lib.cut s [58, 47, 47]).2.1 [47]).2.1 [63]).1 [47],
    (Lib.cut (Lib.cut (Lib.cut s [58, 47, 47]).2.1 [47]).2.1 [63]).2.1⟩,
   (Lib.cut s [58, 47, 47]).2.2 && (Lib.cut (Lib.cut s [58, 47, 47]).2.1 [47]).2.2)
theorem path_join {xs : List Tx} (h : ∀ x ∈ xs, stepOk x = true) : (if Lib.join xs [47] = [] then [] else Lib.split (Lib.join xs [47]) [47]) = xs := by
  cases xs with
  | nil => rw [Lib.join_nil]; rfl
  | cons x t =>
    rw [if_neg (join_nonempty (by simp) fun y hy => (step_no (h y hy)).2.2)]
    exact split_join _ (by simp) fun y hy => (step_no (h y hy)).1
theorem parseLI_text {l : Lc} (h : locOk l = true) : parseLI (locBody l) = (l, true) := by
  have H := locOk_parts h
  have e1 : Lib.cut (locBody l) [58, 47, 47] = (l.sch, l.host ++ [47] ++ (Lib.join l.path [47] ++ quT l.qu), true) := by
    rw [locBody_eq]; exact cut_hit (sch_no H.sch).1
  have e2 : Lib.cut (l.host ++ [47] ++ (Lib.join l.path [47] ++ quT l.qu)) [47] = (l.host, Lib.join l.path [47] ++ quT l.qu, true) := cut_hit (host_no H.host).1
  have hj : noB 63 (Lib.join l.path [47]) := noB_join (by decide) fun x hx => (step_no (H.path x hx)).2.1
  have e3 : (Lib.cut (Lib.join l.path [47] ++ quT l.qu) [63]).1 = Lib.join l.path [47] ∧ (Lib.cut (Lib.join l.path [47] ++ quT l.qu) [63]).2.1 = l.qu := by
    unfold quT
    split
    · next hq => rw [List.append_nil, cut_miss hj, hq]; exact ⟨rfl, rfl⟩
    · rw [show Lib.join l.path [47] ++ 63 :: l.qu = Lib.join l.path [47] ++ [63] ++ l.qu by simp, cut_hit hj]; exact ⟨rfl, rfl⟩
  unfold parseLI
  rw [e1]
  dsimp only
  rw [e2]
  dsimp only
  rw [e3.1, e3.2, path_join H.path]
  rfl

def zeroL : Lc := ⟨[], [], [], []⟩
def readLoc (s : Tx) : Lc × Bool := if (parseLI s).2 && locOk (parseLI s).1 && (locText (parseLI s).1 == s) then ((parseLI s).1, true) else (zeroL, false)
theorem readLoc_text {l : Lc} {s : Tx} (h : locOk l = true) (ht : locBody l = s) : readLoc s = (l, true) := by
  subst ht
  unfold readLoc
  rw [parseLI_text h]
  simp [h, locText]
theorem readLoc_cases (s : Tx) : readLoc s = (zeroL, false) ∨ ∃ l, readLoc s = (l, true) ∧ locOk l = true ∧ locBody l = s := by
  unfold readLoc
  split
  · next h =>
    simp only [Bool.and_eq_true, beq_iff_eq] at h
    refine .inr ⟨_, rfl, h.1.2, ?_⟩
    have := h.2
    unfold locText at this
    rwa [if_pos h.1.2] at this
  · exact .inl rfl
theorem readLoc_if {l : Lc} {s : Tx} (h : locOk l && (locText l == s)) : readLoc s = (l, true) := by
  simp only [Bool.and_eq_true, beq_iff_eq] at h
  refine readLoc_text h.1 ?_
  have := h.2
  unfold locText at this
  rwa [if_pos h.1] at this

/-! ### the way spec reads -/
def wordsOf (s : Tx) : List Tx := Lib.split (s.take (at_ 63 s)) [47]
def parseLS (s : Tx) : Option Lc :=
  if (wordsOf s).length < 4 ∨ ((wordsOf s).getD 0 []).length < 1 then none
  else some ⟨((wordsOf s).getD 0 []).take (((wordsOf s).getD 0 []).length - 1), (wordsOf s).getD 2 [], if 4 < (wordsOf s).length ∨ (wordsOf s).getD 3 [] ≠ [] then (wordsOf s).drop 3 else [], s.drop (at_ 63 s + 1)⟩
theorem words_text {l : Lc} (h : locOk l = true) : (locBody l).take (at_ 63 (locBody l)) = Lib.join ((l.sch ++ [58]) :: [] :: l.host :: (if l.path = [] then [[]] else l.path)) [47] ∧ (locBody l).drop (at_ 63 (locBody l) + 1) = l.qu := by
  have H := locOk_parts h
  have hj : noB 63 (Lib.join l.path [47]) := noB_join (by decide) fun x hx => (step_no (H.path x hx)).2.1
  have hb : noB 63 (l.sch ++ [58, 47, 47] ++ (l.host ++ [47] ++ Lib.join l.path [47])) :=
    noB_append (noB_append (sch_no H.sch).2.2 (noB_cons (by decide) (noB_cons (by decide) (noB_cons (by decide) noB_nil)))) (noB_append (noB_append (host_no H.host).2.1 (noB_cons (by decide) noB_nil)) hj)
  have e : locBody l = (l.sch ++ [58, 47, 47] ++ (l.host ++ [47] ++ Lib.join l.path [47])) ++ quT l.qu := by rw [locBody_eq]; simp
  have e2 : (l.sch ++ [58, 47, 47] ++ (l.host ++ [47] ++ Lib.join l.path [47])) = Lib.join ((l.sch ++ [58]) :: [] :: l.host :: (if l.path = [] then [[]] else l.path)) [47] := by
    rw [join_cons2, join_cons2]
    split
    · next hp => rw [hp, join_cons2, Lib.join_one, Lib.join_nil]; simp
    · next hp => rw [join_consS _ hp]; simp
  rw [e, ← e2]
  generalize (l.sch ++ [58, 47, 47] ++ (l.host ++ [47] ++ Lib.join l.path [47])) = a at *
  unfold quT
  split
  · next hq => rw [List.append_nil, at_none hb, hq]; simp
  · rw [at_no hb]; simp
theorem parseLS_text {l : Lc} (h : locOk l = true) : parseLS (locBody l) = some l := by
  have H := locOk_parts h
  obtain ⟨h1, h2⟩ := words_text h
  have hw : wordsOf (locBody l) = (l.sch ++ [58]) :: [] :: l.host :: (if l.path = [] then [[]] else l.path) := by
    unfold wordsOf
    rw [h1]
    refine split_join _ (by simp) ?_
    intro x hx
    rcases List.mem_cons.1 hx with rfl | hx
    · exact noB_append (sch_no H.sch).2.1 (noB_cons (by decide) noB_nil)
    rcases List.mem_cons.1 hx with rfl | hx
    · exact noB_nil
    rcases List.mem_cons.1 hx with rfl | hx
    · exact (host_no H.host).1
    split at hx
    · simp at hx; subst hx; exact noB_nil
    · exact (step_no (H.path x hx)).1
  unfold parseLS
  rw [hw, h2]
  obtain ⟨sch, host, path, qu⟩ := l
  dsimp only at *
  cases path with
  | nil => simp
  | cons x t =>
    have hx := (step_no (H.path x (by simp))).2.2
    have h0 : (([] : Tx) :: host :: x :: t).length ≠ 0 := by simp
    simp [hx]
theorem readLoc_spec (s : Tx) : readLoc s = match parseLS s with
    | none => (zeroL, false)
    | some l => if locOk l && (locText l == s) then (l, true) else (zeroL, false) := by
  rcases readLoc_cases s with h | ⟨l, h, h1, h2⟩
  · rw [h]
    cases hp : parseLS s with
    | none => rfl
    | some l =>
      dsimp only
      split
      · next hc => rw [readLoc_if hc] at h; cases h
      · rfl
  · rw [h]
    have hp : parseLS s = some l := by rw [← h2]; exact parseLS_text h1
    rw [hp]
    dsimp only
    have : locText l = s := by unfold locText; rw [if_pos h1, h2]
    rw [h1, this]
    simp
theorem parseLI_fit {s : Tx} (hs : s.length ≤ 1048576) : FitL (parseLI s).1 := by
  have a1 := cut_len s [58, 47, 47]
  have b1 := cut_len1 (Lib.cut s [58, 47, 47]).2.1 [47]
  have b2 := cut_len2 (Lib.cut s [58, 47, 47]).2.1 [47]
  have c1 := cut_len1 (Lib.cut (Lib.cut s [58, 47, 47]).2.1 [47]).2.1 [63]
  have c2 := cut_len2 (Lib.cut (Lib.cut s [58, 47, 47]).2.1 [47]).2.1 [63]
  have hs2 := cut_len2 s [58, 47, 47]
  have d1 := split_len (Lib.cut (Lib.cut (Lib.cut s [58, 47, 47]).2.1 [47]).2.1 [63]).1 (sep := [47]) (by simp)
  have d2 := split_mem (Lib.cut (Lib.cut (Lib.cut s [58, 47, 47]).2.1 [47]).2.1 [63]).1 (sep := [47]) (by simp)
  unfold parseLI FitL
  dsimp only
  refine ⟨by omega, by omega, by omega, ?_, ?_⟩
  · split
    · simp
    · next hne =>
      rcases a1.2 with h | h
      · exfalso
        apply hne
        rw [h] at c1 b2
        have : (Lib.cut (Lib.cut (Lib.cut s [58, 47, 47]).2.1 [47]).2.1 [63]).1.length ≤ 0 := by
          rw [h]; simp at b2 c1 ⊢; rw [b2]; rfl
        exact List.eq_nil_of_length_eq_zero (by omega)
      · simp at h; omega
  · split
    · intro x hx; cases hx
    · intro x hx; have := d2 x hx; omega
theorem loc_len {l : Lc} (h : locOk l = true) (hq : l.qu.length ≤ 1048576) : (locBody l).length ≤ 2000000 := by
  have H := locOk_parts h
  have h1 : l.sch.length ≤ 5 := by
    have := H.sch
    unfold schOk at this
    rw [Bool.or_eq_true, beq_iff_eq, beq_iff_eq] at this
    rcases this with e | e <;> rw [e] <;> decide
  have h2 : l.host.length ≤ 40 := by
    have := H.host
    simp only [hostOk, Bool.and_eq_true, decide_eq_true_eq] at this
    exact this.1.2
  have h3 : (Lib.join l.path [47]).length ≤ 246 := by
    refine join_len l.path [47] 246 246 ?_ (Nat.le_refl _)
    have h6 := H.six
    have hp : ∀ x ∈ l.path, x.length ≤ 40 := fun x hx => by
      have := H.path x hx
      simp only [stepOk, Bool.and_eq_true, decide_eq_true_eq] at this
      exact this.1.1.1.2
    generalize l.path = xs at *
    have : ∀ (xs : List Tx), (∀ x ∈ xs, x.length ≤ 40) → (xs.map (fun x => x.length + [47].length)).sum ≤ 41 * xs.length := by
      intro xs
      induction xs with
      | nil => simp
      | cons x t ih =>
        intro h
        have h1 := h x (by simp)
        have h2 := ih fun y hy => h y (List.mem_cons_of_mem _ hy)
        simp at h2 ⊢
        omega
    have := this xs hp
    omega
  rw [locBody_eq]
  unfold quT
  split <;> simp <;> omega
end Go.Proofs.YtjlaelkdmgcniaaDoor
