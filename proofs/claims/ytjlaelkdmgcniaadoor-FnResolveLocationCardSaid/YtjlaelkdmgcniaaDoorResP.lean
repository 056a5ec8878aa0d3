/- What a text means, seen from a location: in plain Lean. No program is walked here. -/
import Derived.Test.YtjlaelkdmgcniaaDoorLocTP
namespace Go.Proofs.YtjlaelkdmgcniaaDoor
open Go.RowKit

/-- one word of a path -/
def resStep (p : List Tx) (w : Tx) (last : Bool) : List Tx :=
  if w = [46] ∨ (w = [] ∧ last = true) then p else if w = [46, 46] then p.dropLast else p ++ [w]
def resWords : List Tx → List Tx → List Tx
  | p, [] => p
  | p, w :: ws => resWords (resStep p w ws.isEmpty) ws
def before (s : Tx) : Tx := s.take (at_ 63 s)
def resPath (l : Lc) (b : Tx) : List Tx :=
  if b = [] then l.path else if b.head? = some 47 then resWords [] (Lib.split (b.drop 1) [47]) else resWords l.path.dropLast (Lib.split b [47])
def resOut (l : Lc) (s : Tx) : Lc := ⟨l.sch, l.host, resPath l (before s), s.drop (at_ 63 s + 1)⟩
def resolve (l : Lc) (s : Tx) : Lc × Bool :=
  if locOk l then (if (readLoc s).2 then readLoc s else if s = [] then (⟨l.sch, l.host, l.path, []⟩, true) else if locOk (resOut l s) then (resOut l s, true) else (zeroL, false)) else (zeroL, false)
theorem readLoc_nil : readLoc [] = (zeroL, false) := by
  rcases readLoc_cases [] with h | ⟨l, h, hok, hb⟩
  · exact h
  · have H := locOk_parts hok
    rw [locBody_eq] at hb
    simp at hb
theorem noquery_ok {l : Lc} (h : locOk l = true) : locOk ⟨l.sch, l.host, l.path, []⟩ = true := by
  unfold locOk at *
  simp only [Bool.and_eq_true] at *
  exact ⟨h.1, by decide +kernel⟩
theorem resolve_bad {l : Lc} {s : Tx} (h : locOk l = false) : resolve l s = (zeroL, false) := by unfold resolve; rw [h]; rfl
theorem resolve_nil {l : Lc} (h : locOk l = true) : resolve l [] = (⟨l.sch, l.host, l.path, []⟩, true) := by unfold resolve; rw [h, readLoc_nil]; rfl
theorem resolve_whole {l : Lc} {s : Tx} (h : locOk l = true) (hr : (readLoc s).2 = true) : resolve l s = readLoc s := by unfold resolve; rw [h, hr]; rfl
theorem resolve_out {l : Lc} {s : Tx} (h : locOk l = true) (hr : (readLoc s).2 = false) (hs : s ≠ []) : resolve l s = if locOk (resOut l s) then (resOut l s, true) else (zeroL, false) := by
  unfold resolve; rw [if_pos h, if_neg (by rw [hr]; decide), if_neg hs]
theorem readLoc_ok {s : Tx} (h : (readLoc s).2 = true) : locOk (readLoc s).1 = true := by
  rcases readLoc_cases s with e | ⟨l, e, hok, _⟩
  · rw [e] at h; cases h
  · rw [e]; exact hok
/-- what the law says of it -/
theorem resolve_ok {l : Lc} {s : Tx} (h : (resolve l s).2 = true) : locOk (resolve l s).1 = true ∧ ((readLoc s).2 = true ∨ ((resolve l s).1.host = l.host ∧ (resolve l s).1.sch = l.sch)) := by
  unfold resolve at *
  split at h
  · next hl =>
    split at h
    · next hr => rw [if_pos hl, if_pos hr]; exact ⟨readLoc_ok hr, .inl hr⟩
    · next hr =>
      rw [if_pos hl, if_neg hr]
      split at h
      · next hs => rw [if_pos hs]; exact ⟨noquery_ok hl, .inr ⟨rfl, rfl⟩⟩
      · next hs =>
        rw [if_neg hs]
        split at h
        · next ho => rw [if_pos ho]; exact ⟨ho, .inr ⟨rfl, rfl⟩⟩
        · cases h
  · cases h
theorem resStep_len (p : List Tx) (w : Tx) (b : Bool) : (resStep p w b).length ≤ p.length + 1 := by
  unfold resStep
  split
  · omega
  split
  · simp; omega
  · simp
theorem resStep_mem {p : List Tx} {w x : Tx} {b : Bool} (h : x ∈ resStep p w b) : x ∈ p ∨ x = w := by
  unfold resStep at h
  split at h
  · exact .inl h
  split at h
  · exact .inl (List.dropLast_subset _ h)
  · rcases List.mem_append.1 h with h | h
    · exact .inl h
    · simp at h; exact .inr h
/-- the loop: what has been laid, and what is left -/
theorem resWords_step {p : List Tx} {ws : List Tx} {k : Nat} (h : k < ws.length) : resWords p (ws.drop k) = resWords (resStep p ws[k] (decide (k + 1 = ws.length))) (ws.drop (k + 1)) := by
  rw [List.drop_eq_getElem_cons h, resWords]
  congr 2
  rw [Bool.eq_iff_iff, List.isEmpty_iff, decide_eq_true_eq, List.drop_eq_nil_iff]
  omega
theorem split_slash (t : Tx) : Lib.split (47 :: t) [47] = [] :: Lib.split t [47] := by
  rw [split_hit (i := 0) (by simp) (by simp [Lib.index])]
  simp
end Go.Proofs.YtjlaelkdmgcniaaDoor
