/- Cookies that are kept, as pairs: plain Lean. -/
import Derived.Test.YtmijnkiopmpjdaaDoorReadCookiesP
namespace Go.Proofs.YtmijnkiopmpjdaaDoor
open Go.RowKit

def keptP (ps : List Ck) (now : Int) (k : Nat) : List Pr := ((ps.take k).filter fun c => decide (now < c.2.2)).map fun c => (c.1, c.2.1)
theorem kept_succ (ps : List Ck) (now : Int) (k : Nat) (h : k < ps.length) : keptP ps now (k + 1) = keptP ps now k ++ (if now < ps[k].2.2 then [(ps[k].1, ps[k].2.1)] else []) := by
  unfold keptP
  rw [take_snoc ps k h, List.filter_append, List.map_append]
  congr 1
  by_cases hh : now < ps[k].2.2 <;> simp [hh]
theorem kept_len (ps : List Ck) (now : Int) (k : Nat) : (keptP ps now k).length ≤ ps.length := by
  unfold keptP
  rw [List.length_map]
  exact Nat.le_trans (List.length_filter_le _ _) (by rw [List.length_take]; omega)
/-- what valid cookies are, in other words -/
theorem okFrom_iff (ps : List Ck) : okFrom ps 0 = true ↔ (∀ c ∈ ps, ckOk c = true) ∧ ps.Pairwise (fun a b => a.1 ≠ b.1) := by
  have key : okFrom ps 0 = true ↔ ∀ j (h : j < ps.length), ckOk ps[j] = true ∧ ∀ d ∈ ps.take j, d.1 ≠ ps[j].1 := by
    unfold okFrom
    rw [List.all_eq_true]
    simp only [List.mem_range, Nat.sub_zero, Nat.zero_add]
    refine forall_congr' fun j => ?_
    refine forall_congr' fun h => ?_
    simp only [okAt, List.getElem?_eq_getElem h, Bool.and_eq_true, newName, List.all_eq_true, Bool.not_eq_true', beq_eq_false_iff_ne, ne_eq]
  rw [key]
  constructor
  · intro h
    refine ⟨fun c hc => ?_, ?_⟩
    · obtain ⟨i, hi, rfl⟩ := List.mem_iff_getElem.1 hc
      exact (h i hi).1
    · rw [List.pairwise_iff_getElem]
      intro i j hi hj hij
      refine (h j hj).2 _ ?_
      rw [List.mem_iff_getElem]
      exact ⟨i, by rw [List.length_take]; omega, by rw [List.getElem_take]⟩
  · rintro ⟨h1, h2⟩ j hj
    refine ⟨h1 _ (List.getElem_mem hj), fun d hd => ?_⟩
    rw [List.pairwise_iff_getElem] at h2
    obtain ⟨i, hi, rfl⟩ := List.mem_iff_getElem.1 hd
    rw [List.length_take] at hi
    rw [List.getElem_take]
    exact h2 i j (by omega) hj (by omega)
theorem ckPr_iff (ps : List Pr) : ckPrOk ps = true ↔ ps.length ≤ 6 ∧ (∀ p ∈ ps, nameOk p.1 = true ∧ valOk p.2 = true) ∧ ps.Pairwise (fun a b => a.1 ≠ b.1) := by
  unfold ckPrOk cookiesOk
  rw [Bool.and_eq_true, decide_eq_true_eq, okFrom_iff, List.length_map, List.pairwise_map]
  refine and_congr_right fun _ => and_congr_left fun _ => ?_
  constructor
  · intro h p hp
    have := h (ck1 p) (List.mem_map_of_mem hp)
    simp only [ckOk, ck1, Bool.and_eq_true] at this
    exact this.1.1
  · intro h c hc
    obtain ⟨p, hp, rfl⟩ := List.mem_map.1 hc
    have := h p hp
    simp [ckOk, ck1, this.1, this.2]
theorem kept_ok {ps : List Ck} (h : cookiesOk ps = true) (now : Int) : ckPrOk (keptP ps now ps.length) = true := by
  unfold cookiesOk at h
  rw [Bool.and_eq_true, decide_eq_true_eq, okFrom_iff] at h
  obtain ⟨h6, h1, h2⟩ := h
  rw [ckPr_iff]
  refine ⟨Nat.le_trans (kept_len ps now _) h6, ?_, ?_⟩
  · intro p hp
    unfold keptP at hp
    obtain ⟨c, hc, rfl⟩ := List.mem_map.1 hp
    have hm := List.mem_of_mem_take (List.mem_filter.1 hc).1
    have := h1 c hm
    simp only [ckOk, Bool.and_eq_true] at this
    exact this.1.1
  · unfold keptP
    rw [List.take_length, List.pairwise_map]
    exact h2.sublist List.filter_sublist
theorem kept_text {ps : List Ck} (h : cookiesOk ps = true) (now : Int) : Lib.join ((keptP ps now ps.length).map pText) [59, 32] = cookiesText ps now := by
  unfold cookiesText
  rw [if_pos h]
  unfold ckParts keptP
  rw [List.map_map]
  rfl
theorem kept_read {ps : List Ck} (h : cookiesOk ps = true) (now : Int) : readCookies (cookiesText ps now) = (keptP ps now ps.length, true) := readCookies_text (kept_ok h now) (kept_text h now)
end Go.Proofs.YtmijnkiopmpjdaaDoor
