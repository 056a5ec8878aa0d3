/- Names and texts in parts of a text: both ways of reading, in plain Lean. -/
import Derived.Test.YtjlaelkdmgcniaaDoorSplitP
import Derived.Test.YtjlaelkdmgcniaaDoorUnescP
import Derived.Test.YtjlaelkdmgcniaaDoorPairS
namespace Go.Proofs.YtjlaelkdmgcniaaDoor
open Go.RowKit

/-- a name and a text, written -/
def pText (p : Pr) : Tx := p.1 ++ 61 :: escPart p.2
/-- a part, read -/
def partPr (p : Tx) : Pr := (p.take (at_ 61 p), (unesc (p.drop (at_ 61 p + 1))).getD [])
def partOk (p : Tx) : Bool := has 61 p && (unesc (p.drop (at_ 61 p + 1))).isSome
/-- the program's way: all parts -/
def readPairs (s sign : Tx) : List Pr × Bool := if s = [] then ([], true) else if (Lib.split s sign).all partOk then ((Lib.split s sign).map partPr, true) else ([], false)
/-- the reference's way: part by part; behind each part skip bytes are left out -/
def parseP (d : UInt8) (skip : Nat) : Nat → List Pr → Tx → Option (List Pr)
  | 0, acc, r => if r = [] then some acc else none
  | n + 1, acc, r => if r = [] then some acc else if partOk (r.take (at_ d r)) then parseP d skip n (acc ++ [partPr (r.take (at_ d r))]) (r.drop (at_ d r + skip)) else none
theorem parseP_nil (d : UInt8) (skip n : Nat) (acc : List Pr) : parseP d skip n acc [] = some acc := by cases n <;> simp [parseP]
theorem parseP_step {d : UInt8} {skip n : Nat} (acc : List Pr) {r : Tx} (h : r ≠ []) (hp : partOk (r.take (at_ d r)) = true) : parseP d skip (n + 1) acc r = parseP d skip n (acc ++ [partPr (r.take (at_ d r))]) (r.drop (at_ d r + skip)) := by
  rw [parseP, if_neg h, hp]; rfl
theorem parseP_bad {d : UInt8} {skip n : Nat} (acc : List Pr) {r : Tx} (h : r ≠ []) (hp : partOk (r.take (at_ d r)) = false) : parseP d skip (n + 1) acc r = none := by
  rw [parseP, if_neg h, hp]; rfl

/-- a name of small letters, digits and minus signs has no sign in it -/
theorem nameByte_no {c : UInt8} (h : nameByte c = true) : c ≠ 61 ∧ c ≠ 38 ∧ c ≠ 59 := by
  refine ⟨?_, ?_, ?_⟩ <;> (rintro rfl; revert h; decide)
theorem plainByte_no {c : UInt8} (h : plainByte c = true) : c ≠ 38 ∧ c ≠ 59 := by
  refine ⟨?_, ?_⟩ <;> (rintro rfl; revert h; decide)
theorem hexD_no : ∀ n, n < 16 → hexD n ≠ 38 ∧ hexD n ≠ 59 := by decide
theorem escPart_no (t : Tx) : noB 38 (escPart t) ∧ noB 59 (escPart t) := by
  have : ∀ b ∈ escPart t, b ≠ 38 ∧ b ≠ 59 := by
    intro b hb
    unfold escPart at hb
    obtain ⟨c, _, hc⟩ := List.mem_flatMap.1 hb
    unfold escByte at hc
    split at hc
    · rename_i hp
      simp at hc
      subst hc
      exact plainByte_no hp
    · simp only [hex3, List.mem_cons, List.not_mem_nil, or_false] at hc
      rcases hc with rfl | rfl | rfl
      · decide
      · exact hexD_no _ (byte_div c)
      · exact hexD_no _ (byte_mod c)
  exact ⟨fun b hb => (this b hb).1, fun b hb => (this b hb).2⟩
theorem name_no {n : Tx} (h : n.all nameByte = true) : noB 61 n ∧ noB 38 n ∧ noB 59 n := by
  rw [List.all_eq_true] at h
  exact ⟨fun b hb => (nameByte_no (h b hb)).1, fun b hb => (nameByte_no (h b hb)).2.1, fun b hb => (nameByte_no (h b hb)).2.2⟩
theorem nameOk_all {n : Tx} (h : nameOk n = true) : n.all nameByte = true := by
  simp only [nameOk, Bool.and_eq_true] at h
  exact h.2
theorem at_no {c : UInt8} : ∀ {a b : Tx}, noB c a → at_ c (a ++ c :: b) = a.length
  | [], b, _ => by simp [at_, List.findIdx_cons]
  | x :: t, b, h => by
    have ih := at_no (c := c) (a := t) (b := b) fun y hy => h y (List.mem_cons_of_mem _ hy)
    have hx : (x == c) = false := by simpa using h x (by simp)
    unfold at_ at ih ⊢
    rw [List.cons_append, List.findIdx_cons, hx, ih]
    rfl
theorem at_none {c : UInt8} : ∀ {a : Tx}, noB c a → at_ c a = a.length
  | [], _ => rfl
  | x :: t, h => by
    have ih := at_none (c := c) (a := t) fun y hy => h y (List.mem_cons_of_mem _ hy)
    have hx : (x == c) = false := by simpa using h x (by simp)
    unfold at_ at ih ⊢
    rw [List.findIdx_cons, hx, ih]
    rfl
theorem pText_no {p : Pr} (h : p.1.all nameByte = true) : noB 38 (pText p) ∧ noB 59 (pText p) := by
  obtain ⟨_, h1, h2⟩ := name_no h
  obtain ⟨h3, h4⟩ := escPart_no p.2
  refine ⟨?_, ?_⟩ <;> (intro b hb; unfold pText at hb; rcases List.mem_append.1 hb with hb | hb)
  · exact h1 b hb
  · rcases List.mem_cons.1 hb with rfl | hb
    · decide
    · exact h3 b hb
  · exact h2 b hb
  · rcases List.mem_cons.1 hb with rfl | hb
    · decide
    · exact h4 b hb
theorem pText_ne (p : Pr) : pText p ≠ [] := by simp [pText]
theorem part_read {p : Pr} (h : p.1.all nameByte = true) : partOk (pText p) = true ∧ partPr (pText p) = p := by
  have ha : at_ 61 (pText p) = p.1.length := at_no (name_no h).1
  have hd : (pText p).drop (p.1.length + 1) = escPart p.2 := by
    unfold pText
    rw [List.drop_append]
    simp
  unfold partOk partPr has
  rw [ha, hd, unesc_esc]
  refine ⟨by simp [pText], ?_⟩
  simp [pText]
/-- what a part is that is read -/
theorem part_text {x : Tx} (h : partOk x = true) : pText (partPr x) = x := by
  simp only [partOk, has, Bool.and_eq_true, decide_eq_true_eq, Option.isSome_iff_exists] at h
  obtain ⟨h1, t, h2⟩ := h
  have h3 := (unesc_iff _ _).1 h2
  unfold pText partPr
  rw [h2]
  simp only [Option.getD_some]
  rw [h3]
  have hg : x[at_ 61 x]'h1 = 61 := by
    have h4 : (x[at_ 61 x]'h1 == 61) = true := List.findIdx_getElem (w := h1)
    simpa using h4
  conv => rhs; rw [← List.take_append_drop (at_ 61 x) x, List.drop_eq_getElem_cons h1, hg]

theorem readPairs_text {c : UInt8} {t : Tx} {ps : List Pr} (h : ∀ p ∈ ps, p.1.all nameByte = true) (hc : ∀ p ∈ ps, noB c (pText p)) : readPairs (Lib.join (ps.map pText) (c :: t)) (c :: t) = (ps, true) := by
  cases ps with
  | nil => simp [readPairs, Lib.join_nil]
  | cons p q =>
    have hne : Lib.join ((p :: q).map pText) (c :: t) ≠ [] := by
      cases q with
      | nil => rw [List.map_cons, List.map_nil, Lib.join_one]; exact pText_ne p
      | cons r q => rw [List.map_cons, List.map_cons, join_cons2]; simp
    have hs := split_join (c := c) (t := t) ((p :: q).map pText) (by simp) (by intro x hx; obtain ⟨r, hr, rfl⟩ := List.mem_map.1 hx; exact hc r hr)
    unfold readPairs
    rw [if_neg hne, hs, if_pos]
    · rw [List.map_map]
      congr 1
      refine (List.map_congr_left (g := id) fun r hr => ?_).trans (List.map_id _)
      exact (part_read (h r hr)).2
    · rw [List.all_eq_true]
      intro x hx
      obtain ⟨r, hr, rfl⟩ := List.mem_map.1 hx
      exact (part_read (h r hr)).1
theorem readPairs_some {s sign : Tx} (hs : sign ≠ []) {ps : List Pr} (h : readPairs s sign = (ps, true)) : Lib.join (ps.map pText) sign = s := by
  unfold readPairs at h
  split at h
  · rename_i h0
    injection h with h1 _
    subst h1
    rw [h0]; rfl
  · split at h
    · rename_i hall
      injection h with h1 _
      subst h1
      rw [List.all_eq_true] at hall
      have : ((Lib.split s sign).map partPr).map pText = Lib.split s sign := by
        rw [List.map_map]
        refine (List.map_congr_left (g := id) fun r hr => ?_).trans (List.map_id _)
        exact part_text (hall r hr)
      rw [this, join_split_ s hs]
    · cases h
theorem parseP_text {d : UInt8} {t : Tx} {skip : Nat} (hsk : skip = t.length + 1) : ∀ (ps : List Pr) (n : Nat) (acc : List Pr), (∀ p ∈ ps, p.1.all nameByte = true) → (∀ p ∈ ps, noB d (pText p)) → ps.length ≤ n →
    parseP d skip n acc (Lib.join (ps.map pText) (d :: t)) = some (acc ++ ps)
  | [], n, acc, _, _, _ => by simp [Lib.join_nil, parseP_nil]
  | p :: q, 0, _, _, _, hn => by simp at hn
  | [p], n + 1, acc, h, hd, _ => by
    have hr := part_read (h p (by simp))
    have ha : at_ d (pText p) = (pText p).length := at_none (hd p (by simp))
    rw [List.map_cons, List.map_nil, Lib.join_one, parseP_step acc (pText_ne p) (by rw [ha, List.take_length]; exact hr.1), ha, List.take_length, hr.2, List.drop_eq_nil_of_le (by omega), parseP_nil]
  | p :: r :: q, n + 1, acc, h, hd, hn => by
    have hr := part_read (h p (by simp))
    have ih := parseP_text hsk (r :: q) n (acc ++ [p]) (fun x hx => h x (List.mem_cons_of_mem _ hx)) (fun x hx => hd x (List.mem_cons_of_mem _ hx)) (by simp at hn ⊢; omega)
    rw [List.map_cons, List.map_cons, join_cons2]
    have ha : at_ d (pText p ++ d :: t ++ Lib.join (pText r :: q.map pText) (d :: t)) = (pText p).length := by
      rw [List.append_assoc, List.cons_append]
      exact at_no (hd p (by simp))
    have ht : (pText p ++ d :: t ++ Lib.join (pText r :: q.map pText) (d :: t)).take (pText p).length = pText p := by
      rw [List.append_assoc, List.take_left]
    have hdr : (pText p ++ d :: t ++ Lib.join (pText r :: q.map pText) (d :: t)).drop ((pText p).length + skip) = Lib.join (pText r :: q.map pText) (d :: t) := by
      rw [show (pText p).length + skip = (pText p ++ d :: t).length by simp [hsk], List.drop_left]
    rw [parseP_step acc (by simp [pText_ne]) (by rw [ha, ht]; exact hr.1), ha, ht, hdr, hr.2]
    rw [List.map_cons] at ih
    rw [ih]
    simp
theorem parseP_more {d : UInt8} {skip : Nat} (hsk : 1 ≤ skip) : ∀ (n : Nat) (acc : List Pr) (r : Tx), r.length ≤ n → ∀ m, r.length ≤ m → parseP d skip n acc r = parseP d skip m acc r := by
  intro n
  induction n with
  | zero =>
    intro acc r hn m _
    have : r = [] := List.eq_nil_of_length_eq_zero (by omega)
    subst this
    rw [parseP_nil, parseP_nil]
  | succ n ih =>
    intro acc r hn m hm
    by_cases h0 : r = []
    · subst h0; rw [parseP_nil, parseP_nil]
    · have hp := List.length_pos_iff.2 h0
      cases m with
      | zero => omega
      | succ m =>
        have hl : (r.drop (at_ d r + skip)).length ≤ n := by simp; omega
        have hl2 : (r.drop (at_ d r + skip)).length ≤ m := by simp; omega
        rw [parseP, parseP, if_neg h0, if_neg h0, ih _ _ hl m hl2]
theorem pairs_len {ps : List Pr} {s sign : Tx} (h : Lib.join (ps.map pText) sign = s) : ps.length ≤ s.length := by
  have : ∀ ps : List Pr, ps.length ≤ (Lib.join (ps.map pText) sign).length := by
    intro ps
    induction ps with
    | nil => simp
    | cons p q ih =>
      cases q with
      | nil =>
        have := List.length_pos_iff.2 (pText_ne p)
        rw [List.map_cons, List.map_nil, Lib.join_one]; simp; omega
      | cons r q =>
        have := List.length_pos_iff.2 (pText_ne p)
        rw [List.map_cons, List.map_cons, join_cons2, List.length_append, List.length_append]
        rw [List.map_cons] at ih
        rw [List.length_cons]
        omega
  rw [← h]; exact this ps
end Go.Proofs.YtjlaelkdmgcniaaDoor
