/- strings.Join at texts: by the shelf's contract. -/
import Derived.Test.YtjlaelkdmgcniaaDoorStrs
import Derived.Test.YtjlaelkdmgcniaaDoorShelf
namespace Go.Proofs.YtjlaelkdmgcniaaDoor
open Go.RowKit

theorem rd_str {w : World} {B : Nat} {A : Option Addr} {xs : List Tx} (h : Rd w B A (xs.map sv)) {k : Nat} (hk : k < xs.length) : ∃ b o, A = some ⟨b, o, none⟩ ∧ b < B ∧ w.cell? ⟨b, o + k, none⟩ = some (sv xs[k]) := by
  have hne : xs.map sv ≠ [] := by
    intro e
    have := congrArg List.length e
    simp at this
    subst this
    simp at hk
  obtain ⟨b, o, e, hb, hc⟩ := h hne
  exact ⟨b, o, e, hb, hc _ _ (by simp [hk])⟩
theorem data_list (l : Tx) : (⟨l.toArray⟩ : ByteArray).data.toList = l := rfl
theorem data_lists (xs : List Tx) : ((xs.map fun x => (⟨x.toArray⟩ : ByteArray)).map fun x => x.data.toList) = xs := by
  rw [List.map_map]
  exact List.map_id _

theorem join_tx (xs : List Tx) (sep : Tx) (A : Option Addr) (c : Nat) (w : World) (hr : Rd w w.heap.size A (xs.map sv)) (hn : xs.length ≤ 4294967296) (hc : xs.length ≤ c) (hlen : (Lib.join xs sep).length ≤ 140737488355328) :
    Calls Tryd.prog 42 #[.slice A xs.length c, .string ⟨sep.toArray⟩] w fun e w' => e = .returned (.string ⟨(Lib.join xs sep).toArray⟩) ∧ Below w.heap.size w w' := by
  cases xs with
  | nil => exact (Tryd.strings_Join_none A c ⟨sep.toArray⟩ w).mono fun e w' ⟨he, hw⟩ => ⟨he, hw ▸ Below.refl _ _⟩
  | cons x r =>
    obtain ⟨b, o, rfl, hb, _⟩ := rd_str hr (k := 0) (by simp)
    have h := Tryd.strings_Join b o c ((x :: r).map fun y => (⟨y.toArray⟩ : ByteArray)) ⟨sep.toArray⟩ w (fun j y hy => by
      rw [List.getElem?_map] at hy
      obtain ⟨z, hz, rfl⟩ := Option.map_eq_some_iff.1 hy
      have hj : j < (x :: r).length := (List.getElem?_eq_some_iff.1 hz).1
      obtain ⟨b', o', e, _, h2⟩ := rd_str hr hj
      simp only [Option.some.injEq, Addr.mk.injEq, and_true] at e
      obtain ⟨rfl, rfl⟩ := e
      rw [h2]
      have : (x :: r)[j] = z := (List.getElem?_eq_some_iff.1 hz).2
      rw [this]) hb (by rw [List.length_map]; omega) (by rw [List.length_map]; exact hc) (by rw [data_lists, data_list]; exact hlen)
    rw [data_lists, data_list, List.length_map] at h
    exact h
end Go.Proofs.YtjlaelkdmgcniaaDoor
