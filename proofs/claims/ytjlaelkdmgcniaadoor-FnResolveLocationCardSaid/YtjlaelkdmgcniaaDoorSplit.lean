/- strings.Split at texts: by the shelf's contract; two rows of the call's own of different types. -/
import Derived.Test.YtjlaelkdmgcniaaDoorHm
import Derived.Test.YtjlaelkdmgcniaaDoorSplitP
import Derived.Test.YtjlaelkdmgcniaaDoorStrs
namespace Go.Proofs.YtjlaelkdmgcniaaDoor
open Go.RowKit

theorem split_tx (l sep : Tx) (hs : sep ≠ []) (hl : l.length ≤ 1048576) (w : World) (hm : Hm w) :
    Calls Tryd.prog 18 #[.string ⟨l.toArray⟩, .string ⟨sep.toArray⟩] w (NewS w (Lib.split l sep)) := by
  obtain ⟨m, hm⟩ := hm
  have e1 : (ByteArray.mk l.toArray).size = l.length := by show l.toArray.size = _; simp
  have e2 : (ByteArray.mk sep.toArray).size = sep.length := by show sep.toArray.size = _; simp
  have hp := List.length_pos_iff.2 hs
  have hc : Lib.countB ⟨l.toArray⟩ ⟨sep.toArray⟩ ≤ (ByteArray.mk l.toArray).size := Lib.countB_le ⟨sep.toArray⟩ (by omega) _ _ (Nat.le_refl _)
  refine (Tryd.strings_Split ⟨l.toArray⟩ ⟨sep.toArray⟩ m w (by omega) hm (by omega)).mono ?_
  rintro e w' ⟨rfl, rfl⟩
  have hd : (Lib.splitB ⟨sep.toArray⟩ 0 (Lib.countB ⟨l.toArray⟩ ⟨sep.toArray⟩) ⟨l.toArray⟩).map (·.data.toList) = Lib.split l sep := Lib.splitB_data _ _ _ _
  have hn := Lib.splitB_all ⟨sep.toArray⟩ (by omega) 0 _ ⟨l.toArray⟩ rfl
  generalize Lib.splitB ⟨sep.toArray⟩ 0 (Lib.countB ⟨l.toArray⟩ ⟨sep.toArray⟩) ⟨l.toArray⟩ = xs at *
  have hv : xs.map Value.string = (Lib.split l sep).map sv := by
    rw [← hd, List.map_map]
    refine List.map_congr_left fun x _ => ?_
    simp
  have hlen : (Lib.split l sep).length = xs.length := by rw [← hd, List.length_map]
  generalize Lib.countB ⟨l.toArray⟩ ⟨sep.toArray⟩ = n at *
  rw [hv]
  have hln : (Lib.split l sep).length = n + 1 := by omega
  refine ⟨some ⟨w.heap.size, 0, none⟩, n + 1, by rw [hln], ?_, (Below.refl _ _).alloc (Nat.le_refl _) _⟩
  unfold OwnS
  rw [hln]
  have := World.ownsRow_lit (e := 9) w (((Lib.split l sep).map sv).toArray) (size := 1) (n + 1) (Nat.le_refl _) (by unfold maxLen; omega) (by simp [hln])
  simpa using this

/-- rows of different types lie in different blocks -/
theorem own_types {w : World} {b1 b2 s1 s2 n1 n2 : Nat} {e1 e2 : TypeId} {v1 v2 : Value} {x1 x2 : List Value} (h1 : w.ownsRow b1 e1 s1 v1 n1 x1) (h2 : w.ownsRow b2 e2 s2 v2 n2 x2) (he : e1 ≠ e2) : v1.ownBlock = none ∨ v1.ownBlock ≠ v2.ownBlock := by
  rcases h1.2 with ⟨rfl, _⟩ | ⟨g, cap, cur, rfl, _, hg, _⟩
  · exact .inl rfl
  · right
    rcases h2.2 with ⟨rfl, _⟩ | ⟨g', cap', cur', rfl, _, hg', _⟩
    · simp [Value.ownBlock]
    · intro e
      have e' : g = g' := by simpa [Value.ownBlock] using e
      subst e'
      rw [hg] at hg'
      injection hg' with h
      injection h with _ h2 _
      exact he h2
end Go.Proofs.YtjlaelkdmgcniaaDoor
