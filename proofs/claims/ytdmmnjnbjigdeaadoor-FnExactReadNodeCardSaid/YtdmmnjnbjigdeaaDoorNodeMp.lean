/- A map's literal of several entries, and its range: laws of runs. No function of the program is walked here. -/
import Derived.Test.YtdmmnjnbjigdeaaDoorNodeRI
import Derived.Carry
import Derived.WideMake
import Derived.Maps.RangeRun
namespace Go.Proofs.YtdmmnjnbjigdeaaDoor
open Go.RowKit
open Go.ChangeMaps (setBlock)

theorem run_insert_new {P : Program} (w : World) (mty kt et : TypeId) (r clock : Nat) (es : Array MapEntry) (s : ByteArray) (val : Value) (hm : P.underlying mty = some (.map kt et)) (hk : P.underlying kt = some .string)
    (hf : Instr.findNow .string (.string s) es.toList 0 = some none) (hb : w.heap[r]? = some (.map es clock)) :
    (Instr.mapUpdate mty (.map (some r)) (.string s) val).run P w = .ok () (setBlock w r (.map (es.push { key := .string s, val := val, born := clock }) (clock + 1))) := by
  have hc : (Instr.checkKey false 10000 kt (.string s)).run P w = .ok () w := MapKept.run_checkKey (k := .string s) hk (by simp [MapKept.IsKey]) false 9999
  simp [Instr.mapUpdate, run_underlying hm, MapKept.run_getObj_map hb, hc, MapKept.run_findKey hk hf, MapKept.run_setObj_map _ hb, Result.andThen, setBlock]
theorem setBlock_at {w : World} {r : Nat} {o o' : Obj} (hb : w.heap[r]? = some o) : (setBlock w r o').heap[r]? = some o' := (MapKept.heap_set hb).1
theorem setBlock_else {w : World} {r j : Nat} {o o' : Obj} (hb : w.heap[r]? = some o) (h : j ≠ r) : (setBlock w r o').heap[j]? = w.heap[j]? := (MapKept.heap_set hb).2 j h

/-- the entry of a word -/
def went (k : Tx) (kd nn : Int) (b : Nat) : MapEntry := { key := sv k, val := ndV kd nn [] none 0 0 none 0 0, born := b }
def wents : Array MapEntry := #[went wNull 1 0 0, went wTrue 2 1 1, went wFalse 2 0 2]
theorem find0 : Instr.findNow .string (.string ⟨wNull.toArray⟩) (#[] : Array MapEntry).toList 0 = some none := rfl
theorem find1 : Instr.findNow .string (.string ⟨wTrue.toArray⟩) (#[went wNull 1 0 0] : Array MapEntry).toList 0 = some none := by rfl
theorem find2 : Instr.findNow .string (.string ⟨wFalse.toArray⟩) (#[went wNull 1 0 0, went wTrue 2 1 1] : Array MapEntry).toList 0 = some none := by rfl
theorem below_setBlock {base r : Nat} {w w' : World} (h : Below base w w') {o : Obj} (o' : Obj) (hb : w'.heap[r]? = some o) (hr : base ≤ r) : Below base w (setBlock w' r o') :=
  h.trans ⟨rfl, rfl, rfl, by simp [setBlock], fun k hk => setBlock_else hb (by omega)⟩
theorem wents_born : ∀ x ∈ wents.toList, x.born < 3 := by simp [wents, went]
theorem wents_nodup : (wents.toList.map (·.born)).Nodup := by simp [wents, went]
theorem wents_cases {e : MapEntry} (h : e ∈ wents.toList) : e = went wNull 1 0 0 ∨ e = went wTrue 2 1 1 ∨ e = went wFalse 2 0 2 := by simpa [wents] using h
/-- an entry that is new, laid into a map: the world behind it by name -/
theorem ins_word (w : World) (r clock : Nat) (es : Array MapEntry) (s : ByteArray) (val : Value) (hf : Instr.findNow .string (.string s) es.toList 0 = some none) (hb : w.heap[r]? = some (.map es clock)) :
    ∃ W1, (Instr.mapUpdate 71 (.map (some r)) (.string s) val).run Tryd.prog w = .ok () W1 ∧ W1.heap[r]? = some (.map (es.push { key := .string s, val := val, born := clock }) (clock + 1)) ∧
      (∀ j, j ≠ r → W1.heap[j]? = w.heap[j]?) ∧ W1.heap.size = w.heap.size ∧ ∀ base, base ≤ r → Below base w W1 :=
  ⟨_, run_insert_new w _ _ _ r clock es s val Tryd.underlying71 Tryd.underlying9 hf hb, setBlock_at hb, fun j hj => setBlock_else hb hj, by simp [setBlock], fun base h => below_setBlock (Below.refl _ _) _ hb h⟩
theorem pre_head {s k : Tx} (h : Lib.hasPrefix s k = true) : ∀ (b : UInt8) (u : Tx), k = b :: u → ∃ t, s = b :: t := by
  rintro b u rfl
  cases s with
  | nil => simp [Lib.hasPrefix] at h
  | cons c t =>
    simp [Lib.hasPrefix, List.isPrefixOf] at h
    exact ⟨t, by rw [h.1]⟩
theorem pre_off {s k : Tx} (h : Lib.hasPrefix s k = true) : Lib.trimPrefix s k = s.drop k.length := by
  unfold Lib.trimPrefix
  first | rw [if_pos h] | simp [h]
/-- an entry's word ahead of the text: what the reader answers -/
theorem rd_word (d : Nat) (s : Tx) {e : MapEntry} (h : e ∈ wents.toList) : ∃ k kd nn b, e = went k kd nn b ∧ k.length ≤ 5 ∧ (Lib.hasPrefix s k = true → rdI (d + 1) s = some (.mk kd nn [] [] [], s.drop k.length) ∧ Lib.trimPrefix s k = s.drop k.length) := by
  rcases wents_cases h with rfl | rfl | rfl
  · refine ⟨wNull, 1, 0, 0, rfl, by decide, fun hp => ⟨?_, pre_off hp⟩⟩
    obtain ⟨t, rfl⟩ := pre_head hp _ _ rfl
    rw [rdI_cons, if_pos hp]; rfl
  · refine ⟨wTrue, 2, 1, 1, rfl, by decide, fun hp => ⟨?_, pre_off hp⟩⟩
    obtain ⟨t, rfl⟩ := pre_head hp _ _ rfl
    rw [rdI_cons, if_neg (by simp [Lib.hasPrefix, wNull, List.isPrefixOf]), if_pos hp]; rfl
  · refine ⟨wFalse, 2, 0, 2, rfl, by decide, fun hp => ⟨?_, pre_off hp⟩⟩
    obtain ⟨t, rfl⟩ := pre_head hp _ _ rfl
    rw [rdI_cons, if_neg (by simp [Lib.hasPrefix, wNull, List.isPrefixOf]), if_neg (by simp [Lib.hasPrefix, wTrue, List.isPrefixOf]), if_pos hp]; rfl
end Go.Proofs.YtdmmnjnbjigdeaaDoor
