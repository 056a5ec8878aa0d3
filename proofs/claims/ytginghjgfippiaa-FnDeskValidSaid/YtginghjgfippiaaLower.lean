/- LowerText of impl and of spec, and the law's own look 'alive': walks. -/
import Derived.Test.YtginghjgfippiaaText
namespace Go.Proofs.Ytginghjgfippiaa
open Go.RowKit

def lowB (c : UInt8) : UInt8 := if isUp c then c + 32 else c
def lower (l : Tx) : Tx := l.map lowB

/-- a row of bytes with a mark behind its end -/
def MRow (w : World) (g : Nat) (cur : Array Value) : Prop := w.heap[g]? = some (.cells cur 5 (cur.size, cur.size + 1))
theorem MRow.cell {w : World} {g : Nat} {cur : Array Value} (h : MRow w g cur) (j : Nat) : w.cell? ⟨g, j, none⟩ = cur[j]? := cell_of_row w g j cur _ _ h
theorem MRow.free {w : World} {g : Nat} {cur : Array Value} (h : MRow w g cur) (j : Nat) (hj : j < cur.size) : w.frozen? ⟨g, j, none⟩ = false := by
  unfold MRow at h
  simp [World.frozen?, h]
  omega
theorem MRow.set {w : World} {g : Nat} {cur : Array Value} (h : MRow w g cur) (j : Nat) (u : Value) : MRow (w.setCell ⟨g, j, none⟩ u) g (cur.setIfInBounds j u) := by
  unfold MRow at h ⊢
  simp [World.setCell, Array.getElem?_modify, h]

theorem lowB_up {c : UInt8} (h : isUp c = true) : ((lowB c).toNat : Int) = (c.toNat : Int) + 32 := by
  have h' := h
  simp [isUp] at h'
  rw [lowB, if_pos h, UInt8.toNat_add]
  have : (32 : UInt8).toNat = 32 := rfl
  omega
theorem lowB_not {c : UInt8} (h : isUp c = false) : lowB c = c := by rw [lowB, if_neg (by simp [h])]

set_option maxRecDepth 20000 in
set_option maxHeartbeats 1000000 in
theorem impl_LowerText (l : Tx) (hl : l.length ≤ 4294967296) (w : World) :
    Calls Try.prog 27 #[.string ⟨l.toArray⟩] w fun e w' => e = .returned (.string ⟨(lower l).toArray⟩) ∧ Below w.heap.size w w' := by
  have hcv := run_bytes_of_string (P := Try.prog) w 9 22 5 ⟨l.toArray⟩ Try.underlying9 Try.underlying22 Try.underlying5
  have hsz : (⟨l.toArray⟩ : ByteArray).size = l.length := by simp [ByteArray.size]
  rw [hsz] at hcv
  obtain ⟨cap, hcap⟩ : ∃ cap, cap = grownCap w l.length 0 5 := ⟨_, rfl⟩
  rw [← hcap] at hcv
  obtain ⟨M, hM⟩ : ∃ M, M = bytesRow ⟨l.toArray⟩ cap := ⟨_, rfl⟩
  rw [← hM] at hcv
  have HM : Hid (M.size ≥ l.length ∧ ∀ j (hj : j < l.length), M[j]? = some (.int .u8 (l[j].toNat : Int))) := by
    refine ⟨?_, fun j hj => ?_⟩
    · rw [hM]; simp [bytesRow]
    · rw [hM]; simp [bytesRow, Array.getElem?_append, hj]
  clear hM hcap hsz
  go_enter Try.func27, Try.ntmps27
  go_wp2
  go_loopw [10] (fun i wr => ∃ (k : Nat) (cur : Array Value), k ≤ l.length ∧ i = .int .i64 k ∧ MRow wr w.heap.size cur ∧ l.length ≤ cur.size ∧
    (∀ j (hj : j < l.length), cur[j]? = some (.int .u8 (((if j < k then lowB l[j] else l[j]).toNat : Nat) : Int))) ∧ Below w.heap.size w wr) (fun i _ => l.length - (intOf i).toNat)
  case atStart =>
    refine ⟨0, M, Nat.zero_le _, rfl, ?_, HM.out.1, fun j hj => by simpa using HM.out.2 j hj, (Below.refl _ _).drew.alloc (by simp) _⟩
    unfold MRow
    exact heap_alloc_new w.drew _
  case round =>
    obtain ⟨k, cur, hk, rfl, hrow, hcs, hcur, hb⟩ := hrel
    have HB := Lib.hid hb
    have HC := Lib.hid hcur
    have HR := Lib.hid hrow
    by_cases hlt : k < l.length
    · have hx : wr.cell? ⟨w.heap.size, k, none⟩ = some (.int .u8 (l[k].toNat : Int)) := by rw [hrow.cell k, hcur k hlt, if_neg (by omega)]
      have hf := hrow.free k (by omega)
      clear hb hcur hrow
      cases hu : isUp l[k]
      · have HU := Lib.hid hu
        have hu' : (l[k].toNat : Int) < 65 ∨ 90 < (l[k].toNat : Int) := by simp [isUp] at hu; omega
        clear hu
        rcases hu' with hu' | hu'
        all_goals
          go_wp2
          go_roundw
          case rel =>
            refine ⟨k + 1, cur, by omega, by go_num, HR.out, hcs, fun j hj => ?_, HB.out⟩
            rw [HC.out j hj]
            by_cases h1 : j < k
            · rw [if_pos h1, if_pos (by omega)]
            · by_cases h2 : j = k
              · subst h2
                rw [if_neg (by omega), if_pos (by omega), lowB_not HU.out]
              · rw [if_neg h1, if_neg (by omega)]
          case measure => simp [intOf]; omega
      · have HU := Lib.hid hu
        have hu1 : 65 ≤ (l[k].toNat : Int) := by simp [isUp] at hu; omega
        have hu2 : (l[k].toNat : Int) ≤ 90 := by simp [isUp] at hu; omega
        clear hu
        go_wp2
        go_roundw
        case rel =>
          refine ⟨k + 1, _, by omega, by go_num, HR.out.set k _, by simpa using hcs, fun j hj => ?_, HB.out.setCell (Nat.le_refl _) _⟩
          by_cases h2 : j = k
          · subst h2
            rw [Array.getElem?_setIfInBounds, if_pos rfl, if_pos (by omega), if_pos (by omega), lowB_up HU.out]
          · rw [Array.getElem?_setIfInBounds, if_neg (by omega), HC.out j hj]
            by_cases h1 : j < k
            · rw [if_pos h1, if_pos (by omega)]
            · rw [if_neg h1, if_neg (by omega)]
        case measure => simp [intOf]; omega
    · have hkl : k = l.length := by omega
      subst hkl
      have hback := run_convert_bytes_back (P := Try.prog) wr 22 9 5 ⟨w.heap.size, 0, none⟩ cap (lower l) Try.underlying22 Try.underlying5 Try.underlying9 (fun j hj => by
        have hj' : j < l.length := by simpa [lower] using hj
        rw [Addr.add_lit, Nat.zero_add, hrow.cell j, hcur j hj', if_pos hj']
        simp [lower])
      have hll : (lower l).length = l.length := by simp [lower]
      rw [hll] at hback
      clear hb hcur hrow hll
      go_wp2
      go_ret
      exact ⟨rfl, HB.out⟩

set_option maxRecDepth 100000 in
set_option maxHeartbeats 1000000 in
theorem laws_alive (w : World) : Calls Try.prog 11 #[] w fun e w' => e = .returned (.bool true) ∧ Below w.heap.size w w' := by
  have HC := Lib.hid (impl_LowerText [65, 98] (by decide) w)
  go_enter Try.func11, Try.ntmps11
  go_wp2_with fail
  refine HC.out.mono ?_
  rintro e w1 ⟨rfl, hb1⟩
  have HB := Lib.hid hb1
  have e : lower [65, 98] = [97, 98] := by decide
  rw [e]
  clear hb1 e
  go_wp2
  go_ret
  exact ⟨rfl, HB.out⟩

end Go.Proofs.Ytginghjgfippiaa
