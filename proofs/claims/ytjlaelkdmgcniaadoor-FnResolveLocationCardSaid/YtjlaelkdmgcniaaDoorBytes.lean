/- Bytes that the call itself has made; LowerText of the reference: walks. -/
import Derived.Test.YtjlaelkdmgcniaaDoorLower
namespace Go.Proofs.YtjlaelkdmgcniaaDoor
open Go.RowKit

abbrev bvals (l : Tx) : List Value := l.map fun b => .int .u8 (b.toNat : Int)
theorem Tryd.info_uint8 : (Tryd.prog.info? 5).map (fun i => (i.zero, i.size, i.bytes)) = some (some (.int .u8 0), 1, 1) := by kernel_rfl
/-- bytes in a row of the call's own -/
def OwnB (w : World) (base : Nat) (A : Option Addr) (c : Nat) (l : Tx) : Prop := w.ownsRow base 5 1 (.slice A l.length c) l.length (bvals l)
theorem ownB_empty (w : World) (base : Nat) (h : base ≤ w.heap.size) : OwnB (w.alloc (.cells #[] 5)) base (some ⟨w.heap.size, 0, none⟩) 0 [] := World.ownsRow_lit w #[] 0 h (by simp [maxLen]) rfl
theorem ownB_keep {w w' : World} {base c : Nat} {A : Option Addr} {l : Tx} (h : OwnB w base A c l) (hb : Below w.heap.size w w') : OwnB w' base A c l := own_below h hb
theorem ownB_row {w : World} {base c : Nat} {A : Option Addr} {l : Tx} (h : OwnB w base A c l) : ∀ g, Value.ownBlock (.slice A l.length c) = some g → base ≤ g := fun g hg => (h.lt g hg).1
theorem app_byte {ops : Array Oper} {rest : List Oper} {o : Oper} {a : Act} {Q : Exit → Act → World → Prop} {W : World} (hgd : o.guard = none) (s x : Operand)
    (ho : o.op = .call { callee := .builtin .append, args := #[s, x], argTypes := #[22, 22] }) (base : Nat) (A : Option Addr) (c n : Nat) (l : Tx) (d : UInt8) (z : Int) (hz : z = (d.toNat : Int))
    (hs : a.eval s = .slice A n c) (hn : n = l.length) (hown : OwnB W base A c l) (g : Nat) (hx : a.eval x = .slice (some ⟨g, 0, none⟩) 1 1) (hg : g = W.heap.size) (hlen : l.length ≤ 4294967296) (hbase : base ≤ W.heap.size)
    (h : ∀ g' c' w', OwnB w' base (some ⟨g', 0, none⟩) c' (l ++ [d]) → W.grownBy w' (Value.ownBlock (.slice A l.length c)) → wpList Tryd.prog ops Q rest (a.put o.dst (.slice (some ⟨g', 0, none⟩) (l.length + 1) c')) w') :
    wpList Tryd.prog ops Q (o :: rest) a (W.alloc (.cells #[.int .u8 z] 5)) := by
  subst hn
  subst hg
  subst hz
  obtain ⟨i0, hi, hz0, hz1, hz2⟩ := info_parts Tryd.info_uint8
  refine wpList_append_own _ hgd s x _ ho base _ i0 _ 1 1 Tryd.underlying22 hi hz0 hz1 hz2 rfl (by decide) _ _ _ hs (World.ownsRow.alloc hown _) ⟨W.heap.size, 0, none⟩ 1 1 [.int .u8 (d.toNat : Int)] hx rfl ?_ ?_ (by unfold maxLen; omega) (by omega) (by simp; omega) ?_
  · intro j u hj
    have h1 : (W.alloc (.cells #[.int .u8 (d.toNat : Int)] 5)).cell? ⟨W.heap.size, j, none⟩ = #[Value.int .u8 (d.toNat : Int)][j]? := World.cell?_alloc_at _ _ _ _ rfl
    rw [Addr.add_lit, Nat.zero_add, h1]
    simpa using hj
  · intro u hu
    simp at hu
    subst hu
    rfl
  · intro v' w' ho' hg' _
    obtain ⟨A', c', rfl, _, _⟩ := own_shape ho'
    obtain ⟨g', rfl, _, _⟩ := own_some ho' (by omega)
    refine h g' c' w' ?_ (grown_trans (World.grownBy_alloc W _ _) hg')
    unfold OwnB
    rw [List.length_append, bvals, List.map_append]
    exact ho'
/-- the text of bytes -/
theorem bytes_text {w : World} {base c g n : Nat} {l : Tx} (h : OwnB w base (some ⟨g, 0, none⟩) c l) (hn : n = l.length) :
    (convert 22 9 (.slice (some ⟨g, 0, none⟩) n c)).run Tryd.prog w = .ok (.string ⟨l.toArray⟩) w := by
  subst hn
  refine run_convert_bytes_back w 22 9 5 ⟨g, 0, none⟩ c l Tryd.underlying22 Tryd.underlying5 Tryd.underlying9 ?_
  intro j hj
  have := h.cellAt (g := g) (n := l.length) j (by simpa using hj)
  rw [Addr.add_lit, Nat.zero_add, this]
  simp [hj]

theorem lower_succ (l : Tx) (k : Nat) (h : k < l.length) : lower (l.take (k + 1)) = lower (l.take k) ++ [lowB l[k]] := by
  unfold lower
  rw [take_snoc l k h, List.map_append]
  rfl
theorem lower_take_len (l : Tx) (k : Nat) (h : k ≤ l.length) : (lower (l.take k)).length = k := by
  unfold lower
  rw [List.length_map, List.length_take]
  omega
theorem lower_len (l : Tx) : (lower l).length = l.length := by simp [lower]

end Go.Proofs.YtjlaelkdmgcniaaDoor
