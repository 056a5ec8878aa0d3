/- A strings.Builder of the call's own, at texts: by the shelf's contracts. -/
import Derived.Test.YtjlaelkdmgcniaaDoorBase
import Derived.Test.YtjlaelkdmgcniaaDoorShelf
import Derived.Test.YtjlaelkdmgcniaaDoorShelfB
namespace Go.Proofs.YtjlaelkdmgcniaaDoor
open Go.RowKit

/-- a builder of the call's own that holds a text -/
def Bld (B b : Nat) (acc : Tx) (w : World) : Prop := Lib.IsBuilder 76 5 B b (Lib.byteCells acc) w

theorem bld_byte (B b : Nat) (acc : Tx) (c : UInt8) (w : World) (h : Bld B b acc w) (hlen : acc.length ≤ 68719476736) (hBw : B ≤ w.heap.size) :
    Calls Tryd.prog 81 #[.pointer (some ⟨b, 0, none⟩), .int .u8 (c.toNat : Int)] w fun e w' => e = .returned .nilIface ∧ Bld B b (acc ++ [c]) w' ∧ Below B w w' := by
  refine (Any.Builder_WriteByte Tryd.laysB167 Tryd.Builder_ExtraB167 B b (Lib.byteCells acc) (c.toNat : Int) w h (by rw [Lib.byteCells_length]; omega) hBw).mono fun e w' ⟨h1, h2, h3⟩ => ⟨h1, ?_, h3⟩
  unfold Bld
  rw [Lib.byteCells_append]
  exact .inr h2
theorem bld_string (B b : Nat) (acc : Tx) (w : World) (h : Bld B b acc w) (hBw : B ≤ w.heap.size) :
    Calls Tryd.prog 60 #[.pointer (some ⟨b, 0, none⟩)] w fun e w' => e = .returned (.string ⟨acc.toArray⟩) ∧ Below B w w' :=
  Any.Builder_String_any Tryd.lays169 Tryd.Builder_Extra_169 B b acc w h hBw
end Go.Proofs.YtjlaelkdmgcniaaDoor
