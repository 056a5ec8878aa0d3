/- strconv.Atoi, by what the reader of nodes wants of it. No function of the program is walked here. -/
import Derived.Test.YtdmmnjnbjigdeaaDoorNodeRI
namespace Go.Proofs.YtdmmnjnbjigdeaaDoor
open Go.RowKit
theorem atoi_hit {s : Tx} {n : Int} (hs : s.length ≤ 18) (h : Lib.atoi s = some n) (w : World) : Calls Tryd.prog 65 #[.string ⟨s.toArray⟩] w fun e w' => e = .returned (.tuple #[.int .i64 n, .nilIface]) ∧ Below w.heap.size w w' := by
  refine (Tryd.strconv_Atoi ⟨s.toArray⟩ n (by simpa [ByteArray.size] using hs) h w).mono ?_
  rintro e w' ⟨rfl, t, rfl⟩
  exact ⟨rfl, Joins.below_bytesWorld _ _ _ _ (Nat.le_refl _)⟩
theorem atoi_miss {s : Tx} (hs : s.length ≤ 18) (h : Lib.atoi s = none) (w : World) (hR : ErrIs w) : Calls Tryd.prog 65 #[.string ⟨s.toArray⟩] w fun e w' => ∃ N, e = .returned (.tuple #[.int .i64 0, .iface 99 (.pointer (some ⟨N, 0, none⟩))]) ∧ Below w.heap.size w w' := by
  obtain ⟨te, pe, hv⟩ := hR
  refine (Tryd.strconv_Atoi_err ⟨s.toArray⟩ (by simpa [ByteArray.size] using hs) h _ w hv (.inr ⟨te, pe, rfl⟩)).mono ?_
  rintro e w' ⟨N, rfl, _, _, hb⟩
  exact ⟨N, rfl, hb⟩
end Go.Proofs.YtdmmnjnbjigdeaaDoor
