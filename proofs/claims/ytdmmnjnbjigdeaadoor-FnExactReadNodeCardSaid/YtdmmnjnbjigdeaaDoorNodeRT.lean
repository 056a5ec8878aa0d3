/- Texts in quotes, read: impl and spec: walks. -/
import Derived.Test.YtdmmnjnbjigdeaaDoorNodeWP
import Derived.Test.YtdmmnjnbjigdeaaDoorBytes
import Derived.Deep.QuietTactic
import Derived.BigQuiet
import Derived.IntWalk
import Derived.RegionTactic
import Derived.BigRegion
namespace Go.Proofs.YtdmmnjnbjigdeaaDoor
open Go.RowKit

theorem byte_neR {b c : UInt8} (h : (b == c) = false) : ((b.toNat : Int) == (c.toNat : Int)) = false := by
  rw [beq_eq_false_iff_ne] at *
  intro e
  exact h (UInt8.toNat_inj.1 (by omega))
theorem byte_eqR {b c : UInt8} (h : (b == c) = true) : ((b.toNat : Int) == (c.toNat : Int)) = true := by
  have := eq_of_beq h
  subst this
  simp
/-- what readText answers -/
def rdV (s : Tx) : Option (Tx × Tx) → Value
  | some q => .tuple #[sv q.1, sv q.2, .bool true]
  | none => .tuple #[sv [], sv s, .bool false]
set_option maxRecDepth 100000 in
set_option maxHeartbeats 4000000 in
theorem impl_readText (s : Tx) (hl : s.length ≤ 4000000) (w : World) :
    Calls Tryd.prog 62 #[.string ⟨s.toArray⟩] w fun e w' => e = .returned (rdV s (rdQ s)) ∧ Below w.heap.size w w' := by
  by_cases he : s = []
  · subst he
    go_enter Tryd.func62, Tryd.ntmps62
    go_wp2
    go_ret3
    exact ⟨rfl, Below.refl _ _⟩
  have hpos : 0 < s.length := List.length_pos_iff.2 he
  have hemp : (s == []) = false := by simpa using he
  have hD0 := drop_cons s 0 hpos
  rw [List.drop_zero] at hD0
  cases h34 : (s[0] == 34)
  · have HQ : Hid (rdQ s = none) := by show _ = _; rw [hD0, rdQ, h34]; rfl
    have m0 : ((s[0].toNat : Int) != 34) = true := by have : ((s[0].toNat : Int) == 34) = false := byte_neR h34; rw [bne, this]; rfl
    clear hD0 h34
    go_enter Tryd.func62, Tryd.ntmps62
    go_wp2
    go_ret3
    rw [HQ.out]
    exact ⟨rfl, Below.refl _ _⟩
  have HQ : Hid (rdQ s = rdT [] (s.drop 1)) := by show _ = _; rw [hD0, rdQ, h34, if_pos rfl]; rfl
  have m0 : ((s[0].toNat : Int) != 34) = false := by have : ((s[0].toNat : Int) == 34) = true := byte_eqR h34; rw [bne, this]; rfl
  clear hD0 h34
  go_enter Tryd.func62, Tryd.ntmps62
  go_wp2
  clear m0 hemp
  go_loopw [5, 6] (fun v i wr => ∃ (k g c : Nat) (acc : Tx), k ≤ s.length ∧ i = .int .i64 k ∧ acc.length ≤ k ∧ rdT acc (s.drop k) = rdQ s ∧ v = .slice (some ⟨g, 0, none⟩) acc.length c ∧ OwnB wr w.heap.size (some ⟨g, 0, none⟩) c acc ∧ Below w.heap.size w wr) (fun _ i _ => s.length - (intOf i).toNat)
  case atStart => exact ⟨1, _, 0, [], hpos, rfl, by simp, HQ.out.symm, rfl, ownB_empty w w.heap.size (Nat.le_refl _), (Below.refl _ _).alloc (Nat.le_refl _) _⟩
  case round =>
    obtain ⟨k, g, c, acc, hk, rfl, hacc, hrc, rfl, ho, hb⟩ := hrel
    have HB := Lib.hid hb
    have HO := Lib.hid ho
    have HRC := Lib.hid hrc
    have hsz2 := hb.size
    clear ho hrc hb
    by_cases hlt : k < s.length
    · have hD := drop_cons s k hlt
      cases h34 : (s[k] == 34)
      · have m34 : ((s[k].toNat : Int) == 34) = false := byte_neR h34
        cases h92 : (s[k] == 92)
        · have m92 : ((s[k].toNat : Int) == 92) = false := byte_neR h92
          have HE : Hid (rdT acc (s.drop k) = rdT (acc ++ [s[k]]) (s.drop (k + 1))) := by show _ = _; rw [hD, rdT_other _ _ _ h34 h92]
          clear hD h34 h92
          go_wp2_with (at_builtin; refine app_byte rfl _ _ rfl w.heap.size (some ⟨g, 0, none⟩) c _ acc s[k] _ rfl rfl rfl (ownB_keep HO.out (Below.refl _ _)) _ rfl ?_ ?_ ?_ ?_; (focus (first | rfl | simp)); (focus omega); (focus omega); intro g2 c2 w3 ho3 hg3)
          go_roundw
          case rel => exact ⟨k + 1, g2, c2, acc ++ [s[k]], by omega, by go_num, by simp; omega, by rw [← HE.out]; exact HRC.out, by simp, ho3, HB.out.trans (grown_to_below hg3 (by omega) (ownB_row HO.out))⟩
          case measure => simp [intOf]; omega
        · have m92 : ((s[k].toNat : Int) == 92) = true := byte_eqR h92
          have hb92 : s[k] = 92 := eq_of_beq h92
          by_cases hlt2 : k + 1 < s.length
          · have hD1 := drop_cons s (k + 1) hlt2
            have HE : Hid (rdT acc (s.drop k) = rdT (acc ++ [s[k + 1]]) (s.drop (k + 2))) := by show _ = _; rw [hD, hb92, hD1, rdT_bs]
            have hlt3 : ((k : Int) + 1 < (s.length : Int)) = True := by simp; omega
            clear hD hD1 h34 h92 hb92
            go_wp2_with (at_builtin; refine app_byte rfl _ _ rfl w.heap.size (some ⟨g, 0, none⟩) c _ acc s[k + 1] _ rfl rfl rfl (ownB_keep HO.out (Below.refl _ _)) _ rfl ?_ ?_ ?_ ?_; (focus (first | rfl | simp)); (focus omega); (focus omega); intro g2 c2 w3 ho3 hg3)
            go_roundw
            case rel => exact ⟨k + 2, g2, c2, acc ++ [s[k + 1]], by omega, by go_num, by simp; omega, by rw [← HE.out]; exact HRC.out, by simp, ho3, HB.out.trans (grown_to_below hg3 (by omega) (ownB_row HO.out))⟩
            case measure => simp [intOf]; omega
          · have hD1 := drop_nil s (k + 1) (by omega)
            have HE : Hid (rdT acc (s.drop k) = rdT (acc ++ [s[k]]) (s.drop (k + 1))) := by show _ = _; rw [hD, hb92, hD1, rdT_bs0]; rfl
            have hlt3 : ((k : Int) + 1 < (s.length : Int)) = False := by simp; omega
            clear hD hD1 h34 h92 hb92
            go_wp2_with (at_builtin; refine app_byte rfl _ _ rfl w.heap.size (some ⟨g, 0, none⟩) c _ acc s[k] _ rfl rfl rfl (ownB_keep HO.out (Below.refl _ _)) _ rfl ?_ ?_ ?_ ?_; (focus (first | rfl | simp)); (focus omega); (focus omega); intro g2 c2 w3 ho3 hg3)
            go_roundw
            case rel => exact ⟨k + 1, g2, c2, acc ++ [s[k]], by omega, by go_num, by simp; omega, by rw [← HE.out]; exact HRC.out, by simp, ho3, HB.out.trans (grown_to_below hg3 (by omega) (ownB_row HO.out))⟩
            case measure => simp [intOf]; omega
      · have m34 : ((s[k].toNat : Int) == 34) = true := byte_eqR h34
        have hb34 : s[k] = 34 := eq_of_beq h34
        have HE : Hid (rdQ s = some (acc, s.drop (k + 1))) := by show _ = _; rw [← HRC.out, hD, hb34, rdT_end]
        have hcv : (convert 22 9 (.slice (some ⟨g, 0, none⟩) acc.length c)).run Tryd.prog wr.drew = .ok (.string ⟨acc.toArray⟩) wr.drew := bytes_text (ownB_keep HO.out (below_drewN (Below.refl _ wr) 1)) rfl
        clear hD h34 hb34
        go_wp2_with fail
        go_region
        go_wp2
        go_ret3
        rw [HE.out]
        exact ⟨rfl, HB.out.drew⟩
    · have hD := drop_nil s k (by omega)
      have HE : Hid (rdQ s = none) := by show _ = _; rw [← HRC.out, hD]; rfl
      clear hD
      go_wp2
      go_ret3
      rw [HE.out]
      exact ⟨rfl, HB.out⟩
end Go.Proofs.YtdmmnjnbjigdeaaDoor
