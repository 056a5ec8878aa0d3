/- Texts in quotes, read, of spec: a walk. -/
import Derived.Test.YtdmmnjnbjigdeaaDoorNodeRI
namespace Go.Proofs.YtdmmnjnbjigdeaaDoor
open Go.RowKit

/-- what l26Word answers -/
def wdV (s : Tx) : Option (Tx × Tx) → Value
  | some q => .tuple #[sv q.1, .int .i64 ((s.length - q.2.length : Nat) : Int)]
  | none => .tuple #[sv [], .int .i64 (-1)]
/-- what is left lies in the text, behind its beginning -/
theorem rdT_suf : ∀ (s acc : Tx) (p : Tx × Tx), rdT acc s = some p → ∃ k, 0 < k ∧ k ≤ s.length ∧ p.2 = s.drop k
  | [], acc, p, h => by simp [rdT] at h
  | [b], acc, p, h => by
    simp only [rdT] at h
    split at h
    · injection h with h; subst h; exact ⟨1, by decide, by simp, rfl⟩
    · cases h
  | b :: c :: u, acc, p, h => by
    simp only [rdT] at h
    split at h
    · injection h with h; subst h; exact ⟨1, by decide, by simp, rfl⟩
    · split at h
      · obtain ⟨k, h0, h1, h2⟩ := rdT_suf u _ p h; exact ⟨k + 2, by omega, by simp; omega, by rw [h2]; rfl⟩
      · obtain ⟨k, h0, h1, h2⟩ := rdT_suf (c :: u) _ p h; exact ⟨k + 1, by omega, by simp at h1 ⊢; omega, by rw [h2]; rfl⟩
theorem rdQ_suf {s : Tx} {p : Tx × Tx} (h : rdQ s = some p) : ∃ k, 0 < k ∧ k ≤ s.length ∧ p.2 = s.drop k := by
  cases s with
  | nil => simp [rdQ] at h
  | cons b t =>
    simp only [rdQ] at h
    split at h
    · obtain ⟨k, h0, h1, h2⟩ := rdT_suf t _ p h; exact ⟨k + 1, by omega, by simp; omega, by rw [h2]; rfl⟩
    · cases h
set_option maxRecDepth 100000 in
set_option maxHeartbeats 4000000 in
theorem spec_l26Word (s : Tx) (hl : s.length ≤ 4000000) (i : Nat) (hi : i ≤ 4000001) (w : World) :
    Calls Tryd.prog 66 #[.string ⟨s.toArray⟩, .int .i64 i] w fun e w' => e = .returned (wdV s (rdQ (s.drop i))) ∧ w = w' := by
  by_cases hpos : i < s.length
  case neg =>
    have HQ : Hid (rdQ (s.drop i) = none) := by show _ = _; rw [drop_nil s i (by omega)]; rfl
    go_enter Tryd.func66, Tryd.ntmps66
    go_wp2
    refine bodyPost_ret (v := .tuple #[sv [], .int .i64 (-1)]) (by simp [results, Tryd.results66, go_sem, *]) rfl ?_
    rw [HQ.out]
    exact ⟨rfl, rfl⟩
  have hD0 := drop_cons s i hpos
  cases h34 : (s[i] == 34)
  · have HQ : Hid (rdQ (s.drop i) = none) := by show _ = _; rw [hD0, rdQ, h34]; rfl
    have m0 : ((s[i].toNat : Int) != 34) = true := by have : ((s[i].toNat : Int) == 34) = false := byte_neR h34; rw [bne, this]; rfl
    clear hD0 h34
    go_enter Tryd.func66, Tryd.ntmps66
    go_wp2
    refine bodyPost_ret (v := .tuple #[sv [], .int .i64 (-1)]) (by simp [results, Tryd.results66, go_sem, *]) rfl ?_
    rw [HQ.out]
    exact ⟨rfl, rfl⟩
  have HQ : Hid (rdQ (s.drop i) = rdT [] (s.drop (i + 1))) := by show _ = _; rw [hD0, rdQ, h34, if_pos rfl]
  have m0 : ((s[i].toNat : Int) != 34) = false := by have : ((s[i].toNat : Int) == 34) = true := byte_eqR h34; rw [bne, this]; rfl
  clear hD0 h34
  generalize hq : rdQ (s.drop i) = oq at *
  clear hq
  go_enter Tryd.func66, Tryd.ntmps66
  go_wp2
  go_loop [6, 7] (fun o j => ∃ (k : Nat) (acc : Tx), k ≤ s.length ∧ j = .int .i64 k ∧ o = sv acc ∧ acc.length ≤ k ∧ rdT acc (s.drop k) = oq) (fun _ j => s.length - (intOf j).toNat)
  case atStart => exact ⟨i + 1, [], by omega, by go_num, rfl, Nat.zero_le _, HQ.out.symm⟩
  case round =>
    obtain ⟨k, acc, hk, rfl, rfl, hacc, hrc⟩ := hrel
    have HRC := Lib.hid hrc
    clear hrc m0
    by_cases hlt : k < s.length
    · have hD := drop_cons s k hlt
      cases h34 : (s[k] == 34)
      · have m34 : ((s[k].toNat : Int) == 34) = false := byte_neR h34
        cases h92 : (s[k] == 92)
        · have m92 : ((s[k].toNat : Int) == 92) = false := byte_neR h92
          have HE : Hid (rdT acc (s.drop k) = rdT (acc ++ [s[k]]) (s.drop (k + 1))) := by show _ = _; rw [hD, rdT_other _ _ _ h34 h92]
          have HS1 : Hid ((s.take (k + 1)).drop k = [s[k]]) := by show _ = _; rw [List.drop_take, hD, show k + 1 - k = 1 by omega]; rfl
          clear hD h34 h92
          go_wp2
          go_round
          case rel => exact ⟨k + 1, acc ++ [s[k]], by omega, by go_num, by rw [HS1.out], by simp; omega, by rw [← HE.out]; exact HRC.out⟩
          case measure => simp [intOf]; omega
        · have m92 : ((s[k].toNat : Int) == 92) = true := byte_eqR h92
          have hb92 : s[k] = 92 := eq_of_beq h92
          by_cases hlt2 : k + 1 < s.length
          · have hD1 := drop_cons s (k + 1) hlt2
            have HE : Hid (rdT acc (s.drop k) = rdT (acc ++ [s[k + 1]]) (s.drop (k + 2))) := by show _ = _; rw [hD, hb92, hD1, rdT_bs]
            have HS1 : Hid ((s.take (k + 2)).drop (k + 1) = [s[k + 1]]) := by show _ = _; rw [List.drop_take, hD1, show k + 2 - (k + 1) = 1 by omega]; rfl
            have hlt3 : ((k : Int) + 1 < (s.length : Int)) = True := by simp; omega
            clear hD hD1 h34 h92 hb92
            go_wp2
            go_round
            case rel => exact ⟨k + 2, acc ++ [s[k + 1]], by omega, by go_num, by first | rw [HS1.out] | (simp [HS1.out]), by simp; omega, by rw [← HE.out]; exact HRC.out⟩
            case measure => simp [intOf]; omega
          · have hD1 := drop_nil s (k + 1) (by omega)
            have HE : Hid (rdT acc (s.drop k) = rdT (acc ++ [s[k]]) (s.drop (k + 1))) := by show _ = _; rw [hD, hb92, hD1, rdT_bs0]; rfl
            have HS1 : Hid ((s.take (k + 1)).drop k = [s[k]]) := by show _ = _; rw [List.drop_take, hD, show k + 1 - k = 1 by omega]; rfl
            have hlt3 : ((k : Int) + 1 < (s.length : Int)) = False := by simp; omega
            clear hD hD1 h34 h92 hb92
            go_wp2
            go_round
            case rel => exact ⟨k + 1, acc ++ [s[k]], by omega, by go_num, by rw [HS1.out], by simp; omega, by rw [← HE.out]; exact HRC.out⟩
            case measure => simp [intOf]; omega
      · have m34 : ((s[k].toNat : Int) == 34) = true := byte_eqR h34
        have hb34 : s[k] = 34 := eq_of_beq h34
        have HE : Hid (oq = some (acc, s.drop (k + 1))) := by show _ = _; rw [← HRC.out, hD, hb34, rdT_end]
        have HL : Hid (s.length - (s.drop (k + 1)).length = k + 1) := by show _ = _; rw [List.length_drop]; omega
        clear hD h34 hb34
        go_wp2
        refine bodyPost_ret (v := .tuple #[sv acc, .int .i64 ((k + 1 : Nat) : Int)]) (by simp [results, Tryd.results66, go_sem, *]) rfl ?_
        rw [HE.out]
        exact ⟨by show _ = Ending.returned (.tuple #[sv acc, .int .i64 ((s.length - (s.drop (k + 1)).length : Nat) : Int)]); rw [HL.out], rfl⟩
    · have hD := drop_nil s k (by omega)
      have HE : Hid (oq = none) := by show _ = _; rw [← HRC.out, hD]; rfl
      clear hD
      go_wp2
      refine bodyPost_ret (v := .tuple #[sv [], .int .i64 (-1)]) (by simp [results, Tryd.results66, go_sem, *]) rfl ?_
      rw [HE.out]
      exact ⟨rfl, rfl⟩
end Go.Proofs.YtdmmnjnbjigdeaaDoor
