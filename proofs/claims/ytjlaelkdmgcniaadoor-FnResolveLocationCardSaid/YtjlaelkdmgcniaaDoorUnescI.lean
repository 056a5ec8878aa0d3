/- UnescapePart of impl: a walk. -/
import Derived.Test.YtjlaelkdmgcniaaDoorUnescP
import Derived.Test.YtjlaelkdmgcniaaDoorEscI
import Derived.Test.YtjlaelkdmgcniaaDoorBytes
import Derived.Deep.QuietTactic
import Derived.BigQuiet
import Derived.IntWalk
namespace Go.Proofs.YtjlaelkdmgcniaaDoor
open Go.RowKit

abbrev unV (r : Option Tx) : Value := .tuple #[.string ⟨(r.getD []).toArray⟩, .bool r.isSome]
theorem ix_yes (b : UInt8) (h : hexV b < 16) (w : World) :
    Calls Tryd.prog 73 #[.string ⟨#[48, 49, 50, 51, 52, 53, 54, 55, 56, 57, 65, 66, 67, 68, 69, 70]⟩, .int .u8 (b.toNat : Int)] w fun e w' => e = .returned (.int .i64 (hexV b : Int)) ∧ w' = w := by
  refine (Tryd.strings_IndexByte ⟨hexs.toArray⟩ (b.toNat : Int) w).mono fun e w' ⟨h1, h2⟩ => ⟨?_, h2⟩
  rw [h1]
  refine ret_int ?_
  rw [show (⟨hexs.toArray⟩ : ByteArray).data.toList = hexs from rfl, show ((b.toNat : Int).toNat.toUInt8) = b by simp, index_at b hexs]
  exact if_pos h
theorem ix_no (b : UInt8) (h : ¬ hexV b < 16) (w : World) :
    Calls Tryd.prog 73 #[.string ⟨#[48, 49, 50, 51, 52, 53, 54, 55, 56, 57, 65, 66, 67, 68, 69, 70]⟩, .int .u8 (b.toNat : Int)] w fun e w' => e = .returned (.int .i64 (-1)) ∧ w' = w := by
  refine (Tryd.strings_IndexByte ⟨hexs.toArray⟩ (b.toNat : Int) w).mono fun e w' ⟨h1, h2⟩ => ⟨?_, h2⟩
  rw [h1]
  refine ret_int ?_
  rw [show (⟨hexs.toArray⟩ : ByteArray).data.toList = hexs from rfl, show ((b.toNat : Int).toNat.toUInt8) = b by simp, index_at b hexs]
  exact if_neg h

set_option maxRecDepth 100000 in
set_option maxHeartbeats 2000000 in
theorem impl_UnescapePart (l : Tx) (hl : l.length ≤ 1048576) (w : World) :
    Calls Tryd.prog 54 #[.string ⟨l.toArray⟩] w fun e w' => e = .returned (unV (unesc l)) ∧ Below w.heap.size w w' := by
  go_enter Tryd.func54, Tryd.ntmps54
  go_wp2
  go_loopw [4, 5] (fun v i wr => ∃ (k g c : Nat) (acc : Tx), k ≤ l.length ∧ i = .int .i64 k ∧ acc.length ≤ k ∧ rawA acc (l.drop k) = rawA [] l ∧ v = .slice (some ⟨g, 0, none⟩) acc.length c ∧ OwnB wr w.heap.size (some ⟨g, 0, none⟩) c acc ∧ Below w.heap.size w wr) (fun _ i _ => l.length - (intOf i).toNat)
  case atStart => exact ⟨0, _, 0, [], Nat.zero_le _, rfl, by simp, rfl, rfl, ownB_empty w w.heap.size (Nat.le_refl _), (Below.refl _ _).alloc (Nat.le_refl _) _⟩
  case round =>
    obtain ⟨k, g, c, acc, hk, rfl, hacc, hrc, rfl, ho, hb⟩ := hrel
    have HB := Lib.hid hb
    have HO := Lib.hid ho
    have HRC := Lib.hid hrc
    have hsz2 := hb.size
    clear ho hrc hb
    by_cases hlt : k < l.length
    · have hD := drop_cons l k hlt
      by_cases h37 : (l[k] == 37) = true
      · have hz : (l[k].toNat : Int) = 37 := by have : l[k] = 37 := by simpa using h37
                                                rw [this]; rfl
        have hz2 : ((l[k].toNat : Int) != 37) = false := by rw [hz]; rfl
        have hb37 : l[k] = 37 := by simpa using h37
        rw [hb37] at hD
        clear h37 hz hb37
        by_cases hlt2 : k + 2 < l.length
        · have hD1 := drop_cons l (k + 1) (by omega)
          have hD2 := drop_cons l (k + 2) hlt2
          rw [hD1, hD2] at hD
          have hw1 : IntKind.i64.wrap ((k : Int) + 1) = (k : Int) + 1 := IntWalk.i64_in _ (by omega)
          have hw2 : IntKind.i64.wrap ((k : Int) + 2) = (k : Int) + 2 := IntWalk.i64_in _ (by omega)
          have p0 : (0 : Int) ≤ (k : Int) + 1 := by omega
          have p1 : (0 : Int) ≤ (k : Int) + 2 := by omega
          have p2 : ((k : Int) + 1).toNat = k + 1 := by omega
          have p3 : ((k : Int) + 2).toNat = k + 2 := by omega
          have hlt1 : k + 1 < l.length := by omega
          have q1 : (k : Int) + 1 < (l.length : Int) := by omega
          have q2 : (k : Int) + 2 < (l.length : Int) := by omega
          by_cases hd : hexV l[k + 1] < 16
          · by_cases he : hexV l[k + 2] < 16
            · have hh : (isHex l[k + 1] && isHex l[k + 2]) = true := by simp [isHex, hd, he]
              have HE : Hid (rawA acc (l.drop k) = rawA (acc ++ [val3 l[k + 1] l[k + 2]]) (l.drop (k + 3))) := by show _ = _; rw [hD, rawA_hex _ _ _ _ hh]
              have HXd := Lib.hid (ix_yes l[k + 1] hd)
              have HXe := Lib.hid (ix_yes l[k + 2] he)
              obtain ⟨hv, hvn⟩ := val3_lt hh
              generalize val3 l[k + 1] l[k + 2] = x at *
              clear hD hD1 hD2 hh
              generalize hexV l[k + 1] = m at *
              generalize hexV l[k + 2] = n at *
              go_wp2
              go_quiet ((go_at_call 73; first | exact Calls.quiet_of_same (HXd.out _) | exact Calls.quiet_of_same (HXe.out _)))
              clear hw1 hw2
              go_wp2_with (at_builtin; refine app_byte rfl _ _ rfl w.heap.size (some ⟨g, 0, none⟩) c _ acc x _ (by omega) rfl rfl (ownB_keep HO.out (below_drewN (Below.refl _ _) _)) _ rfl ?_ ?_ ?_ ?_; (focus (first | rfl | simp)); (focus omega); (focus (simp; omega)); intro g2 c2 w3 ho3 hg3)
              go_roundw
              case rel => exact ⟨k + 3, g2, c2, acc ++ [x], by omega, by go_num, by simp; omega, by rw [← HE.out]; exact HRC.out, by simp, ho3, (below_drewN HB.out _).trans (grown_to_below hg3 (by simp; omega) (ownB_row HO.out))⟩
              case measure => simp [intOf]; omega
            · have hh : (isHex l[k + 1] && isHex l[k + 2]) = false := by simp [isHex, he]
              have HE : Hid (rawA acc (l.drop k) = none) := by show _ = _; rw [hD, rawA_bad _ _ _ _ hh]
              have HRN : Hid (unesc l = none) := by show _ = _; rw [unesc_raw, ← HRC.out, HE.out]; rfl
              have HXd := Lib.hid (ix_yes l[k + 1] hd)
              have HXe := Lib.hid (ix_no l[k + 2] he)
              clear hD hD1 hD2 hh
              generalize hexV l[k + 1] = m at *
              clear he
              go_wp2
              go_quiet ((go_at_call 73; first | exact Calls.quiet_of_same (HXd.out _) | exact Calls.quiet_of_same (HXe.out _)))
              clear hw1 hw2
              go_wp2
              go_ret2
              rw [HRN.out]
              exact ⟨rfl, below_drewN HB.out _⟩
          · have hh : (isHex l[k + 1] && isHex l[k + 2]) = false := by simp [isHex, hd]
            have HE : Hid (rawA acc (l.drop k) = none) := by show _ = _; rw [hD, rawA_bad _ _ _ _ hh]
            have HRN : Hid (unesc l = none) := by show _ = _; rw [unesc_raw, ← HRC.out, HE.out]; rfl
            have HXd := Lib.hid (ix_no l[k + 1] hd)
            obtain ⟨z, HXe⟩ : ∃ z : Int, Hid (∀ w, Calls Tryd.prog 73 #[.string ⟨#[48, 49, 50, 51, 52, 53, 54, 55, 56, 57, 65, 66, 67, 68, 69, 70]⟩, .int .u8 (l[k + 2].toNat : Int)] w fun e w' => e = .returned (.int .i64 z) ∧ w' = w) := by
              by_cases he : hexV l[k + 2] < 16
              · exact ⟨_, ix_yes _ he⟩
              · exact ⟨_, ix_no _ he⟩
            clear hD hD1 hD2 hh
            clear hd
            go_wp2
            go_quiet ((go_at_call 73; first | exact Calls.quiet_of_same (HXd.out _) | exact Calls.quiet_of_same (HXe.out _)))
            clear hw1 hw2
            go_wp2
            go_ret2
            rw [HRN.out]
            exact ⟨rfl, below_drewN HB.out _⟩
        · have HE : Hid (rawA acc (l.drop k) = none) := by show _ = _; rw [hD, rawA_short _ _ (by simp; omega)]
          have HRN : Hid (unesc l = none) := by show _ = _; rw [unesc_raw, ← HRC.out, HE.out]; rfl
          clear hD
          go_wp2
          go_ret2
          rw [HRN.out]
          exact ⟨rfl, HB.out⟩
      · have hb37 : (l[k] == 37) = false := by simpa using h37
        have HE : Hid (rawA acc (l.drop k) = rawA (acc ++ [l[k]]) (l.drop (k + 1))) := by show _ = _; rw [hD, rawA_no _ _ hb37]
        have b1 : ((l[k].toNat : Int) != 37) = true := by
          simp
          intro e
          exact h37 (by have h2 : l[k] = 37 := UInt8.toNat_inj.1 (by have : ((37 : UInt8).toNat) = 37 := rfl; omega)
                        rw [h2]; rfl)
        clear hD hb37 h37
        go_wp2_with (at_builtin; refine app_byte rfl _ _ rfl w.heap.size (some ⟨g, 0, none⟩) c _ acc l[k] _ rfl rfl rfl (ownB_keep HO.out (Below.refl _ _)) _ rfl ?_ ?_ ?_ ?_; (focus (first | rfl | simp)); (focus omega); (focus omega); intro g2 c2 w3 ho3 hg3)
        go_roundw
        case rel => exact ⟨k + 1, g2, c2, acc ++ [l[k]], by omega, by go_num, by simp; omega, by rw [← HE.out]; exact HRC.out, by simp, ho3, HB.out.trans (grown_to_below hg3 (by omega) (ownB_row HO.out))⟩
        case measure => simp [intOf]; omega
    · have hD : l.drop k = [] := drop_nil l k (by omega)
      have HE : Hid (rawA [] l = some acc) := by show _ = _; rw [← HRC.out, hD]; simp [rawA]
      have hcv := bytes_text HO.out rfl
      have hex : Hid (unesc l = if escPart acc == l then some acc else none) := by show _ = _; rw [unesc_raw, HE.out]; rfl
      have HP := Lib.hid (impl_EscapePart acc (by omega))
      clear hD
      cases hq : (escPart acc == l)
      · have hn : (escPart acc != l) = true := by rw [bne, hq]; rfl
        rw [hq] at hex
        generalize escPart acc = y at *
        go_wp2_with (go_at_call 57; refine (HP.out _).mono ?_; rintro e w2 ⟨rfl, hb2⟩; have HB2 := Lib.hid hb2; clear hb2)
        go_ret2
        rw [hex.out]
        exact ⟨rfl, HB.out.trans (HB2.out.mono HB.out.size)⟩
      · have hn : (escPart acc != l) = false := by rw [bne, hq]; rfl
        rw [hq] at hex
        generalize escPart acc = y at *
        go_wp2_with (go_at_call 57; refine (HP.out _).mono ?_; rintro e w2 ⟨rfl, hb2⟩; have HB2 := Lib.hid hb2; have hcv2 := bytes_text (ownB_keep HO.out hb2) rfl; clear hb2)
        go_ret2
        rw [hex.out]
        exact ⟨rfl, HB.out.trans (HB2.out.mono HB.out.size)⟩
end Go.Proofs.YtjlaelkdmgcniaaDoor
