/- EscapePart of spec: its walk. -/
import Derived.Test.YtjlaelkdmgcniaaDoorEscP
import Derived.Test.YtjlaelkdmgcniaaDoorText
import Derived.Deep.QuietTactic
import Derived.BigQuiet
namespace Go.Proofs.YtjlaelkdmgcniaaDoor
open Go.RowKit

set_option maxRecDepth 100000 in
set_option maxHeartbeats 400000 in
theorem spec_l1Letter (c : UInt8) (w : World) :
    Calls Tryd.prog 68 #[.int .u8 (c.toNat : Int)] w fun e w' => e = .returned (.bool (isLet c)) ∧ w = w' := by
  go_enter Tryd.func68, Tryd.ntmps68
  go_wp2
  all_goals (go_ret; refine ⟨ret_bool ?_, rfl⟩; simp [isLet, isLow, isUp, *]; try omega)

set_option maxRecDepth 100000 in
set_option maxHeartbeats 400000 in
theorem spec_l3Plain (c : UInt8) (w : World) :
    Calls Tryd.prog 48 #[.int .u8 (c.toNat : Int)] w fun e w' => e = .returned (.bool (plainByte c)) ∧ w = w' := by
  have HL := Lib.hid (fun w => spec_l1Letter c w)
  have HG := Lib.hid (fun w => spec_l1Digit c w)
  have T6 : Hid (plainByte c = (isLet c || isDig c || decide ((c.toNat : Int) = 45) || decide ((c.toNat : Int) = 95) || decide ((c.toNat : Int) = 46) || decide ((c.toNat : Int) = 126))) := rfl
  cases hl : isLet c <;> cases hg : isDig c
  all_goals
    have HLL := Lib.hid hl
    have HGG := Lib.hid hg
    clear hl hg
    go_enter Tryd.func48, Tryd.ntmps48
    go_wp2_with (first | (go_at_call 68; refine (HL.out _).mono ?_; rintro e w' ⟨rfl, rfl⟩; rw [HLL.out]) | (go_at_call 53; refine (HG.out _).mono ?_; rintro e w' ⟨rfl, rfl⟩; rw [HGG.out]))
    all_goals (go_ret; refine ⟨ret_bool ?_, rfl⟩; rw [T6.out, HLL.out, HGG.out]; first | (simp [*]; done) | (rw [Bool.eq_iff_iff]; simp; done) | (rw [Bool.eq_iff_iff]; simp; omega))

theorem hexs_cut (k : Nat) (h : k < 16) : List.drop k (48 :: List.take k [49, 50, 51, 52, 53, 54, 55, 56, 57, 65, 66, 67, 68, 69, 70]) = [hexD k] := by
  have := hexs_one k h
  simpa [hexs] using this
set_option maxRecDepth 100000 in
set_option maxHeartbeats 1000000 in
theorem spec_l3Hex (c : UInt8) (w : World) :
    Calls Tryd.prog 69 #[.int .u8 (c.toNat : Int)] w fun e w' => e = .returned (.string ⟨(hex3 c).toArray⟩) ∧ Below w.heap.size w w' := by
  have h1 := byte_div c
  have h2 := byte_mod c
  have HX := Lib.hid (And.intro (hexs_cut _ h1) (hexs_cut _ h2))
  go_enter Tryd.func69, Tryd.ntmps69
  go_wp2_with (go_quiet (fail))
  go_ret
  refine ⟨ret_str ?_, below_drewN (Below.refl _ _) _⟩
  rw [HX.out.1, HX.out.2]
  rfl

set_option maxRecDepth 100000 in
set_option maxHeartbeats 1000000 in
theorem spec_EscapePart (l : Tx) (hl : l.length ≤ 1073741824) (w : World) :
    Calls Tryd.prog 72 #[.string ⟨l.toArray⟩] w fun e w' => e = .returned (.string ⟨(escPart l).toArray⟩) ∧ Below w.heap.size w w' := by
  go_enter Tryd.func72, Tryd.ntmps72
  go_wp2
  go_loopw [3, 4] (fun v i wr => ∃ k : Nat, k ≤ l.length ∧ i = .int .i64 k ∧ v = .string ⟨(escPart (l.take k)).toArray⟩ ∧ Below w.heap.size w wr) (fun _ i _ => l.length - (intOf i).toNat)
  case atStart => exact ⟨0, Nat.zero_le _, rfl, rfl, Below.refl _ _⟩
  case round =>
    obtain ⟨k, hk, rfl, rfl, hb⟩ := hrel
    have HB := Lib.hid hb
    by_cases hlt : k < l.length
    · have HP := Lib.hid (fun w => spec_l3Plain l[k] w)
      have HH := Lib.hid (fun w => spec_l3Hex l[k] w)
      have HS := Lib.hid (escPart_succ l k hlt)
      have hlen := escPart_take l k
      have hlen2 := escPart_take l (k + 1)
      rw [HS.out, List.length_append] at hlen2
      generalize escPart (l.take k) = acc at *
      clear hb
      cases hp : plainByte l[k]
      · have HPP := Lib.hid hp
        have HE : Hid (escByte l[k] = hex3 l[k]) := by show _ = _; rw [escByte, hp]; rfl
        have h3 : (hex3 l[k]).length = 3 := rfl
        rw [HE.out] at hlen2
        clear hp
        go_wp2_with (first | (go_at_call 48; refine (HP.out _).mono ?_; rintro e w' ⟨rfl, rfl⟩; rw [HPP.out]))
        refine (HH.out _).mono ?_
        rintro e w2 ⟨rfl, hb2⟩
        have HB2 := Lib.hid (HB.out.trans (hb2.mono HB.out.size))
        clear hb2
        go_wp2
        go_roundw
        case rel => exact ⟨k + 1, by omega, by go_num, by rw [HS.out, HE.out], HB2.out⟩
        case measure => simp [intOf]; omega
      · have HPP := Lib.hid hp
        have HE : Hid (escByte l[k] = [l[k]]) := by show _ = _; rw [escByte, hp]; rfl
        have HT : Hid ((l.take (k + 1)).drop k = [l[k]]) := by show _ = _; rw [take_snoc l k hlt, List.drop_append_of_le_length (by rw [List.length_take]; omega), List.drop_eq_nil_of_le (by rw [List.length_take]; omega)]; rfl
        rw [HE.out] at hlen2
        clear hp
        go_wp2_with (first | (go_at_call 48; refine (HP.out _).mono ?_; rintro e w' ⟨rfl, rfl⟩; rw [HPP.out]))
        go_roundw
        case rel => exact ⟨k + 1, by omega, by go_num, by rw [HS.out, HE.out]; simp [HT.out], HB.out⟩
        case measure => simp [intOf]; omega
    · have hkn : k = l.length := by omega
      subst hkn
      go_wp2
      go_ret
      first | exact ⟨rfl, hb⟩ | (rw [List.take_length]; exact ⟨rfl, hb⟩)
end Go.Proofs.YtjlaelkdmgcniaaDoor
