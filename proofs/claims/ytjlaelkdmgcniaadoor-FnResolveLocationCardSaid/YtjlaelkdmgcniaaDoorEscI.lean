/- EscapePart of impl: its walk. -/
import Derived.Test.YtjlaelkdmgcniaaDoorEscP
import Derived.Test.YtjlaelkdmgcniaaDoorText
import Derived.Test.YtjlaelkdmgcniaaDoorBuild
import Derived.Deep.QuietTactic
import Derived.BigQuiet
namespace Go.Proofs.YtjlaelkdmgcniaaDoor
open Go.RowKit

def hasB (keep : Tx) (c : UInt8) : Bool := keep.any fun d => d == c
def pctByte (keep : Tx) (c : UInt8) : Tx := if isLet c || isDig c || hasB keep c then [c] else hex3 c
def pctText (keep l : Tx) : Tx := l.flatMap (pctByte keep)
theorem pctText_succ (keep l : Tx) (k : Nat) (h : k < l.length) : pctText keep (l.take (k + 1)) = pctText keep (l.take k) ++ pctByte keep l[k] := by
  unfold pctText
  rw [List.take_add_one, List.getElem?_eq_getElem h, List.flatMap_append]
  simp
theorem pctByte_len (keep : Tx) (c : UInt8) : (pctByte keep c).length ≤ 3 := by unfold pctByte hex3; split <;> simp
theorem pctText_len (keep : Tx) : ∀ l : Tx, (pctText keep l).length ≤ 3 * l.length
  | [] => by simp [pctText]
  | c :: t => by
    have h1 := pctByte_len keep c
    have h2 := pctText_len keep t
    unfold pctText at *
    rw [List.flatMap_cons, List.length_append, List.length_cons]
    omega
theorem pctText_take (keep l : Tx) (k : Nat) : (pctText keep (l.take k)).length ≤ 3 * l.length := by
  have h := pctText_len keep (l.take k)
  have h2 : (l.take k).length ≤ l.length := by rw [List.length_take]; omega
  omega
theorem byte_eq (c d : UInt8) : (c == d) = decide ((c.toNat : Int) = d.toNat) := by
  rw [Bool.eq_iff_iff]
  simp only [beq_iff_eq, decide_eq_true_eq]
  constructor
  · rintro rfl; rfl
  · intro h; exact UInt8.toNat_inj.1 (by omega)
theorem pct_esc (l : Tx) : pctText [45, 95, 46, 126] l = escPart l := by
  unfold pctText escPart
  congr 1
  funext c
  unfold pctByte escByte plainByte hasB
  have : (List.any [45, 95, 46, 126] fun d => d == c) = (decide ((c.toNat : Int) = 45) || decide ((c.toNat : Int) = 95) || decide ((c.toNat : Int) = 46) || decide ((c.toNat : Int) = 126)) := by
    simp only [List.any_cons, List.any_nil, Bool.or_false, byte_eq]
    rw [Bool.eq_iff_iff]
    simp
    omega
  rw [this]
  simp only [Bool.or_assoc]

section
variable {keep : Tx} {c : UInt8} {k : Nat} {r : Bool}
theorem has_step (h : ((keep.drop k).any fun d => d == c) = r) (hk : k < keep.length) : ((keep[k] == c) || (keep.drop (k + 1)).any fun d => d == c) = r := by
  rw [drop_cons keep k hk, List.any_cons] at h; exact h
end

set_option maxRecDepth 100000 in
set_option maxHeartbeats 400000 in
theorem impl_isLetter (c : UInt8) (w : World) :
    Calls Tryd.prog 25 #[.int .u8 (c.toNat : Int)] w fun e w' => e = .returned (.bool (isLet c)) ∧ w = w' := by
  go_enter Tryd.func25, Tryd.ntmps25
  go_wp2
  all_goals (go_ret; refine ⟨ret_bool ?_, rfl⟩; simp [isLet, isLow, isUp, *]; try omega)

set_option maxRecDepth 100000 in
set_option maxHeartbeats 400000 in
theorem impl_hasByte (keep : Tx) (c : UInt8) (hl : keep.length ≤ maxLen) (w : World) :
    Calls Tryd.prog 27 #[.string ⟨keep.toArray⟩, .int .u8 (c.toNat : Int)] w fun e w' => e = .returned (.bool (hasB keep c)) ∧ w = w' := by
  unfold maxLen at hl
  have T6 : Hid (hasB keep c = keep.any fun d => d == c) := rfl
  go_enter Tryd.func27, Tryd.ntmps27
  go_wp2
  go_loop [5] (fun i => ∃ k : Nat, k ≤ keep.length ∧ i = .int .i64 k ∧ ((keep.drop k).any fun d => d == c) = keep.any fun d => d == c) (fun i => keep.length - (intOf i).toNat)
  case atStart => exact ⟨0, Nat.zero_le _, rfl, rfl⟩
  case round =>
    obtain ⟨k, hk, rfl, hall⟩ := hrel
    by_cases hlt : k < keep.length
    · have H := Lib.hid (has_step hall hlt)
      have HE := Lib.hid (byte_eq keep[k] c)
      clear hall
      by_cases he : (keep[k].toNat : Int) = c.toNat
      · go_wp2
        go_ret
        refine ⟨ret_bool ?_, rfl⟩
        rw [T6.out, ← H.out, HE.out, decide_eq_true he, Bool.true_or]
      · go_wp2
        go_round
        case rel =>
          refine ⟨k + 1, by omega, by go_num, ?_⟩
          have := H.out
          rwa [HE.out, decide_eq_false he, Bool.false_or] at this
        case measure => simp [intOf]; omega
    · go_wp2
      go_ret
      refine ⟨ret_bool ?_, rfl⟩
      rw [T6.out, ← hall, drop_nil _ _ (by omega)]
      rfl
set_option maxRecDepth 100000 in
set_option maxHeartbeats 4000000 in
theorem impl_percent (l keep : Tx) (hl : l.length ≤ 1073741824) (hk0 : keep.length ≤ maxLen) (w : World) :
    Calls Tryd.prog 75 #[.string ⟨l.toArray⟩, .string ⟨keep.toArray⟩] w fun e w' => e = .returned (.string ⟨(pctText keep l).toArray⟩) ∧ Below w.heap.size w w' := by
  have HK := Lib.hid (fun c w => impl_hasByte keep c hk0 w)
  clear hk0
  go_enter Tryd.func75, Tryd.ntmps75
  go_wp2
  go_loopw [6] (fun i wr => ∃ k : Nat, k ≤ l.length ∧ i = .int .i64 k ∧ Bld w.heap.size w.heap.size (pctText keep (l.take k)) wr ∧ Below w.heap.size w wr) (fun i _ => l.length - (intOf i).toNat)
  case atStart =>
    refine ⟨0, Nat.zero_le _, rfl, ?_, (Below.refl _ _).alloc (Nat.le_refl _) _⟩
    exact .inl ⟨Nat.le_refl _, _, heap_alloc_new w _, World.ownsRow_nil _ _ _ _, by simp [Value.ownBlock]⟩
  case round =>
    obtain ⟨k, hk, rfl, ho, hb⟩ := hrel
    have HB := Lib.hid hb
    have HO := Lib.hid ho
    have hsz := hb.size
    clear hb ho
    by_cases hlt : k < l.length
    · have HS := Lib.hid (pctText_succ keep l k hlt)
      have hlen := pctText_take keep l k
      have hlen2 := pctText_take keep l (k + 1)
      rw [HS.out, List.length_append] at hlen2
      generalize pctText keep (l.take k) = acc at *
      have HP := Lib.hid (fun w => impl_isLetter l[k] w)
      have HD := Lib.hid (fun w => impl_isDigit l[k] w)
      have HC : Hid (pctByte keep l[k] = if isLet l[k] || isDig l[k] || hasB keep l[k] then [l[k]] else hex3 l[k]) := rfl
      cases h0 : (isLet l[k] || isDig l[k] || hasB keep l[k])
      · have HE : Hid (pctByte keep l[k] = hex3 l[k]) := by show _ = _; rw [HC.out, h0]; rfl
        have h3 : (hex3 l[k]).length = 3 := rfl
        rw [HE.out, h3] at hlen2
        have HX := Lib.hid (And.intro (byte_div l[k]) (byte_mod l[k]))
        simp only [Bool.or_eq_false_iff] at h0
        have H1 := Lib.hid h0.1.1
        have H2 := Lib.hid h0.1.2
        have H3 := Lib.hid h0.2
        clear h0
        go_wp2_with (first | (go_at_call 25; refine (HP.out _).mono ?_; rintro e w' ⟨rfl, rfl⟩; rw [H1.out]) | (go_at_call 26; refine (HD.out _).mono ?_; rintro e w' ⟨rfl, rfl⟩; rw [H2.out]) | (go_at_call 27; refine (HK.out _ _).mono ?_; rintro e w' ⟨rfl, rfl⟩; rw [H3.out]))
        refine (bld_byte _ _ acc 37 _ HO.out (by omega) HB.out.size).mono ?_
        rintro e w2 ⟨rfl, ho2, hb2⟩
        have HB2 := Lib.hid (HB.out.trans hb2)
        have HO2 := Lib.hid ho2
        clear hb2 ho2
        have hq1 : l[k].toNat / 16 < 16 := HX.out.1
        have hq2 : (l[k].toNat : Int) / 16 < 16 := by omega
        have hq3 : l[k].toNat % 16 < 16 := HX.out.2
        have hq4 : (l[k].toNat : Int) % 16 < 16 := by omega
        go_wp2_with fail
        refine (bld_byte _ _ (acc ++ [37]) _ _ HO2.out (by simp; omega) HB2.out.size).mono ?_
        rintro e w3 ⟨rfl, ho3, hb3⟩
        have HB3 := Lib.hid (HB2.out.trans hb3)
        have HO3 := Lib.hid ho3
        clear hb3 ho3
        go_wp2_with fail
        refine (bld_byte _ _ _ _ _ HO3.out (by simp; omega) HB3.out.size).mono ?_
        rintro e w4 ⟨rfl, ho4, hb4⟩
        have HB4 := Lib.hid (HB3.out.trans hb4)
        have HO4 := Lib.hid ho4
        clear hb4 ho4
        go_wp2
        go_roundw
        (case rel =>
          refine ⟨k + 1, by omega, by go_num, ?_, HB4.out⟩
          have h := HO4.out
          have e1 := hexs_get (l[k].toNat / 16) hq1
          have e2 := hexs_get (l[k].toNat % 16) hq3
          unfold hexs at e1 e2
          rw [e1, e2] at h
          rw [HS.out, HE.out, hex3]
          simpa using h)
        (case measure => simp [intOf]; omega)
      · have HE : Hid (pctByte keep l[k] = [l[k]]) := by show _ = _; rw [HC.out, h0]; rfl
        have h3 : ([l[k]] : Tx).length = 1 := rfl
        rw [HE.out, h3] at hlen2
        cases h1 : isLet l[k] <;> cases h2 : isDig l[k] <;> cases h3 : hasB keep l[k]
        · rw [h1, h2, h3] at h0; cases h0
        all_goals
          have H1 := Lib.hid h1
          have H2 := Lib.hid h2
          have H3 := Lib.hid h3
          clear h0 h1 h2 h3
          go_wp2_with (first | (go_at_call 25; refine (HP.out _).mono ?_; rintro e w' ⟨rfl, rfl⟩; rw [H1.out]) | (go_at_call 26; refine (HD.out _).mono ?_; rintro e w' ⟨rfl, rfl⟩; rw [H2.out]) | (go_at_call 27; refine (HK.out _ _).mono ?_; rintro e w' ⟨rfl, rfl⟩; rw [H3.out]))
          refine (bld_byte _ _ acc l[k] _ HO.out (by omega) HB.out.size).mono ?_
          rintro e w2 ⟨rfl, ho2, hb2⟩
          have HB2 := Lib.hid (HB.out.trans hb2)
          have HO2 := Lib.hid ho2
          clear hb2 ho2
          go_wp2
          go_roundw
          (case rel => exact ⟨k + 1, by omega, by go_num, by rw [HS.out, HE.out]; exact HO2.out, HB2.out⟩)
          (case measure => simp [intOf]; omega)
    · have hkn : k = l.length := by omega
      subst hkn
      rw [List.take_length] at HO
      go_wp2_with fail
      refine (bld_string _ _ _ _ HO.out HB.out.size).mono ?_
      rintro e w2 ⟨rfl, hb2⟩
      have HB2 := Lib.hid (HB.out.trans hb2)
      clear hb2
      go_wp2
      go_ret
      exact ⟨rfl, HB2.out⟩
set_option maxRecDepth 100000 in
set_option maxHeartbeats 1000000 in
theorem impl_EscapePart (l : Tx) (hl : l.length ≤ 1073741824) (w : World) :
    Calls Tryd.prog 57 #[.string ⟨l.toArray⟩] w fun e w' => e = .returned (.string ⟨(escPart l).toArray⟩) ∧ Below w.heap.size w w' := by
  have HP := Lib.hid (fun w => impl_percent l [45, 95, 46, 126] hl (by simp [maxLen]) w)
  clear hl
  go_enter Tryd.func57, Tryd.ntmps57
  go_wp2_with fail
  refine (HP.out _).mono ?_
  rw [pct_esc]
  rintro e w2 ⟨rfl, hb2⟩
  have HB2 := Lib.hid hb2
  clear hb2
  go_wp2
  go_ret
  exact ⟨rfl, HB2.out⟩
end Go.Proofs.YtjlaelkdmgcniaaDoor
