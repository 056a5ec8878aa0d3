/- Columns of lines: ColumnOf of impl and of spec: walks. -/
import Derived.Test.YtaofgcdpmeeimaaDoorReadRow
namespace Go.Proofs.YtaofgcdpmeeimaaDoor
open Go.RowKit

def colOk (col : Int) (l : Tx) : Bool := (readRow l).2 && decide (col < (readRow l).1.length)
def colAt (col : Int) (l : Tx) : Tx := (readRow l).1.getD col.toNat []
def colTo (ps : List Tx) (col : Int) (k : Nat) : List Tx := (ps.take k).map (colAt col)
def columnOf (ps : List Tx) (col : Int) : List Tx × Bool := if decide (0 ≤ col) && ps.all (colOk col) then (colTo ps col ps.length, true) else ([], false)
theorem colTo_succ (ps : List Tx) (col : Int) (k : Nat) (h : k < ps.length) : colTo ps col (k + 1) = colTo ps col k ++ [colAt col ps[k]] := by
  unfold colTo
  rw [take_snoc ps k h, List.map_append]
  rfl
theorem colTo_len (ps : List Tx) (col : Int) (k : Nat) : (colTo ps col k).length ≤ ps.length := by
  unfold colTo
  rw [List.length_map, List.length_take]
  omega
theorem columnOf_len (ps : List Tx) (col : Int) {m : Nat} (h : ps.length ≤ m) : (columnOf ps col).1.length ≤ m + 1 := by
  unfold columnOf
  split
  · have := colTo_len ps col ps.length; simp only; omega
  · simp
theorem ssize_at : ∀ (xs : List Tx) (k : Nat) (h : k < xs.length), xs[k].length ≤ ssize xs
  | x :: t, 0, _ => by simp [ssize]
  | x :: t, k + 1, h => by have := ssize_at t k (by simpa using h); simp [ssize]; omega

set_option maxRecDepth 20000 in
set_option maxHeartbeats 2000000 in
theorem impl_ColumnOf (ps : List Tx) (col : Int) (A : Option Addr) (c : Nat) (w : World) (hr : Rd w w.heap.size A (scells ps)) (_ : A = none → c = 0) (_ : FitS ps) (hl : ps.length ≤ maxLen) (hsz : ps.length + ssize ps ≤ 1048576) (hm : Hm w) :
    Calls Tryd.prog 47 #[.slice A ps.length c, .int .i64 col] w (NewSB w (columnOf ps col)) := by
  unfold maxLen at hl
  by_cases hc0 : col < 0
  · have T6 : Hid (columnOf ps col = ([], false)) := by show _ = _; rw [columnOf, decide_eq_false (by omega)]; rfl
    clear hm
    go_enter Tryd.func47, Tryd.ntmps47
    go_wp2
    go_ret2
    rw [T6.out]
    exact ⟨none, 0, rfl, ownS_nil _ _, Below.refl _ _⟩
  · have T6 : Hid (columnOf ps col = if ps.all (colOk col) then (colTo ps col ps.length, true) else ([], false)) := by show _ = _; rw [columnOf, decide_eq_true (by omega), Bool.true_and]
    have HM0 := Lib.hid hm
    clear hm
    obtain ⟨n, rfl⟩ : ∃ n : Nat, col = (n : Int) := ⟨col.toNat, by omega⟩
    clear hc0
    go_enter Tryd.func47, Tryd.ntmps47
    go_wp2
    go_loopw [6, 16] (fun v i wr => ∃ (k : Nat) (A' : Option Addr) (c' : Nat), k ≤ ps.length ∧ i = .int .i64 k ∧ (ps.drop k).all (colOk n) = ps.all (colOk n) ∧ v = .slice A' (colTo ps n k).length c' ∧ OwnS wr w.heap.size A' c' (colTo ps n k) ∧ Below w.heap.size w wr) (fun _ i _ => ps.length - (intOf i).toNat)
    case atStart => exact ⟨0, _, 0, Nat.zero_le _, rfl, rfl, rfl, ownS_empty w w.heap.size (Nat.le_refl _), (Below.refl _ _).alloc (Nat.le_refl _) _⟩
    case round =>
      obtain ⟨k, A', c', hk, rfl, hall, rfl, ho, hb⟩ := hrel
      have HB := Lib.hid hb
      have HALL := Lib.hid hall
      have HO := Lib.hid ho
      clear hall
      have hpl := colTo_len ps n k
      by_cases hlt : k < ps.length
      · obtain ⟨b, o, rfl, hab, hc0⟩ := (hr.below hb).str hlt
        have hsz2 := hb.size
        have hel := ssize_at ps k hlt
        have HS := Lib.hid (colTo_succ ps n k hlt)
        have HC := Lib.hid (fun w hm => impl_ReadRow ps[k] (by unfold maxLen; omega) (by omega) w hm)
        have hrl := readRow_len ps[k] (by omega)
        obtain ⟨⟨row, ok⟩, hrr⟩ : ∃ p, readRow ps[k] = p := ⟨_, rfl⟩
        rw [hrr] at HC hrl
        dsimp only at hrl HC
        generalize colTo ps n k = hp at *
        clear hb ho
        have HMR := Lib.hid (HM0.out.below HB.out)
        have HRR := Lib.hid hrr
        clear hrr
        cases ok with
        | false =>
          have HOK : Hid (colOk n ps[k] = false) := by show _ = _; rw [colOk, HRR.out]; rfl
          go_wp2_with fail
          refine (HC.out _ HMR.out).mono ?_
          rintro e w2 ⟨A2, c2, rfl, ho2, hb2⟩
          have HB2 := Lib.hid (HB.out.trans (hb2.mono hsz2))
          clear hb2 ho2
          dsimp only
          go_wp2
          go_ret2
          rw [T6.out, ← allc_no HALL.out hlt HOK.out]
          exact ⟨none, 0, rfl, ownS_nil _ _, HB2.out⟩
        | true =>
          by_cases hn : n < row.length
          · have HOK : Hid (colOk n ps[k] = true) := by show _ = _; rw [colOk, HRR.out]; simp; exact hn
            have HAT : Hid (colAt n ps[k] = row[n]) := by show _ = _; rw [colAt, HRR.out]; simp [hn]
            have hn1 : (n : Int) < (row.length : Int) := by omega
            go_wp2_with fail
            refine (HC.out _ HMR.out).mono ?_
            rintro e w2 ⟨A2, c2, rfl, ho2, hb2⟩
            have HB2 := Lib.hid (HB.out.trans (hb2.mono hsz2))
            have HO2 := Lib.hid (ownS_keep HO.out hb2)
            have hsz3 := HB2.out.size
            obtain ⟨b2, o2, rfl, hab2, hx0⟩ := (ownS_rd ho2).str hn
            clear hb2 ho2
            dsimp only
            go_wp2_with (at_builtin; refine app_str rfl _ _ rfl w.heap.size A' c' _ hp row[n] rfl rfl (ownS_keep HO2.out (Below.refl _ _)) _ rfl ?_ ?_ ?_ ?_; (focus (first | rfl | simp)); (focus omega); (focus omega); intro A5 c5 w4 ho5 hg5)
            go_roundw
            case rel =>
              refine ⟨k + 1, A5, c5, by omega, by go_num, allc_yes HALL.out hlt HOK.out, by rw [HS.out]; simp, by rw [HS.out, HAT.out]; exact ho5, ?_⟩
              exact HB2.out.trans (grown_to_below hg5 (by omega) (ownS_row HO2.out))
            case measure => simp [intOf]; omega
          · have HOK : Hid (colOk n ps[k] = false) := by show _ = _; rw [colOk, HRR.out]; simp; omega
            have hn1 : (row.length : Int) ≤ (n : Int) := by omega
            go_wp2_with fail
            refine (HC.out _ HMR.out).mono ?_
            rintro e w2 ⟨A2, c2, rfl, ho2, hb2⟩
            have HB2 := Lib.hid (HB.out.trans (hb2.mono hsz2))
            clear hb2 ho2
            dsimp only
            go_wp2
            go_ret2
            rw [T6.out, ← allc_no HALL.out hlt HOK.out]
            exact ⟨none, 0, rfl, ownS_nil _ _, HB2.out⟩
      · have hkn : k = ps.length := by omega
        subst hkn
        have T7 : Hid (columnOf ps n = (colTo ps n ps.length, true)) := by show _ = _; rw [T6.out, ← allc_end HALL.out hlt]; rfl
        clear ho hb
        go_wp2
        go_ret2
        rw [T7.out]
        exact ⟨A', c', rfl, HO.out, HB.out⟩
set_option maxRecDepth 20000 in
set_option maxHeartbeats 2000000 in
theorem spec_ColumnOf (ps : List Tx) (col : Int) (A : Option Addr) (c : Nat) (w : World) (hr : Rd w w.heap.size A (scells ps)) (_ : A = none → c = 0) (_ : FitS ps) (hl : ps.length ≤ maxLen) (hsz : ps.length + ssize ps ≤ 1048576) :
    Calls Tryd.prog 46 #[.slice A ps.length c, .int .i64 col] w (NewSB w (columnOf ps col)) := by
  unfold maxLen at hl
  by_cases hc0 : col < 0
  · have T6 : Hid (columnOf ps col = ([], false)) := by show _ = _; rw [columnOf, decide_eq_false (by omega)]; rfl
    go_enter Tryd.func46, Tryd.ntmps46
    go_wp2
    go_ret2
    rw [T6.out]
    exact ⟨_, 0, rfl, ownS_empty w w.heap.size (Nat.le_refl _), (Below.refl _ _).alloc (Nat.le_refl _) _⟩
  · have T6 : Hid (columnOf ps col = if ps.all (colOk col) then (colTo ps col ps.length, true) else ([], false)) := by show _ = _; rw [columnOf, decide_eq_true (by omega), Bool.true_and]
    obtain ⟨n, rfl⟩ : ∃ n : Nat, col = (n : Int) := ⟨col.toNat, by omega⟩
    clear hc0
    go_enter Tryd.func46, Tryd.ntmps46
    go_wp2
    go_loopw [6, 7] (fun v i wr => ∃ (k : Nat) (A' : Option Addr) (c' : Nat), k ≤ ps.length ∧ i = .int .i64 k ∧ (ps.drop k).all (colOk n) = ps.all (colOk n) ∧ v = .slice A' (colTo ps n k).length c' ∧ OwnS wr w.heap.size A' c' (colTo ps n k) ∧ Below w.heap.size w wr) (fun _ i _ => ps.length - (intOf i).toNat)
    case atStart => exact ⟨0, _, 0, Nat.zero_le _, rfl, rfl, rfl, ownS_empty w w.heap.size (Nat.le_refl _), (Below.refl _ _).alloc (Nat.le_refl _) _⟩
    case round =>
      obtain ⟨k, A', c', hk, rfl, hall, rfl, ho, hb⟩ := hrel
      have HB := Lib.hid hb
      have HALL := Lib.hid hall
      have HO := Lib.hid ho
      clear hall
      have hpl := colTo_len ps n k
      by_cases hlt : k < ps.length
      · obtain ⟨b, o, rfl, hab, hc0⟩ := (hr.below hb).str hlt
        have hsz2 := hb.size
        have hel := ssize_at ps k hlt
        have HS := Lib.hid (colTo_succ ps n k hlt)
        have HC := Lib.hid (fun w => spec_ReadRow ps[k] (by unfold maxLen; omega) (by omega) w)
        have hrl := readRow_len ps[k] (by omega)
        obtain ⟨⟨row, ok⟩, hrr⟩ : ∃ p, readRow ps[k] = p := ⟨_, rfl⟩
        rw [hrr] at HC hrl
        dsimp only at hrl HC
        generalize colTo ps n k = hp at *
        clear hb ho
        have HRR := Lib.hid hrr
        clear hrr
        cases ok with
        | false =>
          have HOK : Hid (colOk n ps[k] = false) := by show _ = _; rw [colOk, HRR.out]; rfl
          go_wp2_with fail
          refine (HC.out _).mono ?_
          rintro e w2 ⟨A2, c2, rfl, ho2, hb2⟩
          have HB2 := Lib.hid (HB.out.trans (hb2.mono hsz2))
          clear hb2 ho2
          dsimp only
          go_wp2
          go_ret2
          rw [T6.out, ← allc_no HALL.out hlt HOK.out]
          exact ⟨_, 0, rfl, ownS_empty _ w.heap.size HB2.out.size, HB2.out.alloc HB2.out.size _⟩
        | true =>
          by_cases hn : n < row.length
          · have HOK : Hid (colOk n ps[k] = true) := by show _ = _; rw [colOk, HRR.out]; simp; exact hn
            have HAT : Hid (colAt n ps[k] = row[n]) := by show _ = _; rw [colAt, HRR.out]; simp [hn]
            have hn1 : (n : Int) ≤ (row.length : Int) - 1 := by omega
            have hn0 : (0 : Int) ≤ (n : Int) := by omega
            go_wp2_with fail
            refine (HC.out _).mono ?_
            rintro e w2 ⟨A2, c2, rfl, ho2, hb2⟩
            have HB2 := Lib.hid (HB.out.trans (hb2.mono hsz2))
            have HO2 := Lib.hid (ownS_keep HO.out hb2)
            have hsz3 := HB2.out.size
            obtain ⟨b2, o2, rfl, hab2, hx0⟩ := (ownS_rd ho2).str hn
            clear hb2 ho2
            dsimp only
            go_wp2_with (first | (go_at_call 81; refine (spec_l1In _ _ _ _).mono ?_; rintro e w' ⟨rfl, rfl⟩) | (at_builtin; refine app_str rfl _ _ rfl w.heap.size A' c' _ hp row[n] rfl rfl (ownS_keep HO2.out (Below.refl _ _)) _ rfl ?_ ?_ ?_ ?_; (focus (first | rfl | simp)); (focus omega); (focus omega); intro A5 c5 w4 ho5 hg5))
            go_roundw
            case rel =>
              refine ⟨k + 1, A5, c5, by omega, by go_num, allc_yes HALL.out hlt HOK.out, by rw [HS.out]; simp, by rw [HS.out, HAT.out]; exact ho5, ?_⟩
              exact HB2.out.trans (grown_to_below hg5 (by omega) (ownS_row HO2.out))
            case measure => simp [intOf]; omega
          · have HOK : Hid (colOk n ps[k] = false) := by show _ = _; rw [colOk, HRR.out]; simp; omega
            have hn1 : ((n : Int) ≤ (row.length : Int) - 1) = False := by rw [eq_iff_iff, iff_false]; omega
            have hn3 : ((n : Int) < (row.length : Int)) = False := by rw [eq_iff_iff, iff_false]; omega
            have hn4 : (row.length : Int) ≤ (n : Int) := by omega
            have hn0 : (0 : Int) ≤ (n : Int) := by omega
            go_wp2_with fail
            refine (HC.out _).mono ?_
            rintro e w2 ⟨A2, c2, rfl, ho2, hb2⟩
            have HB2 := Lib.hid (HB.out.trans (hb2.mono hsz2))
            clear hb2 ho2
            dsimp only
            go_wp2_with (go_at_call 81; refine (spec_l1In _ _ _ _).mono ?_; rintro e w' ⟨rfl, rfl⟩)
            go_ret2
            rw [T6.out, ← allc_no HALL.out hlt HOK.out]
            exact ⟨_, 0, rfl, ownS_empty _ w.heap.size HB2.out.size, HB2.out.alloc HB2.out.size _⟩
      · have hkn : k = ps.length := by omega
        subst hkn
        have T7 : Hid (columnOf ps n = (colTo ps n ps.length, true)) := by show _ = _; rw [T6.out, ← allc_end HALL.out hlt]; rfl
        clear ho hb
        go_wp2
        go_ret2
        rw [T7.out]
        exact ⟨A', c', rfl, HO.out, HB.out⟩
end Go.Proofs.YtaofgcdpmeeimaaDoor
