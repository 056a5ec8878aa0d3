/- Headers: HeadOf of impl and of spec: walks. -/
import Derived.Test.YtaipignkkbknfaaPairS
import Derived.Test.YtaipignkkbknfaaOpen
import Derived.Test.YtaipignkkbknfaaJoin
import Derived.Deep.QuietTactic
import Derived.BigQuiet
namespace Go.Proofs.Ytaipignkkbknfaa
open Go.RowKit

def comma : Tx := [44, 32]
def headParts (ps : List Pr) (n : Tx) (k : Nat) : List Tx := ((ps.take k).filter fun p => p.1 == n).map fun p => p.2
def headText (ps : List Pr) (n : Tx) : Tx := Lib.join (headParts ps n ps.length) comma

theorem headParts_succ (ps : List Pr) (n : Tx) (k : Nat) (h : k < ps.length) : headParts ps n (k + 1) = headParts ps n k ++ (if ps[k].1 == n then [ps[k].2] else []) := by
  unfold headParts
  rw [take_snoc ps k h, List.filter_append, List.map_append]
  congr 1
  by_cases hh : (ps[k].1 == n) = true <;> simp [hh]
theorem sum_filter (n : Tx) : ∀ ps : List Pr, ((((ps.filter fun p => p.1 == n).map fun p => p.2)).map (fun x => x.length + comma.length)).sum ≤ psize ps + 2 * ps.length
  | [] => by simp [psize]
  | p :: t => by
    have := sum_filter n t
    rw [List.filter_cons]
    have hc : comma.length = 2 := rfl
    simp only [hc] at this ⊢
    split
    · simp only [List.map_cons, List.sum_cons, psize, List.length_cons]; omega
    · simp only [psize, List.length_cons]; omega
theorem psize_take (ps : List Pr) : ∀ k, psize (ps.take k) ≤ psize ps := by
  induction ps with
  | nil => intro k; simp [psize]
  | cons p t ih =>
    intro k
    cases k with
    | zero => simp [psize]
    | succ k => have := ih k; simp only [List.take_succ_cons, psize]; omega
theorem head_len (ps : List Pr) (n : Tx) (k : Nat) {m : Nat} (h : psize ps + 2 * ps.length ≤ m) : (Lib.join (headParts ps n k) comma).length ≤ m := by
  refine join_len _ comma (psize ps + 2 * ps.length) m (Nat.le_trans (sum_filter n (ps.take k)) ?_) h
  have := psize_take ps k
  have h2 : (ps.take k).length ≤ ps.length := by rw [List.length_take]; omega
  omega
theorem headParts_len (ps : List Pr) (n : Tx) (k : Nat) : (headParts ps n k).length ≤ ps.length := by
  unfold headParts
  rw [List.length_map]
  exact Nat.le_trans (List.length_filter_le _ _) (by rw [List.length_take]; omega)

set_option maxHeartbeats 2000000 in
theorem impl_HeadOf (ps : List Pr) (n : Tx) (A : Option Addr) (c : Nat) (w : World) (hr : Rd w w.heap.size A (pcells ps)) (hsz : psize ps + 2 * ps.length ≤ 4194304) (hn : n.length ≤ maxLen) :
    Calls Try.prog 30 #[.slice A ps.length c, .string ⟨n.toArray⟩] w fun e w' => e = .returned (.tuple #[.string ⟨(headText ps n).toArray⟩, .bool (decide (0 < (headParts ps n ps.length).length))]) ∧ Below w.heap.size w w' := by
  have HT : Hid (headText ps n = Lib.join (headParts ps n ps.length) comma) := rfl
  have HN := Lib.hid hn
  clear hn
  go_enter Try.func30, Try.ntmps30
  go_wp2
  go_loopw [6, 12] (fun v i wr => ∃ (k : Nat) (A' : Option Addr) (c' : Nat), k ≤ ps.length ∧ i = .int .i64 k ∧ v = .slice A' (headParts ps n k).length c' ∧ OwnS wr w.heap.size A' c' (headParts ps n k) ∧ Below w.heap.size w wr) (fun _ i _ => ps.length - (intOf i).toNat)
  case atStart => exact ⟨0, _, 0, Nat.zero_le _, rfl, rfl, ownS_empty w w.heap.size (Nat.le_refl _), (Below.refl _ _).alloc (Nat.le_refl _) _⟩
  case round =>
    obtain ⟨k, A', c', hk, rfl, rfl, ho, hb⟩ := hrel
    have HB := Lib.hid hb
    have hpl := headParts_len ps n k
    by_cases hlt : k < ps.length
    · obtain ⟨b, o, rfl, hab, hc0, hc1⟩ := (hr.below hb).pair hlt
      have hsz2 := hb.size
      have HS := Lib.hid (headParts_succ ps n k hlt)
      generalize headParts ps n k = hp at *
      have HO := Lib.hid ho
      clear hb ho
      cases he : (ps[k].1 == n)
      · have HS2 : Hid (headParts ps n (k + 1) = hp) := by show _ = _; rw [HS.out, he]; simp
        go_wp2
        go_roundw
        case rel => exact ⟨k + 1, A', c', by omega, by go_num, by rw [HS2.out], by rw [HS2.out]; exact ownS_keep HO.out (by go_grown), HB.out.alloc (by omega) _⟩
        case measure => simp [intOf]; omega
      · have HS2 : Hid (headParts ps n (k + 1) = hp ++ [ps[k].2]) := by show _ = _; rw [HS.out, he]; rfl
        go_wp2_with (at_builtin; refine app_str rfl _ _ rfl w.heap.size A' c' _ (hp) ps[k].2 rfl rfl ?_ _ rfl ?_ ?_ ?_ ?_; (focus (refine ownS_keep HO.out ?_; go_grown)); (focus (first | rfl | simp)); (focus omega); (focus (first | omega | (simp; omega))); intro A2 c2 w2 ho2 hg2)
        go_roundw
        case rel =>
          refine ⟨k + 1, A2, c2, by omega, by go_num, by rw [HS2.out]; simp, by rw [HS2.out]; exact ho2, ?_⟩
          exact (HB.out.alloc HB.out.size _).trans (grown_to_below hg2 (by simp; omega) (ownS_row HO.out))
        case measure => simp [intOf]; omega
    · have hkn : k = ps.length := by omega
      subst hkn
      have hjl := head_len ps n ps.length hsz
      have hrs := ownS_rd ho
      have hcs := ownS_cap ho
      generalize hg : headParts ps n ps.length = hp at *
      have HG := Lib.hid hg
      clear ho hg
      have HJ := Lib.hid (join_tx hp comma A' c' wr hrs (by omega) hcs (by omega))
      clear hrs hcs hb
      go_wp2_with fail
      refine HJ.out.mono ?_
      rintro e w2 ⟨rfl, hb2⟩
      have HB2 := Lib.hid (HB.out.trans (hb2.mono HB.out.size))
      clear hb2
      rw [← HT.out]
      go_wp2
      go_ret2
      rw [HG.out]
      exact ⟨rfl, HB2.out⟩

set_option maxHeartbeats 2000000 in
theorem spec_HeadOf (ps : List Pr) (n : Tx) (A : Option Addr) (c : Nat) (w : World) (hr : Rd w w.heap.size A (pcells ps)) (hsz : psize ps + 2 * ps.length ≤ 4194304) (hn : n.length ≤ maxLen) :
    Calls Try.prog 31 #[.slice A ps.length c, .string ⟨n.toArray⟩] w fun e w' => e = .returned (.tuple #[.string ⟨(headText ps n).toArray⟩, .bool (decide (0 < (headParts ps n ps.length).length))]) ∧ Below w.heap.size w w' := by
  have HT : Hid (headText ps n = Lib.join (headParts ps n ps.length) comma) := rfl
  have HN := Lib.hid hn
  clear hn
  go_enter Try.func31, Try.ntmps31
  go_wp2
  go_loopw [6, 7, 8] (fun v s i wr => ∃ (k : Nat), k ≤ ps.length ∧ i = .int .i64 k ∧ v = .string ⟨(Lib.join (headParts ps n k) comma).toArray⟩ ∧ s = .bool (decide (0 < (headParts ps n k).length)) ∧ Below w.heap.size w wr) (fun _ _ i _ => ps.length - (intOf i).toNat)
  case atStart => exact ⟨0, Nat.zero_le _, rfl, rfl, rfl, Below.refl _ _⟩
  case round =>
    obtain ⟨k, hk, rfl, rfl, rfl, hb⟩ := hrel
    have HB := Lib.hid hb
    by_cases hlt : k < ps.length
    · obtain ⟨b, o, rfl, hab, hc0, hc1⟩ := (hr.below hb).pair hlt
      have hsz2 := hb.size
      have hjl := head_len ps n k hsz
      have hjl2 := head_len ps n (k + 1) hsz
      have HS := Lib.hid (headParts_succ ps n k hlt)
      generalize headParts ps n k = hp at *
      clear hb
      cases he : (ps[k].1 == n)
      · have HS2 : Hid (headParts ps n (k + 1) = hp) := by show _ = _; rw [HS.out, he]; simp
        clear hjl2
        go_wp2
        go_roundw
        case rel => exact ⟨k + 1, by omega, by go_num, by rw [HS2.out], by rw [HS2.out], HB.out⟩
        case measure => simp [intOf]; omega
      · have HS2 : Hid (headParts ps n (k + 1) = hp ++ [ps[k].2]) := by show _ = _; rw [HS.out, he]; rfl
        rw [HS2.out] at hjl2
        cases hp with
        | nil =>
          have hj : Lib.join [ps[k].2] comma = ps[k].2 := Lib.join_one _ _
          rw [List.nil_append, hj] at hjl2
          go_wp2
          go_roundw
          case rel => exact ⟨k + 1, by omega, by go_num, by rw [HS2.out]; show _ = Value.string ⟨(Lib.join [ps[k].2] comma).toArray⟩; rw [Lib.join_one, Lib.join_nil]; rfl, by rw [HS2.out]; rfl, HB.out⟩
          case measure => simp [intOf]; omega
        | cons x r =>
          have hj : Lib.join ((x :: r) ++ [ps[k].2]) comma = Lib.join (x :: r) comma ++ comma ++ ps[k].2 := by rw [join_snoc, if_neg (by simp)]
          have HJ := Lib.hid hj
          rw [hj] at hjl2
          clear hj
          have hcl : comma.length = 2 := rfl
          have HD : Hid (decide (0 < (x :: r).length) = true) := by show _ = _; simp
          rw [HD.out]
          generalize Lib.join (x :: r) comma = jt at *
          simp only [List.length_append] at hjl2
          go_wp2
          go_roundw
          case rel => exact ⟨k + 1, by omega, by go_num, by rw [HS2.out, HJ.out]; simp [comma], by rw [HS2.out]; simp, HB.out⟩
          case measure => simp [intOf]; omega
    · have hkn : k = ps.length := by omega
      subst hkn
      go_wp2
      go_ret2
      rw [HT.out]
      exact ⟨rfl, hb⟩
end Go.Proofs.Ytaipignkkbknfaa
