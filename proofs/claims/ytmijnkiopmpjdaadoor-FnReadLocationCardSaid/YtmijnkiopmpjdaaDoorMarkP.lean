/- Marks in slices of pairs: walks. -/
import Derived.Test.YtmijnkiopmpjdaaDoorPairEq
import Derived.Test.YtmijnkiopmpjdaaDoorMark
import Derived.Deep.RegionHeld3
namespace Go.Proofs.YtmijnkiopmpjdaaDoor
open Go.RowKit

/-- the marks from k on, in n pairs -/
def marksP : Nat → Nat → List Pr
  | _, 0 => []
  | k, n + 1 => marksP k n ++ [(markOf (k + 2 * n), markOf (k + 2 * n + 1))]
theorem marksP_length : ∀ k n, (marksP k n).length = n
  | _, 0 => rfl
  | k, n + 1 => by simp [marksP, marksP_length k n]
theorem marksP_get : ∀ (k n i : Nat) (h : i < (marksP k n).length), (marksP k n)[i] = (markOf (k + 2 * i), markOf (k + 2 * i + 1))
  | k, 0, i, h => by simp [marksP] at h
  | k, n + 1, i, h => by
    by_cases hi : i < n
    · have hl : i < (marksP k n).length := by rw [marksP_length]; exact hi
      simp only [marksP]
      rw [List.getElem_append_left hl]
      exact marksP_get k n i hl
    · have hin : i = n := by rw [marksP_length] at h; omega
      subst hin
      simp only [marksP]
      rw [List.getElem_append_right (by rw [marksP_length]; exact Nat.le_refl _)]
      simp [marksP_length]

/-- the call marked the pairs of a row of its own -/
def MarkedP (w : World) (base : Nat) (A : Option Addr) (c k n : Nat) (e : Ending) (w' : World) : Prop :=
  e = .returned (.int .i64 ((k + 2 * n : Nat) : Int)) ∧ OwnP w' base A c (marksP k n) ∧ w.grownBy w' (Value.ownBlock (.slice A n c))

set_option maxRecDepth 100000 in
set_option maxHeartbeats 1000000 in
theorem laws_markPairS (ps : List Pr) (base : Nat) (A : Option Addr) (c k : Nat) (w : World) (hown : OwnP w base A c ps) (hk0 : 0 < k) (hkn : k + 2 * ps.length ≤ 4611686018427387904) :
    Calls Tryd.prog 16 #[.slice A ps.length c, .int .i64 k] w (MarkedP w base A c k ps.length) := by
  have HOWN := Lib.hid hown
  clear hown
  go_enter Tryd.func16, Tryd.ntmps16
  go_wp2
  go_loopw [1, 5] (fun m i wr => ∃ (j : Nat), j ≤ ps.length ∧ i = .int .i64 j ∧ m = .int .i64 ((k + 2 * j : Nat) : Int) ∧ wr.ownsRow base 38 2 (.slice A ps.length c) ps.length (pcells (marksP k j) ++ pcells (ps.drop j)) ∧ w.grownBy wr (Value.ownBlock (.slice A ps.length c))) (fun _ i _ => ps.length - (intOf i).toNat)
  case atStart => exact ⟨0, Nat.zero_le _, rfl, rfl, HOWN.out, grown_refl _ _⟩
  case round =>
    obtain ⟨j, hj, rfl, rfl, ho, hg⟩ := hrel
    by_cases hlt : j < ps.length
    · obtain ⟨g, rfl, hbg, hgs⟩ := own_some ho (by omega)
      have HG := Lib.hid hg
      have hP : (pcells (marksP k j)).length = j * 2 := by rw [pcells_length, marksP_length]
      rw [drop_cons ps j hlt] at ho
      have HO := Lib.hid ho
      have HP := Lib.hid hP
      clear hg ho hP
      go_wp2_with fail
      refine (laws_markText_at (k + 2 * j) _ (by omega) (by omega) (by omega) _).mono ?_
      rintro e w1 ⟨rfl, hb1⟩
      have ho1 := own_below HO.out hb1
      obtain ⟨x0, hs0, hg0⟩ := own_any ho1 (j * 2) (by omega)
      have HB1 := Lib.hid hb1
      have HO1 := Lib.hid (ho1.stored (j * 2) (sv (markOf (k + 2 * j)))).1
      clear hb1 ho1
      go_wp2_with fail
      refine (laws_markText_at (k + 2 * j + 1) _ (by omega) (by omega) (by omega) _).mono ?_
      rintro e w2 ⟨rfl, hb2⟩
      have ho2 := own_below HO1.out hb2
      obtain ⟨x1, hs1, hg1⟩ := own_any ho2 (j * 2 + 1) (by omega)
      have HB2 := Lib.hid hb2
      have HO2 := Lib.hid (ho2.stored (j * 2 + 1) (sv (markOf (k + 2 * j + 1)))).1
      clear hb2 ho2 hs0 hg0
      go_wp2
      go_roundw
      case rel =>
        refine ⟨j + 1, by omega, by go_num, by go_num, ?_, ?_⟩
        · have h := HO2.out
          rw [show pcells (ps[j] :: ps.drop (j + 1)) = sv ps[j].1 :: sv ps[j].2 :: pcells (ps.drop (j + 1)) from rfl, two_set HP.out] at h
          rw [marksP, pcells_append, List.append_assoc]
          exact h
        · exact grown_set (grown_below (grown_set (grown_below HG.out HB1.out) _ _) HB2.out) _ _
      case measure => simp [intOf]; omega
    · go_wp2
      go_ret
      have hjn : j = ps.length := by omega
      subst hjn
      rw [List.drop_length] at ho
      simp only [pcells, List.append_nil] at ho
      refine ⟨ret_int (by omega), ?_, hg⟩
      unfold OwnP
      rw [marksP_length]
      exact ho

theorem laws_markPairS_one (ps : List Pr) (base : Nat) (A : Option Addr) (c : Nat) (w : World) (hown : OwnP w base A c ps) (hkn : ps.length ≤ 4294967296) :
    Calls Tryd.prog 16 #[.slice A ps.length c, .int .i64 1] w fun e w' => e = .returned (.int .i64 (1 + 2 * (ps.length : Int))) ∧ OwnP w' base A c (marksP 1 ps.length) ∧ w.grownBy w' (Value.ownBlock (.slice A ps.length c)) :=
  (laws_markPairS ps base A c 1 w hown (by omega) (by omega)).mono fun _ _ ⟨h1, h2, h3⟩ => ⟨by rw [h1]; exact ret_int (by omega), h2, h3⟩

set_option maxRecDepth 100000 in
set_option maxHeartbeats 1000000 in
theorem laws_heldPairS (n : Nat) (A : Option Addr) (c k : Nat) (w : World) (hr : Rd w w.heap.size A (pcells (marksP k n))) (hk0 : 0 < k) (hkn : k + 2 * n ≤ 4611686018427387904) :
    Calls Tryd.prog 17 #[.slice A n c, .int .i64 k] w fun e w' => e = .returned (.int .i64 ((k + 2 * n : Nat) : Int)) ∧ Below w.heap.size w w' := by
  go_enter Tryd.func17, Tryd.ntmps17
  go_wp2
  go_loopw [1, 5] (fun m i wr => ∃ (j : Nat), j ≤ n ∧ i = .int .i64 j ∧ m = .int .i64 ((k + 2 * j : Nat) : Int) ∧ Below w.heap.size w wr) (fun _ i _ => n - (intOf i).toNat)
  case atStart => exact ⟨0, Nat.zero_le _, rfl, rfl, Below.refl _ _⟩
  case round =>
    obtain ⟨j, hj, rfl, rfl, hb⟩ := hrel
    by_cases hlt : j < n
    · have hl : j < (marksP k n).length := by rw [marksP_length]; exact hlt
      obtain ⟨b, o, rfl, hab, hc0, hc1⟩ := (hr.below hb).pair hl
      rw [marksP_get] at hc0 hc1
      have HB := Lib.hid hb
      clear hb
      have hbw : b < wr.heap.size := by have := HB.out.size; omega
      have HC0 := Lib.hid hc0
      have HC1 := Lib.hid hc1
      go_wp2_with fail
      go_region_held3 (fun w' => w'.cell? ⟨b, o + j * 2, none⟩ = some (sv (markOf (k + 2 * j))) ∧ w'.cell? ⟨b, o + j * 2 + 1, none⟩ = some (sv (markOf (k + 2 * j + 1)))) (first | go_keep | exact ⟨(hb1.cell (p := ⟨b, o + j * 2, none⟩) hbw).trans HC0.out, (hb1.cell (p := ⟨b, o + j * 2 + 1, none⟩) hbw).trans HC1.out⟩)
        (first | (go_at_call 49; refine (laws_markText_at (k + 2 * j) _ (by omega) (by omega) (by omega) _).mono ?_; rintro e w1 ⟨rfl, hb1⟩))
      have hc1' : w1.cell? ⟨b, o + j * 2 + 1, none⟩ = some (sv (markOf (k + 2 * j + 1))) := (hb1.cell (p := ⟨b, o + j * 2 + 1, none⟩) hbw).trans HC1.out
      have HC1' := Lib.hid hc1'
      have HB1 := Lib.hid (HB.out.drew.trans (hb1.mono HB.out.drew.size))
      have hbw1 : b < w1.heap.size := by have := HB1.out.size; omega
      clear hb1 hc0 hc1 hbw
      go_wp2_with fail
      go_region_held3 (fun w' => w'.cell? ⟨b, o + j * 2 + 1, none⟩ = some (sv (markOf (k + 2 * j + 1)))) (first | go_keep | exact (hb2.cell (p := ⟨b, o + j * 2 + 1, none⟩) hbw1).trans HC1'.out)
        (first | (go_at_call 49; refine (laws_markText_at (k + 2 * j + 1) _ (by omega) (by omega) (by omega) _).mono ?_; rintro e w2 ⟨rfl, hb2⟩))
      have HB2 := Lib.hid (HB1.out.drew.trans (hb2.mono HB1.out.drew.size))
      clear hb2
      go_wp2
      go_roundw
      case rel => exact ⟨j + 1, by omega, by go_num, by go_num, HB2.out⟩
      case measure => simp [intOf]; omega
    · go_wp2
      go_ret
      exact ⟨ret_int (by omega), hb⟩

theorem laws_heldPairS_one (n : Nat) (A : Option Addr) (c : Nat) (w : World) (hr : Rd w w.heap.size A (pcells (marksP 1 n))) (hkn : n ≤ 4294967296) :
    Calls Tryd.prog 17 #[.slice A n c, .int .i64 1] w fun e w' => e = .returned (.int .i64 (1 + 2 * (n : Int))) ∧ Below w.heap.size w w' :=
  (laws_heldPairS n A c 1 w hr (by omega) (by omega)).mono fun _ _ ⟨h1, h2⟩ => ⟨by rw [h1]; exact ret_int (by omega), h2⟩

end Go.Proofs.YtmijnkiopmpjdaaDoor
