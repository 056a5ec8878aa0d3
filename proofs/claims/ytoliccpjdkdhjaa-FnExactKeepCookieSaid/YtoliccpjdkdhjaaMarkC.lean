/- Marks in slices of cookies; arguments that are slices of cookies: walks. -/
import Derived.Test.YtoliccpjdkdhjaaCookieS
namespace Go.Proofs.Ytoliccpjdkdhjaa
open Go.RowKit Go.ChangeShapes Go.WideShapes Go.Deep

/-- the marks from k on, in n cookies -/
def marksC : Nat → Nat → List Ck
  | _, 0 => []
  | k, n + 1 => marksC k n ++ [(markOf (k + 3 * n), markOf (k + 3 * n + 1), ((k + 3 * n + 2 : Nat) : Int))]
theorem marksC_length : ∀ k n, (marksC k n).length = n
  | _, 0 => rfl
  | k, n + 1 => by simp [marksC, marksC_length k n]
theorem marksC_get : ∀ (k n i : Nat) (h : i < (marksC k n).length), (marksC k n)[i] = (markOf (k + 3 * i), markOf (k + 3 * i + 1), ((k + 3 * i + 2 : Nat) : Int))
  | k, 0, i, h => by simp [marksC] at h
  | k, n + 1, i, h => by
    by_cases hi : i < n
    · have hl : i < (marksC k n).length := by rw [marksC_length]; exact hi
      simp only [marksC]
      rw [List.getElem_append_left hl]
      exact marksC_get k n i hl
    · have hin : i = n := by rw [marksC_length] at h; omega
      subst hin
      simp only [marksC]
      rw [List.getElem_append_right (by rw [marksC_length]; exact Nat.le_refl _)]
      simp [marksC_length]

def MarkedC (w : World) (base : Nat) (A : Option Addr) (c k n : Nat) (e : Ending) (w' : World) : Prop :=
  e = .returned (.int .i64 ((k + 3 * n : Nat) : Int)) ∧ OwnC w' base A c (marksC k n) ∧ w.grownBy w' (Value.ownBlock (.slice A n c))

set_option maxHeartbeats 2000000 in
theorem laws_markCookieS (ps : List Ck) (base : Nat) (A : Option Addr) (c k : Nat) (w : World) (hown : OwnC w base A c ps) (hk0 : 0 < k) (hkn : k + 3 * ps.length ≤ 4611686018427387904) :
    Calls Try.prog 21 #[.slice A ps.length c, .int .i64 k] w (MarkedC w base A c k ps.length) := by
  have HOWN := Lib.hid hown
  clear hown
  go_enter Try.func21, Try.ntmps21
  go_wp2
  go_loopw [1, 5] (fun m i wr => ∃ (j : Nat), j ≤ ps.length ∧ i = .int .i64 j ∧ m = .int .i64 ((k + 3 * j : Nat) : Int) ∧ wr.ownsRow base 28 3 (.slice A ps.length c) ps.length (ccells (marksC k j) ++ ccells (ps.drop j)) ∧ w.grownBy wr (Value.ownBlock (.slice A ps.length c))) (fun _ i _ => ps.length - (intOf i).toNat)
  case atStart => exact ⟨0, Nat.zero_le _, rfl, rfl, HOWN.out, grown_refl _ _⟩
  case round =>
    obtain ⟨j, hj, rfl, rfl, ho, hg⟩ := hrel
    by_cases hlt : j < ps.length
    · obtain ⟨g, rfl, hbg, hgs⟩ := own_some ho (by omega)
      have HG := Lib.hid hg
      have hP : (ccells (marksC k j)).length = j * 3 := by rw [ccells_length, marksC_length]
      rw [drop_cons ps j hlt] at ho
      have HO := Lib.hid ho
      have HP := Lib.hid hP
      clear hg ho hP
      go_wp2_with fail
      refine (laws_markText_at (k + 3 * j) _ (by omega) (by omega) (by omega) _).mono ?_
      rintro e w1 ⟨rfl, hb1⟩
      have ho1 := own_below HO.out hb1
      obtain ⟨x0, hs0, hg0⟩ := own_any ho1 (j * 3) (by omega)
      have HB1 := Lib.hid hb1
      have HO1 := Lib.hid (ho1.stored (j * 3) (sv (markOf (k + 3 * j)))).1
      clear hb1 ho1
      go_wp2_with fail
      refine (laws_markText_at (k + 3 * j + 1) _ (by omega) (by omega) (by omega) _).mono ?_
      rintro e w2 ⟨rfl, hb2⟩
      have ho2 := own_below HO1.out hb2
      obtain ⟨x1, hs1, hg1⟩ := own_any ho2 (j * 3 + 1) (by omega)
      obtain ⟨x2, hs2, hg2⟩ := own_any ho2 (j * 3 + 2) (by omega)
      have HB2 := Lib.hid hb2
      have HO2 := Lib.hid (ho2.stored (j * 3 + 1) (sv (markOf (k + 3 * j + 1)))).1
      clear hb2 ho2 hs0 hg0
      go_wp2
      go_roundw
      case rel =>
        refine ⟨j + 1, by omega, by go_num, by go_num, ?_, ?_⟩
        · have h := (HO2.out.stored (j * 3 + 2) (.int .i64 ((k + 3 * j + 2 : Nat) : Int))).1
          rw [show ccells (ps[j] :: ps.drop (j + 1)) = sv ps[j].1 :: sv ps[j].2.1 :: .int .i64 ps[j].2.2 :: ccells (ps.drop (j + 1)) from rfl, three_set HP.out] at h
          rw [marksC, ccells_append, List.append_assoc]
          have e : ((k + 3 * j + 2 : Nat) : Int) = (k : Int) + 3 * j + 1 + 1 := by omega
          rw [e] at h ⊢
          exact h
        · exact grown_set (grown_set (grown_below (grown_set (grown_below HG.out HB1.out) _ _) HB2.out) _ _) _ _
      case measure => simp [intOf]; omega
    · go_wp2
      go_ret
      have hjn : j = ps.length := by omega
      subst hjn
      rw [List.drop_length] at ho
      simp only [ccells, List.append_nil] at ho
      refine ⟨ret_int (by omega), ?_, hg⟩
      unfold OwnC
      rw [marksC_length]
      exact ho
theorem laws_markCookieS_one (ps : List Ck) (base : Nat) (A : Option Addr) (c : Nat) (w : World) (hown : OwnC w base A c ps) (hkn : ps.length ≤ 4294967296) :
    Calls Try.prog 21 #[.slice A ps.length c, .int .i64 1] w fun e w' => e = .returned (.int .i64 (1 + 3 * (ps.length : Int))) ∧ OwnC w' base A c (marksC 1 ps.length) ∧ w.grownBy w' (Value.ownBlock (.slice A ps.length c)) :=
  (laws_markCookieS ps base A c 1 w hown (by omega) (by omega)).mono fun _ _ ⟨h1, h2, h3⟩ => ⟨by rw [h1]; exact ret_int (by omega), h2, h3⟩

set_option maxHeartbeats 2000000 in
theorem laws_heldCookieS (n : Nat) (A : Option Addr) (c k : Nat) (w : World) (hr : Rd w w.heap.size A (ccells (marksC k n))) (hk0 : 0 < k) (hkn : k + 3 * n ≤ 4611686018427387904) :
    Calls Try.prog 22 #[.slice A n c, .int .i64 k] w fun e w' => e = .returned (.int .i64 ((k + 3 * n : Nat) : Int)) ∧ Below w.heap.size w w' := by
  go_enter Try.func22, Try.ntmps22
  go_wp2
  go_loopw [1, 5] (fun m i wr => ∃ (j : Nat), j ≤ n ∧ i = .int .i64 j ∧ m = .int .i64 ((k + 3 * j : Nat) : Int) ∧ Below w.heap.size w wr) (fun _ i _ => n - (intOf i).toNat)
  case atStart => exact ⟨0, Nat.zero_le _, rfl, rfl, Below.refl _ _⟩
  case round =>
    obtain ⟨j, hj, rfl, rfl, hb⟩ := hrel
    by_cases hlt : j < n
    · have hl : j < (marksC k n).length := by rw [marksC_length]; exact hlt
      obtain ⟨b, o, rfl, hab, hc0, hc1, hc2⟩ := (hr.below hb).cookie hl
      rw [marksC_get] at hc0 hc1 hc2
      dsimp only at hc0 hc1 hc2
      have HB := Lib.hid hb
      clear hb
      have hbw : b < wr.heap.size := by have := HB.out.size; omega
      have HC0 := Lib.hid hc0
      have HC1 := Lib.hid hc1
      have HC2 := Lib.hid hc2
      clear hc2
      go_wp2_with fail
      go_region_held3 (fun w' => w'.cell? ⟨b, o + j * 3, none⟩ = some (sv (markOf (k + 3 * j))) ∧ w'.cell? ⟨b, o + j * 3 + 1, none⟩ = some (sv (markOf (k + 3 * j + 1)))) (first | go_keep | exact ⟨(hb1.cell (p := ⟨b, o + j * 3, none⟩) hbw).trans HC0.out, (hb1.cell (p := ⟨b, o + j * 3 + 1, none⟩) hbw).trans HC1.out⟩)
        (first | (go_at_call 34; refine (laws_markText_at (k + 3 * j) _ (by omega) (by omega) (by omega) _).mono ?_; rintro e w1 ⟨rfl, hb1⟩))
      have hc1' : w1.cell? ⟨b, o + j * 3 + 1, none⟩ = some (sv (markOf (k + 3 * j + 1))) := (hb1.cell (p := ⟨b, o + j * 3 + 1, none⟩) hbw).trans HC1.out
      have hc2' : w1.cell? ⟨b, o + j * 3 + 2, none⟩ = some (.int .i64 ((k + 3 * j + 2 : Nat) : Int)) := (hb1.cell (p := ⟨b, o + j * 3 + 2, none⟩) hbw).trans HC2.out
      have HC1' := Lib.hid hc1'
      have HC2' := Lib.hid hc2'
      have HB1 := Lib.hid (HB.out.drew.trans (hb1.mono HB.out.drew.size))
      have hbw1 : b < w1.heap.size := by have := HB1.out.size; omega
      clear hb1 hc0 hc1 hbw hc2'
      go_wp2_with fail
      go_region_held3 (fun w' => w'.cell? ⟨b, o + j * 3 + 1, none⟩ = some (sv (markOf (k + 3 * j + 1)))) (first | go_keep | exact (hb2.cell (p := ⟨b, o + j * 3 + 1, none⟩) hbw1).trans HC1'.out)
        (first | (go_at_call 34; refine (laws_markText_at (k + 3 * j + 1) _ (by omega) (by omega) (by omega) _).mono ?_; rintro e w2 ⟨rfl, hb2⟩))
      have hc2 : w2.cell? ⟨b, o + j * 3 + 2, none⟩ = some (.int .i64 ((k : Int) + 3 * j + 1 + 1)) := by
        rw [show (k : Int) + 3 * j + 1 + 1 = ((k + 3 * j + 2 : Nat) : Int) by omega]
        exact (hb2.cell (p := ⟨b, o + j * 3 + 2, none⟩) hbw1).trans HC2'.out
      have HB2 := Lib.hid (HB1.out.drew.trans (hb2.mono HB1.out.drew.size))
      clear hb2
      go_wp2
      go_roundw
      case rel => exact ⟨j + 1, by omega, by go_num, by go_num, by first | exact HB2.out | exact HB2.out.drew⟩
      case measure => simp [intOf]; omega
    · go_wp2
      go_ret
      exact ⟨ret_int (by omega), hb⟩
theorem laws_heldCookieS_one (n : Nat) (A : Option Addr) (c : Nat) (w : World) (hr : Rd w w.heap.size A (ccells (marksC 1 n))) (hkn : n ≤ 4294967296) :
    Calls Try.prog 22 #[.slice A n c, .int .i64 1] w fun e w' => e = .returned (.int .i64 (1 + 3 * (n : Int))) ∧ Below w.heap.size w w' :=
  (laws_heldCookieS n A c 1 w hr (by omega) (by omega)).mono fun _ _ ⟨h1, h2⟩ => ⟨by rw [h1]; exact ret_int (by omega), h2⟩

end Go.Proofs.Ytoliccpjdkdhjaa
