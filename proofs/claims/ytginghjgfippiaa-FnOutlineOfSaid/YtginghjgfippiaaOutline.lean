/- OutlineOf, PartCount, and the draw of parts: walks. -/
import Derived.Test.YtginghjgfippiaaLinesS
import Derived.Test.YtginghjgfippiaaDeskV
import Derived.Test.YtginghjgfippiaaPartTmpl
namespace Go.Proofs.Ytginghjgfippiaa
open Go.RowKit

/-- the lines of valid parts -/
def outl (xs : List Pt) : List Tx := if Pt.valid xs = true then Pt.lines xs [] else []
theorem outl_ok {xs : List Pt} (h : Pt.valid xs = true) : outl xs = Pt.lines xs [] := if_pos h
theorem outl_no {xs : List Pt} (h : Pt.valid xs = false) : outl xs = [] := if_neg (by rw [h]; decide)
theorem valid_oks {xs : List Pt} (h : Pt.valid xs = true) : Pt.oks xs 3 false = true := by
  have h2 : (decide (Pt.manys xs ≤ 30) && Pt.oks xs 3 false) = true := h
  rw [Bool.and_eq_true] at h2
  exact h2.2
set_option maxRecDepth 100000 in
set_option maxHeartbeats 2000000 in
theorem impl_OutlineOf (xs : List Pt) (A : Option Addr) (c : Nat) (w : World) (hx : RdP w (All w) A xs) (hs : xs.length + Pt.sizes xs ≤ 1048576) (hm : Hm w) :
    Calls Try.prog 7 #[.slice A xs.length c] w (NewS w (outl xs)) := by
  have HX := Lib.hid hx
  have HC := Lib.hid (impl_PartsValid xs A c w hx hs hm)
  clear hx hm
  go_enter Try.func7, Try.ntmps7
  go_wp2_with fail
  refine HC.out.mono ?_
  rintro e w1 ⟨rfl, hb⟩
  have HB1 := Lib.hid hb
  clear hb
  cases hv : Pt.valid xs
  · have HO := Lib.hid (outl_no hv)
    clear hv
    go_wp2
    go_ret
    exact ⟨none, 0, by rw [HO.out]; rfl, by rw [HO.out]; exact ownS_nil _ _, HB1.out⟩
  · have HO := Lib.hid (outl_ok hv)
    have HL := Lib.hid (impl_outline 3 xs false [] A c w1 (valid_oks hv) (HX.out.now HB1.out) hs (by simp))
    clear hv
    go_wp2_with fail
    refine HL.out.mono ?_
    rintro e w2 ⟨A2, c2, rfl, ho, hb⟩
    go_wp2
    go_ret
    exact ⟨A2, c2, by rw [HO.out]; rfl, by rw [HO.out]; exact own_base ho HB1.out.size, HB1.out.trans (hb.mono HB1.out.size)⟩
set_option maxRecDepth 100000 in
set_option maxHeartbeats 2000000 in
theorem spec_OutlineOf (xs : List Pt) (A : Option Addr) (c : Nat) (w : World) (hx : RdP w (All w) A xs) (hs : xs.length + Pt.sizes xs ≤ 1048576) :
    Calls Try.prog 9 #[.slice A xs.length c] w (NewS w (outl xs)) := by
  have HX := Lib.hid hx
  have HC := Lib.hid (spec_PartsValid xs A c w hx hs)
  clear hx
  go_enter Try.func9, Try.ntmps9
  go_wp2_with fail
  refine HC.out.mono ?_
  rintro e w1 ⟨rfl, hb⟩
  have HB1 := Lib.hid hb
  clear hb
  cases hv : Pt.valid xs
  · have HO := Lib.hid (outl_no hv)
    clear hv
    go_wp2
    go_ret
    exact ⟨some ⟨w1.heap.size, 0, none⟩, 0, by rw [HO.out]; rfl, by rw [HO.out]; exact ownS_empty w1 _ HB1.out.size, HB1.out.trans ((Below.refl _ _).alloc HB1.out.size _)⟩
  · have HO := Lib.hid (outl_ok hv)
    have HL := Lib.hid (spec_l24Lines 3 xs false [] A c w1 (valid_oks hv) (HX.out.now HB1.out) hs (by simp))
    clear hv
    go_wp2_with fail
    refine HL.out.mono ?_
    rintro e w2 ⟨A2, c2, rfl, ho, hb⟩
    go_wp2
    go_ret
    exact ⟨A2, c2, by rw [HO.out]; rfl, by rw [HO.out]; exact own_base ho HB1.out.size, HB1.out.trans (hb.mono HB1.out.size)⟩
set_option maxRecDepth 100000 in
set_option maxHeartbeats 2000000 in
theorem impl_PartCount (xs : List Pt) (A : Option Addr) (c : Nat) (w : World) (hx : RdP w (All w) A xs) (hs : xs.length + Pt.sizes xs ≤ 1048576) (hm : Hm w) (hv : Pt.valid xs = true) :
    Calls Try.prog 12 #[.slice A xs.length c] w fun e w' => e = .returned (.int .i64 (Pt.manys xs : Int)) ∧ Below w.heap.size w w' := by
  have HX := Lib.hid hx
  have hC := impl_PartsValid xs A c w hx hs hm
  rw [hv] at hC
  have HC := Lib.hid hC
  clear hx hm hC hv
  go_enter Try.func12, Try.ntmps12
  go_wp2_with fail
  refine HC.out.mono ?_
  rintro e w1 ⟨rfl, hb⟩
  have HB1 := Lib.hid hb
  have HM := Lib.hid (impl_countParts (Pt.deeps xs) xs A c w1 (Nat.le_refl _) (HX.out.now HB1.out) (manys_le hs))
  clear hb
  go_wp2_with fail
  refine HM.out.mono ?_
  rintro e w2 ⟨rfl, hb⟩
  have HB2 := Lib.hid (HB1.out.trans (hb.mono HB1.out.size))
  clear hb
  go_wp2
  go_ret
  exact ⟨rfl, HB2.out⟩
/-- the call drew parts -/
def DrewP (w : World) (e : Ending) (w' : World) : Prop :=
  ∃ A c xs, e = .returned (.slice A (List.length xs) c) ∧ RdP w' (All w') A xs ∧ xs.length + Pt.sizes xs ≤ 13100 ∧ Below w.heap.size w w'
set_option maxRecDepth 100000 in
set_option maxHeartbeats 800000 in
theorem spec_DrawOutlineOf (bs : Tx) (A : Option Addr) (c : Nat) (w : World) (hr : Rd w w.heap.size A (bcells bs)) (hc : bs.length ≤ c) (hm : bs.length ≤ 1048576) :
    Calls Try.prog 6 #[.slice A bs.length c] w (DrewP w) := by
  have HR := Lib.hid hr
  clear hr
  go_enter Try.func6, Try.ntmps6
  go_wp2_with fail
  refine (spec_l20Open bs w.heap.size A c _ HR.out (Nat.le_refl _) hc hm).mono ?_
  rintro e w1 ⟨rfl, hr1, hb1⟩
  have HR1 := Lib.hid hr1
  have HB1 := Lib.hid hb1
  clear hr1 hb1
  go_wp2_with fail
  refine (spec_l20Template w.heap.size w.heap.size 0 6 w1 HR1.out (by omega) (by omega) (by omega)).mono ?_
  rintro e w2 ⟨A2, c2, rs, xs, rfl, hp, hw, _, hg⟩
  have HB2 : Hid (Below w.heap.size w w2) := HB1.out.trans (grown_to_below hg HB1.out.size (fun g h => by injection h with h; omega))
  have hx := hp.rd.keep (S' := All w2) (fun _ _ => rfl) (fun _ h => h.2)
  have hl := hp.len
  rw [hl]
  clear hg hp hl
  unfold wt at hw
  go_wp2
  go_ret
  exact ⟨A2, c2, xs, rfl, hx, hw, HB2.out⟩
end Go.Proofs.Ytginghjgfippiaa
