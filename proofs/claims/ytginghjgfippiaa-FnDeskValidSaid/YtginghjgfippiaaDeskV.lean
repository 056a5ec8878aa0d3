/- Valid desks: walks. -/
import Derived.Test.YtginghjgfippiaaPartOkI
import Derived.Test.YtginghjgfippiaaPartOkS
import Derived.Test.YtginghjgfippiaaFieldV
import Derived.Test.YtginghjgfippiaaDeskP
namespace Go.Proofs.Ytginghjgfippiaa
open Go.RowKit

theorem manys_le {xs : List Pt} (hs : xs.length + Pt.sizes xs ≤ 1048576) : Pt.manys xs ≤ 2000000 := by
  have := Pt.manys_size (xs := xs) (fun x _ => Pt.many_size x)
  omega
set_option maxRecDepth 100000 in
set_option maxHeartbeats 4000000 in
theorem impl_PartsValid (xs : List Pt) (A : Option Addr) (c : Nat) (w : World) (hx : RdP w (All w) A xs) (hs : xs.length + Pt.sizes xs ≤ 1048576) (hm : Hm w) :
    Calls Try.prog 16 #[.slice A xs.length c] w fun e w' => e = .returned (.bool (Pt.valid xs)) ∧ Below w.heap.size w w' := by
  have HV : Hid (Pt.valid xs = (decide (Pt.manys xs ≤ 30) && Pt.oks xs 3 false)) := rfl
  have HX := Lib.hid hx
  have HC := Lib.hid (impl_countParts (Pt.deeps xs) xs A c w (Nat.le_refl _) hx (manys_le hs))
  have hmm := manys_le hs
  clear hx
  by_cases h30 : Pt.manys xs ≤ 30
  case neg =>
    have h30' : decide ((Pt.manys xs : Int) ≤ 30) = false := by simp; omega
    have HE : Hid (Pt.valid xs = false) := by show _ = _; rw [HV.out, show decide (Pt.manys xs ≤ 30) = false by simp; omega]; rfl
    clear h30
    go_enter Try.func16, Try.ntmps16
    go_wp2_with fail
    refine HC.out.mono ?_
    rintro e w1 ⟨rfl, hb⟩
    have HB1 := Lib.hid hb
    clear hb
    go_wp2
    go_ret
    exact ⟨ret_bool HE.out.symm, HB1.out⟩
  have h30' : decide ((Pt.manys xs : Int) ≤ 30) = true := by simp; omega
  have HE : Hid (Pt.valid xs = Pt.oks xs 3 false) := by show _ = _; rw [HV.out, show decide (Pt.manys xs ≤ 30) = true by simp; omega]; rfl
  clear h30
  go_enter Try.func16, Try.ntmps16
  go_wp2_with fail
  refine HC.out.mono ?_
  rintro e w1 ⟨rfl, hb⟩
  have HB1 := Lib.hid hb
  have HO := Lib.hid (impl_partsOk 3 0 (by decide) (by omega) xs A c w1 (HX.out.now HB1.out) hs (hm.below HB1.out))
  clear hb
  go_wp2_with fail
  refine HO.out.mono ?_
  rintro e w2 ⟨rfl, hb⟩
  have HB2 := Lib.hid (HB1.out.trans (hb.mono HB1.out.size))
  clear hb
  go_wp2
  go_ret
  exact ⟨ret_bool HE.out.symm, HB2.out⟩
set_option maxRecDepth 100000 in
set_option maxHeartbeats 4000000 in
theorem spec_PartsValid (xs : List Pt) (A : Option Addr) (c : Nat) (w : World) (hx : RdP w (All w) A xs) (hs : xs.length + Pt.sizes xs ≤ 1048576) :
    Calls Try.prog 10 #[.slice A xs.length c] w fun e w' => e = .returned (.bool (Pt.valid xs)) ∧ Below w.heap.size w w' := by
  have HV : Hid (Pt.valid xs = (decide (Pt.manys xs ≤ 30) && Pt.oks xs 3 false)) := rfl
  have HX := Lib.hid hx
  have HC := Lib.hid (spec_l9Size (Pt.deeps xs) xs A c w (Nat.le_refl _) hx (manys_le hs))
  have hmm := manys_le hs
  clear hx
  by_cases h30 : Pt.manys xs ≤ 30
  case neg =>
    have h30' : decide ((Pt.manys xs : Int) ≤ 30) = false := by simp; omega
    have HE : Hid (Pt.valid xs = false) := by show _ = _; rw [HV.out, show decide (Pt.manys xs ≤ 30) = false by simp; omega]; rfl
    clear h30
    go_enter Try.func10, Try.ntmps10
    go_wp2_with fail
    refine HC.out.mono ?_
    rintro e w1 ⟨rfl, hb⟩
    have HB1 := Lib.hid hb
    clear hb
    go_wp2
    go_ret
    exact ⟨ret_bool HE.out.symm, HB1.out⟩
  have h30' : decide ((Pt.manys xs : Int) ≤ 30) = true := by simp; omega
  have HE : Hid (Pt.valid xs = Pt.oks xs 3 false) := by show _ = _; rw [HV.out, show decide (Pt.manys xs ≤ 30) = true by simp; omega]; rfl
  clear h30
  go_enter Try.func10, Try.ntmps10
  go_wp2_with fail
  refine HC.out.mono ?_
  rintro e w1 ⟨rfl, hb⟩
  have HB1 := Lib.hid hb
  have HO := Lib.hid (spec_l9Good 3 (by omega) xs A c w1 (HX.out.now HB1.out) hs)
  clear hb
  go_wp2_with fail
  refine HO.out.mono ?_
  rintro e w2 ⟨rfl, hb⟩
  have HB2 := Lib.hid (HB1.out.trans (hb.mono HB1.out.size))
  clear hb
  go_wp2
  go_ret
  exact ⟨ret_bool HE.out.symm, HB2.out⟩
set_option maxRecDepth 100000 in
set_option maxHeartbeats 4000000 in
theorem impl_DeskValid (d : Dk) (u : Value) (w : World) (hu : InD w (All w) d u) (hs : Dk.size d ≤ 1048576) (hm : Hm w) :
    Calls Try.prog 14 #[u] w fun e w' => e = .returned (.bool (Dk.valid d)) ∧ Below w.heap.size w w' := by
  obtain ⟨ps, fs⟩ := d
  obtain ⟨Ap, cp, Ad, cd, rfl, h1, h2, h3, h4⟩ := hu
  unfold Dk.size at hs
  dsimp only at h1 h2 h3 h4 hs ⊢
  have hB0 := (Below.refl w.heap.size w).alloc (Nat.le_refl _) (.cells (dkCells Ap ps.length cp Ad fs.length cd) 34)
  have HB0 := Lib.hid hB0
  have HX0 := Lib.hid (heap_alloc_new w (.cells (dkCells Ap ps.length cp Ad fs.length cd) 34))
  have HP := Lib.hid (impl_PartsValid ps Ap cp _ (h1.now hB0) (by omega) (hm.below hB0))
  have HF := Lib.hid (fun w2 (hb : Below _ _ w2) => impl_DataValid fs Ad cd w2 ((h3.now hB0).now hb) h4 (by omega))
  have HV : Hid (Dk.valid ⟨ps, fs⟩ = (Pt.valid ps && Fd.valid fs)) := rfl
  have hzz : w.heap.size < (w.alloc (.cells (dkCells Ap ps.length cp Ad fs.length cd) 34)).heap.size := by simp
  clear h1 h2 h3 h4 hB0
  generalize Pt.valid ps = q0 at *
  generalize Fd.valid fs = q1 at *
  go_enter Try.func14, Try.ntmps14
  go_wp2_with fail
  refine HP.out.mono ?_
  rintro e w1 ⟨rfl, hb⟩
  have HB1 := Lib.hid (HB0.out.trans (hb.mono HB0.out.size))
  have HF1 := Lib.hid (HF.out w1 hb)
  obtain ⟨⟨y0, y1⟩, -⟩ := box_twoD (bx_keep HX0.out hb)
  clear hb
  cases q0
  · go_wp2
    go_ret
    exact ⟨ret_bool HV.out.symm, HB1.out⟩
  go_wp2_with fail
  refine HF1.out.mono ?_
  rintro e w2 ⟨rfl, hb⟩
  have HB2 := Lib.hid (HB1.out.trans (hb.mono HB1.out.size))
  clear hb
  rw [Bool.true_and] at HV
  go_wp2
  go_ret
  exact ⟨ret_bool HV.out.symm, HB2.out⟩
set_option maxRecDepth 100000 in
set_option maxHeartbeats 4000000 in
theorem spec_DeskValid (d : Dk) (u : Value) (w : World) (hu : InD w (All w) d u) (hs : Dk.size d ≤ 1048576) :
    Calls Try.prog 15 #[u] w fun e w' => e = .returned (.bool (Dk.valid d)) ∧ Below w.heap.size w w' := by
  obtain ⟨ps, fs⟩ := d
  obtain ⟨Ap, cp, Ad, cd, rfl, h1, h2, h3, h4⟩ := hu
  unfold Dk.size at hs
  dsimp only at h1 h2 h3 h4 hs ⊢
  have hB0 := (Below.refl w.heap.size w).alloc (Nat.le_refl _) (.cells (dkCells Ap ps.length cp Ad fs.length cd) 34)
  have HB0 := Lib.hid hB0
  have HX0 := Lib.hid (heap_alloc_new w (.cells (dkCells Ap ps.length cp Ad fs.length cd) 34))
  have HP := Lib.hid (spec_PartsValid ps Ap cp _ (h1.now hB0) (by omega))
  have HF := Lib.hid (fun w2 (hb : Below _ _ w2) => spec_DataValid fs Ad cd w2 ((h3.now hB0).now hb) (by omega))
  have HV : Hid (Dk.valid ⟨ps, fs⟩ = (Pt.valid ps && Fd.valid fs)) := rfl
  have hzz : w.heap.size < (w.alloc (.cells (dkCells Ap ps.length cp Ad fs.length cd) 34)).heap.size := by simp
  clear h1 h2 h3 h4 hB0
  generalize Pt.valid ps = q0 at *
  generalize Fd.valid fs = q1 at *
  go_enter Try.func15, Try.ntmps15
  go_wp2_with fail
  refine HP.out.mono ?_
  rintro e w1 ⟨rfl, hb⟩
  have HB1 := Lib.hid (HB0.out.trans (hb.mono HB0.out.size))
  have HF1 := Lib.hid (HF.out w1 hb)
  obtain ⟨⟨y0, y1⟩, -⟩ := box_twoD (bx_keep HX0.out hb)
  clear hb
  cases q0
  · go_wp2
    go_ret
    exact ⟨ret_bool HV.out.symm, HB1.out⟩
  go_wp2_with fail
  refine HF1.out.mono ?_
  rintro e w2 ⟨rfl, hb⟩
  have HB2 := Lib.hid (HB1.out.trans (hb.mono HB1.out.size))
  clear hb
  rw [Bool.true_and] at HV
  go_wp2
  go_ret
  exact ⟨ret_bool HV.out.symm, HB2.out⟩
end Go.Proofs.Ytginghjgfippiaa
