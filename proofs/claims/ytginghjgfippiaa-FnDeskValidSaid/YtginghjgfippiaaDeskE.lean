/- Desks in the laws: size, conversion, equality: walks. -/
import Derived.Test.YtginghjgfippiaaPartE
import Derived.Test.YtginghjgfippiaaFieldE
import Derived.Test.YtginghjgfippiaaFieldT
import Derived.Test.YtginghjgfippiaaDeskP
namespace Go.Proofs.Ytginghjgfippiaa
open Go.RowKit

set_option maxRecDepth 100000 in
set_option maxHeartbeats 4000000 in
theorem laws_szDesk (d : Dk) (u : Value) (left : Int) (w : World) (hu : InD w (All w) d u) (hf : Dk.Fit d) (h0 : 0 ≤ left) (h1 : left ≤ 1048576) :
    Calls Try.prog 18 #[u, .int .i64 left] w fun e w' => e = .returned (.int .i64 (szLeft left (Dk.size d))) ∧ Below w.heap.size w w' := by
  obtain ⟨ps, fs⟩ := d
  obtain ⟨Ap, cp, Ad, cd, rfl, g1, g2, g3, g4⟩ := hu
  obtain ⟨f1, f2, f3, f4⟩ := hf
  dsimp only at g1 g2 g3 g4 f1 f2 f3 f4 ⊢
  have hB0 := (Below.refl w.heap.size w).alloc (Nat.le_refl _) (.cells (dkCells Ap ps.length cp Ad fs.length cd) 41)
  have HB0 := Lib.hid hB0
  have HX0 := Lib.hid (heap_alloc_new w (.cells (dkCells Ap ps.length cp Ad fs.length cd) 41))
  have HP := Lib.hid (laws_szPartS ps (fun x _ => laws_szPart x) Ap cp left _ (g1.now hB0) f1 f2 h0 h1)
  have HF := Lib.hid (fun w2 (hb : Below _ _ w2) (l : Int) (h0 : 0 ≤ l) (h1 : l ≤ 1048576) => laws_szFieldS fs (fun x _ => laws_szField x) Ad cd l w2 ((g3.now hB0).now hb) f3 f4 h0 h1)
  have HS : Hid (Dk.size ⟨ps, fs⟩ = (ps.length + Pt.sizes ps) + (fs.length + Fd.sizes fs)) := rfl
  have hzz : w.heap.size < (w.alloc (.cells (dkCells Ap ps.length cp Ad fs.length cd) 41)).heap.size := by simp
  clear g1 g2 g3 g4 f1 f2 f3 f4 hB0
  generalize (ps.length + Pt.sizes ps) = m1 at *
  generalize (fs.length + Fd.sizes fs) = m2 at *
  by_cases e1 : (m1 : Int) ≤ left
  case neg =>
    rw [szLeft_neg e1] at HP
    have HE : Hid (szLeft left (Dk.size ⟨ps, fs⟩) = -1) := by show _ = _; rw [szLeft_neg (by rw [HS.out]; omega)]
    go_enter Try.func18, Try.ntmps18
    go_wp2_with fail
    refine HP.out.mono ?_
    rintro e w1 ⟨rfl, hb⟩
    have HB1 := Lib.hid (HB0.out.trans (hb.mono HB0.out.size))
    clear hb
    go_wp2
    go_ret
    exact ⟨ret_int HE.out.symm, HB1.out⟩
  rw [szLeft_pos e1] at HP
  have e1' : 0 ≤ left - (m1 : Int) := by omega
  have HG := Lib.hid (fun w2 (hb : Below _ _ w2) => HF.out w2 hb (left - (m1 : Int)) e1' (by omega))
  by_cases e2 : (m2 : Int) ≤ left - (m1 : Int)
  · have HE : Hid (szLeft left (Dk.size ⟨ps, fs⟩) = left - (m1 : Int) - (m2 : Int)) := by show _ = _; rw [szLeft_pos (by rw [HS.out]; omega), HS.out]; omega
    rw [szLeft_pos e2] at HG
    have e2' : 0 ≤ left - (m1 : Int) - (m2 : Int) := by omega
    clear e1 e2
    go_enter Try.func18, Try.ntmps18
    go_wp2_with fail
    refine HP.out.mono ?_
    rintro e w1 ⟨rfl, hb⟩
    have HB1 := Lib.hid (HB0.out.trans (hb.mono HB0.out.size))
    have HG1 := Lib.hid (HG.out w1 hb)
    obtain ⟨⟨y0, y1⟩, -⟩ := box_twoD (bx_keep HX0.out hb)
    clear hb
    go_wp2_with fail
    refine HG1.out.mono ?_
    rintro e w2 ⟨rfl, hb⟩
    have HB2 := Lib.hid (HB1.out.trans (hb.mono HB1.out.size))
    clear hb
    go_wp2
    go_ret
    exact ⟨ret_int HE.out.symm, HB2.out⟩
  · have HE : Hid (szLeft left (Dk.size ⟨ps, fs⟩) = -1) := by show _ = _; rw [szLeft_neg (by rw [HS.out]; omega)]
    rw [szLeft_neg e2] at HG
    clear e1 e2
    go_enter Try.func18, Try.ntmps18
    go_wp2_with fail
    refine HP.out.mono ?_
    rintro e w1 ⟨rfl, hb⟩
    have HB1 := Lib.hid (HB0.out.trans (hb.mono HB0.out.size))
    have HG1 := Lib.hid (HG.out w1 hb)
    obtain ⟨⟨y0, y1⟩, -⟩ := box_twoD (bx_keep HX0.out hb)
    clear hb
    go_wp2_with fail
    refine HG1.out.mono ?_
    rintro e w2 ⟨rfl, hb⟩
    have HB2 := Lib.hid (HB1.out.trans (hb.mono HB1.out.size))
    clear hb
    go_wp2
    go_ret
    exact ⟨ret_int HE.out.symm, HB2.out⟩
theorem psame_sames {xs ys : List Pt} : Pt.sames xs ys = true ↔ xs = ys := Pt.sames_iff (fun x _ => Pt.same_iff x) ys
set_option maxRecDepth 100000 in
set_option maxHeartbeats 4000000 in
theorem laws_eqDesk (d : Dk) (u v : Value) (w : World) (hu : InD w (All w) d u) (hv : InD w (All w) d v) (hf : Dk.Fit d) :
    Calls Try.prog 20 #[u, v] w fun e w' => e = .returned (.bool true) ∧ Below w.heap.size w w' := by
  obtain ⟨ps, fs⟩ := d
  obtain ⟨Ap, cp, Ad, cd, rfl, g1, g2, g3, g4⟩ := hu
  obtain ⟨Ap', cp', Ad', cd', rfl, g1', g2', g3', g4'⟩ := hv
  obtain ⟨f1, f2, f3, f4⟩ := hf
  dsimp only at g1 g2 g3 g4 g1' g2' g3' g4' f1 f2 f3 f4 ⊢
  obtain ⟨hB0, hX0, hY0⟩ := two_boxes w (dkCells Ap ps.length cp Ad fs.length cd) (dkCells Ap' ps.length cp' Ad' fs.length cd') 34 34
  have HB0 := Lib.hid hB0
  have HX0 := Lib.hid hX0
  have HY0 := Lib.hid hY0
  have HP := Lib.hid (laws_eqPartS ps ps (fun x _ => laws_eqPart x) Ap Ap' cp cp' _ (g1.now hB0) (g1'.now hB0) f1 f1 f2)
  have HF := Lib.hid (fun w2 (hb : Below _ _ w2) => laws_eqFieldS fs fs (fun x _ => laws_eqField x) Ad Ad' cd cd' w2 ((g3.now hB0).now hb) ((g3'.now hB0).now hb) f3 f3 f4)
  rw [Pt.sames_self] at HP
  rw [Fd.sames_self] at HF
  have hzz : w.heap.size + 1 < ((w.alloc (.cells (dkCells Ap ps.length cp Ad fs.length cd) 34)).alloc (.cells (dkCells Ap' ps.length cp' Ad' fs.length cd') 34)).heap.size := by simp
  clear g1 g2 g3 g4 g1' g2' g3' g4' f1 f2 f3 f4 hB0 hX0 hY0
  go_enter Try.func20, Try.ntmps20
  go_wp2_with fail
  refine HP.out.mono ?_
  rintro e w1 ⟨rfl, hb⟩
  have HB1 := Lib.hid (HB0.out.trans (hb.mono HB0.out.size))
  have HF1 := Lib.hid (HF.out w1 hb)
  obtain ⟨⟨y0, y1⟩, -⟩ := box_twoD (bx_keep HX0.out hb)
  obtain ⟨⟨z0, z1⟩, -⟩ := box_twoD (bx_keep HY0.out hb)
  clear hb
  go_wp2_with fail
  refine HF1.out.mono ?_
  rintro e w2 ⟨rfl, hb⟩
  have HB2 := Lib.hid (HB1.out.trans (hb.mono HB1.out.size))
  clear hb
  go_wp2
  go_ret
  exact ⟨rfl, HB2.out⟩
/-- a desk that the call has made -/
def NewD (w : World) (x : Dk) (e : Ending) (w' : World) : Prop :=
  ∃ Ap lp cp Ad ld cd, e = .returned (dkV Ap lp cp Ad ld cd) ∧ InD w' (All w') x (dkV Ap lp cp Ad ld cd) ∧ Below w.heap.size w w'
set_option maxRecDepth 100000 in
set_option maxHeartbeats 4000000 in
theorem laws_toDesk (d : Dk) (u : Value) (w : World) (hu : InD w (All w) d u) (hs : Dk.size d ≤ 1048576) :
    Calls Try.prog 19 #[u] w (NewD w d) := by
  obtain ⟨ps, fs⟩ := d
  obtain ⟨Ap, cp, Ad, cd, rfl, g1, g2, g3, g4⟩ := hu
  unfold Dk.size at hs
  dsimp only at g1 g2 g3 g4 hs ⊢
  have HTS := Lib.hid (fun w2 (hb : Below w.heap.size w w2) => laws_toPartS ps (fun x _ => laws_toPart x) Ap cp w2 (g1.now hb) (by omega))
  have HTN := Lib.hid (fun w2 (hb : Below w.heap.size w w2) => laws_toFieldS fs (fun x _ => laws_toField x) Ad cd w2 (g3.now hb) (by omega))
  clear g1 g2 g3 g4
  go_enter Try.func19, Try.ntmps19
  go_wp2_with fail
  obtain ⟨hB0, hX0, hZ0, hY0, hs0⟩ := three_boxes w (dkCells Ap ps.length cp Ad fs.length cd) #[.slice none 0 0, .slice none 0 0] #[.slice none 0 0, .slice none 0 0] 41 34 34
  have HB0 := Lib.hid hB0
  have HX0 := Lib.hid hX0
  have HZ0 := Lib.hid hZ0
  have HY0 := Lib.hid hY0
  have HS0 := Lib.hid hs0
  clear hB0 hX0 hZ0 hY0 hs0
  refine (HTS.out _ HB0.out).mono ?_
  rintro e w1 ⟨A1, rfl, ho, hb⟩
  have hz1 : w.heap.size + 3 ≤ w1.heap.size := by rw [← HS0.out]; exact hb.size
  have HB1 := Lib.hid (HB0.out.trans (hb.mono HB0.out.size))
  have HX1 := Lib.hid (bx_keep HX0.out hb)
  have HZ1 := Lib.hid (bx_keep HZ0.out hb)
  have HY1 := Lib.hid (bx_keep HY0.out hb)
  have HN1 : Hid (RdP w1 (fun b => w.heap.size + 3 ≤ b ∧ b < w1.heap.size) A1 ps) := ho.keep (fun _ _ => rfl) (fun b h => ⟨by rw [← HS0.out]; exact h.1, h.2⟩)
  obtain ⟨⟨y0, y1⟩, y2, y3⟩ := box_twoD HY1.out
  obtain ⟨⟨x0, x1⟩, -⟩ := box_twoD HX1.out
  have HB1' := Lib.hid (Below.setCell HB1.out (p := ⟨w.heap.size + 2, 0, none⟩) (by show w.heap.size ≤ w.heap.size + 2; omega) (.slice A1 ps.length ps.length))
  have HY1' : Hid ((w1.setCell ⟨w.heap.size + 2, 0, none⟩ (.slice A1 ps.length ps.length)).heap[w.heap.size + 2]? = some (.cells #[.slice A1 ps.length ps.length, .slice none 0 0] 34 (0, 0))) := cells_set HY1.out
  have HZ1' : Hid ((w1.setCell ⟨w.heap.size + 2, 0, none⟩ (.slice A1 ps.length ps.length)).heap[w.heap.size + 1]? = some (.cells #[.slice none 0 0, .slice none 0 0] 34 (0, 0))) := (Below.heap_setCell _ _ _ _ (by show w.heap.size + 1 ≠ w.heap.size + 2; omega)).trans HZ1.out
  have hs1 : (w1.setCell ⟨w.heap.size + 2, 0, none⟩ (.slice A1 ps.length ps.length)).heap.size = w1.heap.size := by simp [World.setCell]
  clear ho hb
  go_wp2_with fail
  refine (HTN.out _ HB1'.out).mono ?_
  rintro e w2 ⟨A2, rfl, hrd, hb⟩
  have hz2 : w1.heap.size ≤ w2.heap.size := by rw [← hs1]; exact hb.size
  have HB2 := Lib.hid (HB1'.out.trans (hb.mono HB1'.out.size))
  have HZ2 := Lib.hid (bx_keep HZ1'.out hb)
  have HY2 := Lib.hid (bx_keep HY1'.out hb)
  have hset : ∀ (W : World) (q o : Nat) (u : Value) (p : Addr), q ≤ w.heap.size + 2 → w.heap.size + 3 ≤ p.block → (W.setCell ⟨q, o, none⟩ u).cell? p = W.cell? p := fun W q o u p h1 h2 => World.cell?_of_block (Below.heap_setCell _ _ _ _ (by show p.block ≠ q; omega))
  have HN2 : Hid (RdP w2 (fun b => w.heap.size + 3 ≤ b ∧ b < w2.heap.size) A1 ps) := HN1.out.keep (fun p hp => (hb.cell (by rw [hs1]; exact hp.2)).trans (hset _ _ _ _ _ (by omega) hp.1)) (fun b h => ⟨h.1, by omega⟩)
  have HR2 : Hid (RdF w2 (fun b => w.heap.size + 3 ≤ b ∧ b < w2.heap.size) A2 fs) := hrd.keep (fun _ _ => rfl) (fun b h => ⟨by have := h.1; rw [hs1] at this; omega, h.2⟩)
  have HSET := Lib.hid hset
  obtain ⟨⟨y0, y1⟩, y2, y3⟩ := box_twoD HY2.out
  obtain ⟨⟨z0, z1⟩, z2, z3⟩ := box_twoD HZ2.out
  clear hb hrd hset
  go_wp2
  refine bodyPost_ret (v := dkV A1 ps.length ps.length A2 fs.length fs.length) (by simp [results, Try.results19, go_sem, *]) rfl ?_
  have hs9 : ∀ (W : World) (p : Addr) (u : Value), (W.setCell p u).heap.size = W.heap.size := fun W p u => by simp [World.setCell]
  refine ⟨A1, ps.length, ps.length, A2, fs.length, fs.length, rfl, ⟨A1, ps.length, A2, fs.length, rfl, HN2.out.keep (fun p hp => ?_) (fun b h => by simp only [All, hs9]; exact h.2), Nat.le_refl _, HR2.out.keep (fun p hp => ?_) (fun b h => by simp only [All, hs9]; exact h.2), Nat.le_refl _⟩, Below.setCell (Below.setCell (Below.setCell HB2.out ?_ _) ?_ _) ?_ _⟩
  · rw [HSET.out _ _ _ _ _ (by omega) hp.1, HSET.out _ _ _ _ _ (by omega) hp.1, HSET.out _ _ _ _ _ (by omega) hp.1]
  · rw [HSET.out _ _ _ _ _ (by omega) hp.1, HSET.out _ _ _ _ _ (by omega) hp.1, HSET.out _ _ _ _ _ (by omega) hp.1]
  all_goals first | (show w.heap.size ≤ w.heap.size + 2; omega) | (show w.heap.size ≤ w.heap.size + 1; omega)
end Go.Proofs.Ytginghjgfippiaa
