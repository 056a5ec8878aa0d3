/- Locations in the laws: size, conversion, equality: walks. -/
import Derived.Test.YtmijnkiopmpjdaaDoorLocValid
import Derived.Test.YtmijnkiopmpjdaaDoorSameS
import Derived.Test.YtmijnkiopmpjdaaDoorTypedB
namespace Go.Proofs.YtmijnkiopmpjdaaDoor
open Go.RowKit

def lsize (l : Lc) : Nat := l.sch.length + l.host.length + (l.path.length + ssize l.path) + l.qu.length
theorem ssize_mem : ∀ {xs : List Tx} {x : Tx}, x ∈ xs → x.length ≤ ssize xs
  | y :: t, x, h => by
    simp only [ssize]
    rcases List.mem_cons.1 h with rfl | h
    · omega
    · have := ssize_mem h; omega
theorem fitL_of {l : Lc} (h : lsize l ≤ 1048576) : FitL l := by
  unfold lsize at h
  refine ⟨by omega, by omega, by omega, by omega, fun x hx => ?_⟩
  have := ssize_mem hx
  omega

set_option maxRecDepth 100000 in
set_option maxHeartbeats 1000000 in
theorem laws_szLocation_fits (l : Lc) (A : Option Addr) (c : Nat) (left : Int) (w : World) (hr : Rd w w.heap.size A (scells l.path)) (h0 : 0 ≤ left) (h1 : left ≤ 1048576) (hfit : (lsize l : Int) ≤ left) :
    Calls Tryd.prog 28 #[lcV l A c, .int .i64 left] w fun e w' => e = .returned (.int .i64 (left - lsize l)) ∧ Below w.heap.size w w' := by
  have HS : Hid (lsize l = l.sch.length + l.host.length + (l.path.length + ssize l.path) + l.qu.length) := rfl
  have a1 : lsize l = l.sch.length + l.host.length + (l.path.length + ssize l.path) + l.qu.length := HS.out
  have HR := Lib.hid (fun (x : Int) hx0 hx1 hn hz => laws_szStringS_fits l.path A c x (w.alloc (.cells (lcCells l A c) 46)) ((hr.below ((Below.refl _ _).alloc (Nat.le_refl _) _)).more (by simp)) hx0 hx1 hn hz)
  clear hr
  have e1 : 0 ≤ left - (l.sch.length : Int) := by omega
  have e2 : 0 ≤ left - (l.sch.length : Int) - (l.host.length : Int) := by omega
  have e3 : 0 ≤ left - (l.sch.length : Int) - (l.host.length : Int) - (l.path.length : Int) - (ssize l.path : Int) := by omega
  have e4 : 0 ≤ left - (l.sch.length : Int) - (l.host.length : Int) - (l.path.length : Int) - (ssize l.path : Int) - (l.qu.length : Int) := by omega
  have HN : l.path.length ≤ maxLen := by unfold maxLen; omega
  have HZ : (l.path.length : Int) + (ssize l.path : Int) ≤ left - (l.sch.length : Int) - (l.host.length : Int) := by omega
  have HG := Lib.hid (HR.out _ e2 (by omega) HN HZ)
  have a2 : l.sch.length ≤ 1048576 := by omega
  have a3 : l.host.length ≤ 1048576 := by omega
  have a4 : l.qu.length ≤ 1048576 := by omega
  have a5 : l.path.length ≤ 1048576 := by omega
  have a6 : ssize l.path ≤ 1048576 := by omega
  clear HR HZ HN a1
  go_enter Tryd.func28, Tryd.ntmps28
  go_wp2_with (go_at_call 71; refine HG.out.mono ?_; rintro e w' ⟨rfl, rfl⟩)
  go_ret
  exact ⟨ret_int (by rw [HS.out]; omega), (Below.refl _ _).alloc (Nat.le_refl _) _⟩

set_option maxRecDepth 100000 in
set_option maxHeartbeats 1000000 in
theorem laws_szLocation_over (l : Lc) (A : Option Addr) (c : Nat) (left : Int) (w : World) (hr : Rd w w.heap.size A (scells l.path)) (hf : FitS l.path) (hn : l.path.length ≤ maxLen) (hs : l.sch.length ≤ maxLen) (hh : l.host.length ≤ maxLen) (hq : l.qu.length ≤ maxLen) (h0 : 0 ≤ left) (h1 : left ≤ 1048576) (hfit : left < (lsize l : Int)) :
    Calls Tryd.prog 28 #[lcV l A c, .int .i64 left] w fun e w' => e = .returned (.int .i64 (-1)) ∧ Below w.heap.size w w' := by
  have HS : Hid (lsize l = l.sch.length + l.host.length + (l.path.length + ssize l.path) + l.qu.length) := rfl
  have a1 : lsize l = l.sch.length + l.host.length + (l.path.length + ssize l.path) + l.qu.length := HS.out
  have HR := Lib.hid (fun (x : Int) hx0 hx1 hn hz => laws_szStringS_fits l.path A c x (w.alloc (.cells (lcCells l A c) 46)) ((hr.below ((Below.refl _ _).alloc (Nat.le_refl _) _)).more (by simp)) hx0 hx1 hn hz)
  have HO := Lib.hid (fun (x : Int) hx0 hx1 hz => laws_szStringS_over l.path A c x (w.alloc (.cells (lcCells l A c) 46)) ((hr.below ((Below.refl _ _).alloc (Nat.le_refl _) _)).more (by simp)) hf hx0 hx1 hn hz)
  clear hr hf
  unfold maxLen at hs hh hq
  by_cases e1 : 0 ≤ left - (l.sch.length : Int)
  · by_cases e2 : 0 ≤ left - (l.sch.length : Int) - (l.host.length : Int)
    · by_cases hz : (l.path.length : Int) + (ssize l.path : Int) ≤ left - (l.sch.length : Int) - (l.host.length : Int)
      · have HG := Lib.hid (HR.out _ e2 (by omega) hn hz)
        have e3 : 0 ≤ left - (l.sch.length : Int) - (l.host.length : Int) - (l.path.length : Int) - (ssize l.path : Int) := by omega
        have e4 : left - (l.sch.length : Int) - (l.host.length : Int) - (l.path.length : Int) - (ssize l.path : Int) - (l.qu.length : Int) < 0 := by omega
        have a5 : l.path.length ≤ 1048576 := by omega
        have a6 : ssize l.path ≤ 1048576 := by omega
        clear HR HO hz a1
        go_enter Tryd.func28, Tryd.ntmps28
        go_wp2_with (go_at_call 71; refine HG.out.mono ?_; rintro e w' ⟨rfl, rfl⟩)
        go_ret
        exact ⟨ret_int (by omega), (Below.refl _ _).alloc (Nat.le_refl _) _⟩
      · have HG := Lib.hid (HO.out _ e2 (by omega) (by omega))
        clear HR HO hz a1
        go_enter Tryd.func28, Tryd.ntmps28
        go_wp2_with (go_at_call 71; refine HG.out.mono ?_; rintro e w' ⟨rfl, rfl⟩)
        go_ret
        exact ⟨rfl, (Below.refl _ _).alloc (Nat.le_refl _) _⟩
    · clear HR HO a1
      go_enter Tryd.func28, Tryd.ntmps28
      go_wp2
      go_ret
      exact ⟨rfl, (Below.refl _ _).alloc (Nat.le_refl _) _⟩
  · clear HR HO a1
    go_enter Tryd.func28, Tryd.ntmps28
    go_wp2
    go_ret
    exact ⟨rfl, (Below.refl _ _).alloc (Nat.le_refl _) _⟩

/-- what a function that gives a location of its own leaves -/
def NewL (w : World) (l : Lc) (e : Ending) (w' : World) : Prop := ∃ A c, e = .returned (lcV l A c) ∧ OwnS w' w.heap.size A c l.path ∧ Below w.heap.size w w'

theorem own_off {w : World} {base size n g o : Nat} {e : TypeId} {v u : Value} {xs : List Value} (h : w.ownsRow base e size v n xs) (hg : g < base) : (w.setCell ⟨g, o, none⟩ u).ownsRow base e size v n xs := by
  refine h.kept (grown_set (grown_refl _ _) _ _) ?_
  cases hv : v.ownBlock with
  | none => exact .inl rfl
  | some k =>
    have := (h.lt k hv).1
    exact .inr (by simp; omega)
set_option maxRecDepth 100000 in
set_option maxHeartbeats 1000000 in
theorem laws_toLocation (l : Lc) (A : Option Addr) (c : Nat) (w : World) (hr : Rd w w.heap.size A (scells l.path)) (hn : l.path.length ≤ 1048576) :
    Calls Tryd.prog 29 #[lcV l A c] w (NewL w l) := by
  have HR := Lib.hid hr
  clear hr
  go_enter Tryd.func29, Tryd.ntmps29
  go_wp2_with fail
  refine (laws_toStringS l.path A c _ (HR.out.below ?_ |>.more (by simp <;> omega)) hn).mono ?_
  · refine Below.alloc (Below.alloc (Below.alloc (Below.refl _ _) ?_ _) ?_ _) ?_ _
    all_goals first | omega | (simp; done) | (simp; omega)
  rintro e w1 ⟨A1, c1, rfl, ho, hb⟩
  have k0 : w1.cell? ⟨w.heap.size, 3, none⟩ = some (sv l.qu) := (hb.cell (by simp <;> omega)).trans (by go_simp)
  have k1 : w1.cell? ⟨w.heap.size + 1, 0, none⟩ = some (.string ⟨#[]⟩) := (hb.cell (by simp <;> omega)).trans (by go_simp)
  have k2 : w1.cell? ⟨w.heap.size + 1, 1, none⟩ = some (.string ⟨#[]⟩) := (hb.cell (by simp <;> omega)).trans (by go_simp)
  have k3 : w1.cell? ⟨w.heap.size + 1, 2, none⟩ = some (.slice none 0 0) := (hb.cell (by simp <;> omega)).trans (by go_simp)
  have k4 : w1.cell? ⟨w.heap.size + 1, 3, none⟩ = some (.string ⟨#[]⟩) := (hb.cell (by simp <;> omega)).trans (by go_simp)
  have k5 : w1.cell? ⟨w.heap.size + 1 + 1, 0, none⟩ = some (sv l.sch) := (hb.cell (by simp <;> omega)).trans (by go_simp)
  have k6 : w1.cell? ⟨w.heap.size + 1 + 1, 1, none⟩ = some (sv l.host) := (hb.cell (by simp <;> omega)).trans (by go_simp)
  have k7 : w1.cell? ⟨w.heap.size + 1 + 1, 2, none⟩ = some (.slice none 0 0) := (hb.cell (by simp <;> omega)).trans (by go_simp)
  have k8 : w1.cell? ⟨w.heap.size + 1 + 1, 3, none⟩ = some (.string ⟨#[]⟩) := (hb.cell (by simp <;> omega)).trans (by go_simp)
  have fr : ∀ g o : Nat, g < w.heap.size + 1 + 1 + 1 → w.heap.size ≤ g → w1.frozen? ⟨g, o, none⟩ = false := by
    intro g o h1 h2
    rcases (by omega : g = w.heap.size ∨ g = w.heap.size + 1 ∨ g = w.heap.size + 1 + 1) with rfl | rfl | rfl
    all_goals exact (hb.frozen (by simp <;> omega)).trans (by go_simp)
  have f0 := fr (w.heap.size + 1) 0 (by omega) (by omega)
  have f1 := fr (w.heap.size + 1) 1 (by omega) (by omega)
  have HB : Hid (Below w.heap.size w w1) := by
    show Below _ _ _
    refine Below.trans ?_ (hb.mono (by simp <;> omega))
    refine Below.alloc (Below.alloc (Below.alloc (Below.refl _ _) ?_ _) ?_ _) ?_ _
    all_goals first | omega | (simp; done) | (simp; omega)
  have HO := Lib.hid ho
  have fr2 := fr (w.heap.size + 1 + 1) 2 (by omega) (by omega)
  have fr3 := fr (w.heap.size + 1 + 1) 3 (by omega) (by omega)
  have fr4 := fr (w.heap.size + 1) 2 (by omega) (by omega)
  have fr5 := fr (w.heap.size + 1) 3 (by omega) (by omega)
  clear ho hb fr
  go_wp2
  refine bodyPost_ret (v := lcV l A1 c1) (by simp [results, Tryd.results29, go_sem, *]) rfl ?_
  refine ⟨A1, c1, rfl, own_base (b := w.heap.size) (own_off (own_off (own_off (own_off (own_off (own_off HO.out ?_) ?_) ?_) ?_) ?_) ?_) ?_, Below.setCell (Below.setCell (Below.setCell (Below.setCell (Below.setCell (Below.setCell HB.out ?_ _) ?_ _) ?_ _) ?_ _) ?_ _) ?_ _⟩
  all_goals first | omega | (simp; done) | (simp; omega)

def lcEq (a b : Lc) : Bool := a.sch == b.sch && (a.host == b.host && (a.path == b.path && a.qu == b.qu))
theorem lcEq_iff (a b : Lc) : lcEq a b = true ↔ a = b := by
  obtain ⟨a1, a2, a3, a4⟩ := a
  obtain ⟨b1, b2, b3, b4⟩ := b
  simp [lcEq]
set_option maxRecDepth 100000 in
set_option maxHeartbeats 4000000 in
theorem laws_eqLocation (a b : Lc) (A A' : Option Addr) (c c' : Nat) (w : World) (hp : Rd w w.heap.size A (scells a.path)) (hq : Rd w w.heap.size A' (scells b.path)) (hn : a.path.length ≤ maxLen) :
    Calls Tryd.prog 30 #[lcV a A c, lcV b A' c'] w fun e w' => e = .returned (.bool (lcEq a b)) ∧ Below w.heap.size w w' := by
  have HEQ : Hid (lcEq a b = (a.sch == b.sch && (a.host == b.host && (a.path == b.path && a.qu == b.qu)))) := rfl
  have HP := Lib.hid hp
  have HQ := Lib.hid hq
  have HB0 := Lib.hid (Below.alloc (o := .cells (lcCells b A' c') 43) (Below.alloc (o := .cells (lcCells a A c) 43) (Below.refl w.heap.size w) (Nat.le_refl _)) (by simp <;> omega))
  clear hp hq
  cases h1 : (a.sch == b.sch)
  · have h1n : (a.sch != b.sch) = true := by rw [bne, h1]; rfl
    have HR : Hid (lcEq a b = false) := by show _ = _; rw [HEQ.out, h1]; rfl
    go_enter Tryd.func30, Tryd.ntmps30
    go_wp2
    go_ret
    exact ⟨ret_bool HR.out.symm, Below.alloc (Below.alloc (Below.refl _ _) (Nat.le_refl _) _) (by simp <;> omega) _⟩
  · have h1n : (a.sch != b.sch) = false := by rw [bne, h1]; rfl
    cases h2 : (a.host == b.host)
    · have h2n : (a.host != b.host) = true := by rw [bne, h2]; rfl
      have HR : Hid (lcEq a b = false) := by show _ = _; rw [HEQ.out, h1, h2]; rfl
      go_enter Tryd.func30, Tryd.ntmps30
      go_wp2
      go_ret
      exact ⟨ret_bool HR.out.symm, Below.alloc (Below.alloc (Below.refl _ _) (Nat.le_refl _) _) (by simp <;> omega) _⟩
    · have h2n : (a.host != b.host) = false := by rw [bne, h2]; rfl
      cases h3 : (a.path == b.path)
      · have HR : Hid (lcEq a b = false) := by show _ = _; rw [HEQ.out, h1, h2, h3]; rfl
        go_enter Tryd.func30, Tryd.ntmps30
        go_wp2_with fail
        refine (laws_eqStringS a.path b.path A A' c c' _ (HP.out.below HB0.out |>.more (by simp <;> omega)) (HQ.out.below HB0.out |>.more (by simp <;> omega)) hn).mono ?_
        rintro e w1 ⟨rfl, hb⟩
        have HB := Lib.hid (HB0.out.trans (hb.mono (by simp <;> omega)))
        have k0 : w1.cell? ⟨w.heap.size, 3, none⟩ = some (sv a.qu) := (hb.cell (by simp <;> omega)).trans (by go_simp)
        have k1 : w1.cell? ⟨w.heap.size + 1, 3, none⟩ = some (sv b.qu) := (hb.cell (by simp <;> omega)).trans (by go_simp)
        clear hb
        rw [h3]
        go_wp2
        go_ret
        exact ⟨ret_bool HR.out.symm, HB.out⟩
      · cases h4 : (a.qu == b.qu)
        · have h4n : (a.qu != b.qu) = true := by rw [bne, h4]; rfl
          have HR : Hid (lcEq a b = false) := by show _ = _; rw [HEQ.out, h1, h2, h3, h4]; rfl
          go_enter Tryd.func30, Tryd.ntmps30
          go_wp2_with fail
          refine (laws_eqStringS a.path b.path A A' c c' _ (HP.out.below HB0.out |>.more (by simp <;> omega)) (HQ.out.below HB0.out |>.more (by simp <;> omega)) hn).mono ?_
          rintro e w1 ⟨rfl, hb⟩
          have HB := Lib.hid (HB0.out.trans (hb.mono (by simp <;> omega)))
          have k0 : w1.cell? ⟨w.heap.size, 3, none⟩ = some (sv a.qu) := (hb.cell (by simp <;> omega)).trans (by go_simp)
          have k1 : w1.cell? ⟨w.heap.size + 1, 3, none⟩ = some (sv b.qu) := (hb.cell (by simp <;> omega)).trans (by go_simp)
          clear hb
          rw [h3]
          go_wp2
          go_ret
          exact ⟨ret_bool HR.out.symm, HB.out⟩
        · have h4n : (a.qu != b.qu) = false := by rw [bne, h4]; rfl
          have HR : Hid (lcEq a b = true) := by show _ = _; rw [HEQ.out, h1, h2, h3, h4]; rfl
          go_enter Tryd.func30, Tryd.ntmps30
          go_wp2_with fail
          refine (laws_eqStringS a.path b.path A A' c c' _ (HP.out.below HB0.out |>.more (by simp <;> omega)) (HQ.out.below HB0.out |>.more (by simp <;> omega)) hn).mono ?_
          rintro e w1 ⟨rfl, hb⟩
          have HB := Lib.hid (HB0.out.trans (hb.mono (by simp <;> omega)))
          have k0 : w1.cell? ⟨w.heap.size, 3, none⟩ = some (sv a.qu) := (hb.cell (by simp <;> omega)).trans (by go_simp)
          have k1 : w1.cell? ⟨w.heap.size + 1, 3, none⟩ = some (sv b.qu) := (hb.cell (by simp <;> omega)).trans (by go_simp)
          clear hb
          rw [h3]
          go_wp2
          go_ret
          exact ⟨ret_bool HR.out.symm, HB.out⟩
end Go.Proofs.YtmijnkiopmpjdaaDoor
