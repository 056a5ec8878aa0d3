/- Valid data: walks. -/
import Derived.Test.YtginghjgfippiaaPartWP
import Derived.Test.YtginghjgfippiaaText
import Derived.Deep.QuietTactic
import Derived.BigQuiet
import Derived.Deep.CutBlock
import Derived.RegionTactic
namespace Go.Proofs.Ytginghjgfippiaa
open Go.RowKit

namespace Fd
def ok (f : Fd) : Bool := nameOk f.name && (valOk f.text && (decide (f.items.length ≤ 5) && f.items.all valOk))
/-- the field at j is right, and none before it has its name -/
def okAt (xs : List Fd) (j : Nat) : Bool := match xs[j]? with
  | some f => ok f && !((xs.take j).any fun g => g.name == f.name)
  | none => true
def oks (xs : List Fd) : Bool := (List.range xs.length).all (okAt xs)
def valid (xs : List Fd) : Bool := decide (xs.length ≤ 8) && oks xs
theorem oks_no {xs : List Fd} {j : Nat} (h : j < xs.length) (hn : okAt xs j = false) : oks xs = false := by
  rw [Bool.eq_false_iff]
  intro h2
  have := List.all_eq_true.1 h2 j (List.mem_range.2 h)
  rw [hn] at this
  cases this
theorem oks_yes {xs : List Fd} (h : ∀ j, j < xs.length → okAt xs j = true) : oks xs = true := List.all_eq_true.2 fun j hj => h j (List.mem_range.1 hj)
theorem okAt_of {xs : List Fd} {j : Nat} (h : j < xs.length) {f : Fd} (e : xs[j] = f) : okAt xs j = (ok f && !((xs.take j).any fun g => g.name == f.name)) := by
  unfold okAt
  rw [List.getElem?_eq_getElem h, e]
theorem any_no {xs : List Fd} {n : Tx} {j : Nat} (h : ∀ q (hq : q < xs.length), q < j → (xs[q].name == n) = false) : ((xs.take j).any fun g => g.name == n) = false := by
  rw [Bool.eq_false_iff]
  intro hh
  obtain ⟨y, hy, e⟩ := List.any_eq_true.1 hh
  obtain ⟨q, hq, rfl⟩ := List.mem_iff_getElem.1 hy
  rw [List.length_take] at hq
  rw [List.getElem_take] at e
  rw [h q (by omega) (by omega)] at e
  cases e
theorem any_yes {xs : List Fd} {n : Tx} {j q : Nat} (hq : q < xs.length) (hj : q < j) (h : (xs[q].name == n) = true) : ((xs.take j).any fun g => g.name == n) = true := by
  refine List.any_eq_true.2 ⟨xs[q], ?_, h⟩
  refine List.mem_iff_getElem.2 ⟨q, by rw [List.length_take]; omega, by rw [List.getElem_take]⟩
end Fd
theorem RdF.at2 {w : World} {S : Nat → Prop} {A : Option Addr} {xs : List Fd} (h : RdF w S A xs) {k : Nat} (hk : k < xs.length) : ∃ b o, A = some ⟨b, o, none⟩ ∧ S b ∧ ∃ n t hh is Ai ci, xs[k] = ⟨n, t, hh, is⟩ ∧ RdIn w S Ai (scells is) ∧ is.length ≤ ci ∧
    w.cell? ⟨b, o + k * 4, none⟩ = some (sv n) ∧ w.cell? ⟨b, o + k * 4 + 1, none⟩ = some (sv t) ∧ w.cell? ⟨b, o + k * 4 + 2, none⟩ = some (.bool hh) ∧ w.cell? ⟨b, o + k * 4 + 3, none⟩ = some (.slice Ai is.length ci) := by
  obtain ⟨b, o, e, hb, hin⟩ := h (by intro e; rw [e] at hk; simp at hk)
  obtain ⟨v, ⟨c0, c1, c2, c3, e5, h0, h1, h2, h3⟩, hv⟩ := hin k hk
  refine ⟨b, o, e, hb, ?_⟩
  generalize xs[k] = x at *
  obtain ⟨n, t, hh, is⟩ := x
  obtain ⟨Ai, ci, e6, g1, g2⟩ := hv
  subst e6
  injection e5 with e5
  simp only [Array.mk.injEq, List.cons.injEq, and_true] at e5
  obtain ⟨rfl, rfl, rfl, rfl⟩ := e5
  exact ⟨n, t, hh, is, Ai, ci, rfl, g1, g2, h0, h1, h2, h3⟩
theorem is_len {is : List Tx} {x : Tx} (h : x ∈ is) {a m : Nat} (hs : a + (is.length + ssize is) ≤ m) : x.length ≤ m := by
  have : x.length ≤ ssize is := by
    clear hs
    induction is with
    | nil => cases h
    | cons z s ih2 =>
      rcases List.mem_cons.1 h with e | h
      · subst e; simp only [ssize]; omega
      · have := ih2 h; simp only [ssize]; omega
  omega
set_option maxRecDepth 100000 in
set_option maxHeartbeats 400000 in
theorem spec_l11Value (l : Tx) (hl : l.length ≤ maxLen) (w : World) :
    Calls Try.prog 49 #[.string ⟨l.toArray⟩] w fun e w' => e = .returned (.bool (valOk l)) ∧ w = w' := by
  have hl' := hl
  unfold maxLen at hl
  go_enter Try.func49, Try.ntmps49
  by_cases h4 : (l.length : Int) ≤ 40
  · have HL := Lib.hid hl'
    clear hl'
    go_wp2_with (go_at_call 44; refine (spec_TextValid _ HL.out _).mono ?_; rintro e w' ⟨rfl, rfl⟩)
    go_ret
    exact ⟨ret_bool (by simp [valOk]; omega), rfl⟩
  · go_wp2
    go_ret
    exact ⟨ret_bool (by simp [valOk]; omega), rfl⟩
set_option maxRecDepth 20000 in
set_option maxHeartbeats 8000000 in
theorem impl_DataValid (xs : List Fd) (A : Option Addr) (c : Nat) (w : World) (hx : RdF w (All w) A xs) (hc : xs.length ≤ c) (hs : xs.length + Fd.sizes xs ≤ 1048576) :
    Calls Try.prog 17 #[.slice A xs.length c] w fun e w' => e = .returned (.bool (Fd.valid xs)) ∧ Below w.heap.size w w' := by
  have HX := Lib.hid hx
  have HSZ := Lib.hid hs
  have hxl : xs.length ≤ 1048576 := by omega
  clear hx hs
  by_cases h8 : 8 < xs.length
  · have h8' : decide ((8 : Int) < (xs.length : Int)) = true := by simp; omega
    have HE : Hid (Fd.valid xs = false) := by show _ = _; unfold Fd.valid; rw [show decide (xs.length ≤ 8) = false by simp; omega]; rfl
    clear h8
    go_enter Try.func17, Try.ntmps17
    go_wp2
    go_ret
    exact ⟨ret_bool HE.out.symm, Below.refl _ _⟩
  have h8' : decide ((8 : Int) < (xs.length : Int)) = false := by simp; omega
  have HVL : Hid (Fd.valid xs = Fd.oks xs) := by show _ = _; unfold Fd.valid; rw [show decide (xs.length ≤ 8) = true by simp; omega]; rfl
  clear h8
  go_enter Try.func17, Try.ntmps17
  go_wp2
  go_loopw [14] (fun i wr => ∃ (j : Nat), j ≤ xs.length ∧ i = .int .i64 j ∧ (∀ q, q < j → Fd.okAt xs q = true) ∧ Below w.heap.size w wr) (fun i _ => xs.length - (intOf i).toNat)
  case atStart => exact ⟨0, Nat.zero_le _, rfl, fun q hq => absurd hq (by omega), Below.refl _ _⟩
  case round =>
    obtain ⟨j, hj, rfl, hall, hb⟩ := hrel
    have HB := Lib.hid hb
    have HALL := Lib.hid hall
    clear hall
    by_cases hlt : j < xs.length
    · obtain ⟨b1, o1, rfl, hb1, nn, tt, hh, is, Ai, ci, hxj, g1, g2, c0, c1, c2, c3⟩ := (HX.out.now hb).at2 hlt
      have hst := Fd.okAt_of hlt hxj
      have HNO := Lib.hid (fun h => Fd.oks_no (xs := xs) hlt h)
      have hmem := Fd.size_mem (List.getElem_mem hlt)
      rw [hxj] at hmem
      unfold Fd.size at hmem
      dsimp only at hmem
      have hsz := HSZ.out
      have hnn : nn.length ≤ 1048576 := by omega
      have htt : tt.length ≤ 1048576 := by omega
      have his : is.length ≤ 1048576 := by omega
      have HIT : Hid (∀ x ∈ is, x.length ≤ 1048576) := fun x hx => is_len (a := 0) hx (by omega)
      have HAT : Hid (Fd.okAt xs j = ((nameOk nn && (valOk tt && decide (is.length ≤ 5))) && (is.all valOk && !((xs.take j).any fun g => g.name == nn)))) := by
        show _ = _
        rw [hst]
        unfold Fd.ok
        simp only [Bool.and_assoc]
      have HA1 := Lib.hid ((Below.refl wr.heap.size wr).alloc (Nat.le_refl _) (.cells (fdCells nn tt hh Ai is.length ci) 54))
      have HBB := Lib.hid (HB.out.trans (HA1.out.mono HB.out.size))
      have HXB := Lib.hid (heap_alloc_new wr (.cells (fdCells nn tt hh Ai is.length ci) 54))
      have HI := Lib.hid ((g1.keep (fun _ hp => HA1.out.cell hp) (fun _ h => Nat.lt_of_lt_of_le h HA1.out.size)).rd (B := (wr.alloc (.cells (fdCells nn tt hh Ai is.length ci) 54)).heap.size) (fun _ h => h))
      have hsz1 : wr.heap.size < (wr.alloc (.cells (fdCells nn tt hh Ai is.length ci) 54)).heap.size := by simp
      have hst5 : decide (is.length ≤ 5) = !decide ((5 : Int) < (is.length : Int)) := by
        rw [Bool.eq_iff_iff]; simp; omega
      clear hst hb hmem hsz g1 hxj
      go_upto_region 6 with fail
      generalize wr.alloc (.cells (fdCells nn tt hh Ai is.length ci) 54) = wb at *
      obtain ⟨⟨f0, f1, f2, f3⟩, -⟩ := box_fourF HXB.out
      clear c0 c1 c2 c3
      have HNV := Lib.hid (fun w => impl_NameValid nn (by unfold maxLen; omega) w)
      have HVO := Lib.hid (fun w => impl_valueOk tt (by unfold maxLen; omega) w)
      obtain ⟨g, hg⟩ : ∃ g, g = (nameOk nn && (valOk tt && decide (is.length ≤ 5))) := ⟨_, rfl⟩
      rw [← hg] at HAT
      rw [hst5] at hg
      have HG := Lib.hid hg
      generalize nameOk nn = q0 at *
      generalize valOk tt = q1 at *
      generalize hq2 : decide ((5 : Int) < (is.length : Int)) = q2 at *
      clear hg hst5
      go_cut [34] (fun t wx => t = .bool (!g) ∧ wx = wb)
      case first =>
        go_wp2_with fail
        refine (HNV.out _).mono ?_
        rintro e9 w2 ⟨rfl, rfl⟩
        cases q0
        · go_wp2
          go_meet
          case rel => exact ⟨by rw [HG.out]; rfl, rfl⟩
        go_wp2_with fail
        refine (HVO.out _).mono ?_
        rintro e9 w2 ⟨rfl, rfl⟩
        cases q1
        · go_wp2
          go_meet
          case rel => exact ⟨by rw [HG.out]; rfl, rfl⟩
        cases q2
        all_goals
          go_wp2
          go_meet
          (case rel => exact ⟨by rw [HG.out]; rfl, rfl⟩)
      case rest =>
        obtain ⟨rfl, rfl⟩ := hcut
        clear HNV HVO HG hq2
        rename World => wb
        cases g with
        | false =>
          have HE : Hid (Fd.valid xs = false) := by
            show _ = _
            rw [HVL.out]
            refine HNO.out ?_
            rw [HAT.out]
            rfl
          go_wp2
          go_ret
          exact ⟨ret_bool HE.out.symm, HBB.out⟩
        | true =>
          rw [Bool.true_and] at HAT
          go_wp2
          go_loop [38] (fun i => ∃ q : Nat, q ≤ is.length ∧ i = .int .i64 q ∧ (is.drop q).all valOk = is.all valOk) (fun i => is.length - (intOf i).toNat)
          case atStart => exact ⟨0, Nat.zero_le _, rfl, rfl⟩
          case round =>
            obtain ⟨q, hq, rfl, hav⟩ := hrel
            have HAV := Lib.hid hav
            clear hav
            by_cases hlq : q < is.length
            · obtain ⟨b2, o2, rfl, hb2, d0⟩ := HI.out.str hlq
              have hxx := HIT.out _ (List.getElem_mem hlq)
              have hav2 := HAV.out
              rw [drop_cons is q hlq, List.all_cons] at hav2
              have HAV2 := Lib.hid hav2
              clear hav2
              have HVX := Lib.hid (fun w => impl_valueOk is[q] (by unfold maxLen; omega) w)
              generalize is[q] = x at *
              generalize valOk x = qv at *
              go_wp2_with fail
              refine (HVX.out _).mono ?_
              rintro e9 w2 ⟨rfl, rfl⟩
              cases qv
              · have HE : Hid (Fd.valid xs = false) := by
                  show _ = _
                  rw [HVL.out]
                  refine HNO.out ?_
                  rw [HAT.out, ← HAV2.out]; rfl
                go_wp2
                go_ret
                exact ⟨ret_bool HE.out.symm, HBB.out⟩
              · rw [Bool.true_and] at HAV2
                go_wp2
                go_round
                case rel => refine ⟨trivial, ?_⟩; (repeat apply Exists.intro); exact ⟨⟨q + 1, by omega, by go_num, HAV2.out⟩, rfl⟩
                case measure => simp [intOf]; omega
            · have hav2 := HAV.out
              rw [drop_nil is q (by omega), List.all_nil] at hav2
              rw [← hav2, Bool.true_and] at HAT
              clear hav2
              have hjc : j ≤ c := by omega
              go_wp2
              go_loopw [50] (fun i wx => ∃ (q : Nat), q ≤ j ∧ i = .int .i64 q ∧ (∀ p (hp : p < xs.length), p < q → (xs[p].name == nn) = false) ∧ Below wb.heap.size wb wx) (fun i _ => j - (intOf i).toNat)
              case atStart => exact ⟨0, Nat.zero_le _, rfl, fun p _ hp => absurd hp (by omega), Below.refl _ _⟩
              case round =>
                obtain ⟨q, hq, rfl, hne, hbx⟩ := hrel
                have HNE := Lib.hid hne
                have HBX := Lib.hid hbx
                by_cases hlq : q < j
                · have hlq2 : q < xs.length := by omega
                  obtain ⟨b2, o2, hA2, hb2, n2, t2, h2, is2, Ai2, ci2, hxq, k1, k2, d0, d1, d2, d3⟩ := (HX.out.now (HBB.out.trans (hbx.mono HBB.out.size))).at2 hlq2
                  injection hA2 with hA2
                  injection hA2 with hA2a hA2b
                  subst hA2a hA2b
                  have HY := Lib.hid (fun (h : (n2 == nn) = true) => Fd.any_yes (xs := xs) (n := nn) hlq2 hlq (by rw [hxq]; exact h))
                  have HZ : Hid ((n2 == nn) = false → ∀ p (hp : p < xs.length), p < q + 1 → (xs[p].name == nn) = false) := by
                    show _ → _
                    intro h p hp hpq
                    rcases Nat.lt_or_ge p q with h1 | h1
                    · exact HNE.out p hp h1
                    · have : p = q := by omega
                      subst this; rw [hxq]; exact h
                  have HA2 := Lib.hid ((Below.refl wr.heap.size wr).alloc (Nat.le_refl _) (.cells (fdCells n2 t2 h2 Ai2 is2.length ci2) 54))
                  have HB2 := Lib.hid (HBX.out.trans (HA2.out.mono HBX.out.size))
                  have HXB2 := Lib.hid (heap_alloc_new wr (.cells (fdCells n2 t2 h2 Ai2 is2.length ci2) 54))
                  have HXF2 := Lib.hid (bx_keep HXB.out HB2.out)
                  clear hne hbx hxq k1 k2
                  go_upto_region 17 with fail
                  generalize wr.alloc (.cells (fdCells n2 t2 h2 Ai2 is2.length ci2) 54) = wy at *
                  obtain ⟨⟨y0, y1, y2, y3⟩, -⟩ := box_fourF HXB2.out
                  obtain ⟨⟨z0, z1, z2, z3⟩, -⟩ := box_fourF HXF2.out
                  cases hq9 : (n2 == nn)
                  · have HZ2 := Lib.hid (HZ.out hq9)
                    clear HZ HY
                    go_wp2
                    go_roundw
                    case rel => first | exact ⟨q + 1, by omega, by go_num, HZ2.out, HB2.out⟩ | ((repeat apply Exists.intro); exact ⟨⟨q + 1, by omega, by go_num, HZ2.out, HB2.out⟩, rfl⟩)
                    case measure => simp [intOf]; omega
                  · have HE : Hid (Fd.valid xs = false) := by
                      show _ = _
                      rw [HVL.out]
                      refine HNO.out ?_
                      rw [HAT.out, HY.out hq9]; rfl
                    clear HZ HY
                    go_wp2
                    go_ret
                    exact ⟨ret_bool HE.out.symm, HBB.out.trans (HB2.out.mono HBB.out.size)⟩
                · have HAT2 : Hid (Fd.okAt xs j = true) := by
                    show _ = _
                    rw [HAT.out, Fd.any_no (fun p hp h => HNE.out p hp (by omega))]; rfl
                  clear hne hbx
                  go_wp2
                  go_roundw
                  case rel => first | exact ⟨j + 1, by omega, by go_num, fun q hq => by
                      rcases Nat.lt_or_ge q j with h | h
                      · exact HALL.out q h
                      · have : q = j := by omega
                        subst this; exact HAT2.out, HBB.out.trans (HBX.out.mono HBB.out.size)⟩ | ((repeat apply Exists.intro); exact ⟨⟨j + 1, by omega, by go_num, fun q hq => by
                      rcases Nat.lt_or_ge q j with h | h
                      · exact HALL.out q h
                      · have : q = j := by omega
                        subst this; exact HAT2.out, HBB.out.trans (HBX.out.mono HBB.out.size)⟩, rfl⟩)
                  case measure => simp [intOf]; omega
    · have hnm : Fd.oks xs = true := Fd.oks_yes (fun q hq => HALL.out q (by omega))
      have HE : Hid (Fd.valid xs = true) := by show _ = _; rw [HVL.out, hnm]
      clear hnm
      go_wp2
      go_ret
      exact ⟨ret_bool HE.out.symm, HB.out⟩
set_option maxRecDepth 20000 in
set_option maxHeartbeats 8000000 in
theorem spec_DataValid (xs : List Fd) (A : Option Addr) (c : Nat) (w : World) (hx : RdF w (All w) A xs) (hs : xs.length + Fd.sizes xs ≤ 1048576) :
    Calls Try.prog 30 #[.slice A xs.length c] w fun e w' => e = .returned (.bool (Fd.valid xs)) ∧ Below w.heap.size w w' := by
  have HX := Lib.hid hx
  have HSZ := Lib.hid hs
  have hxl : xs.length ≤ 1048576 := by omega
  clear hx hs
  have HVL : Hid (Fd.oks xs = false → Fd.valid xs = false) := fun h => by unfold Fd.valid; rw [h, Bool.and_false]
  go_enter Try.func30, Try.ntmps30
  go_wp2
  go_loopw [3] (fun i wr => ∃ (j : Nat), j ≤ xs.length ∧ i = .int .i64 j ∧ (∀ q, q < j → Fd.okAt xs q = true) ∧ Below w.heap.size w wr) (fun i _ => xs.length - (intOf i).toNat)
  case atStart => exact ⟨0, Nat.zero_le _, rfl, fun q hq => absurd hq (by omega), Below.refl _ _⟩
  case round =>
    obtain ⟨j, hj, rfl, hall, hb⟩ := hrel
    have HB := Lib.hid hb
    have HALL := Lib.hid hall
    clear hall
    by_cases hlt : j < xs.length
    · obtain ⟨b1, o1, rfl, hb1, nn, tt, hh, is, Ai, ci, hxj, g1, g2, c0, c1, c2, c3⟩ := (HX.out.now hb).at2 hlt
      have hst := Fd.okAt_of hlt hxj
      have HNO := Lib.hid (fun h => Fd.oks_no (xs := xs) hlt h)
      have hmem := Fd.size_mem (List.getElem_mem hlt)
      rw [hxj] at hmem
      unfold Fd.size at hmem
      dsimp only at hmem
      have hsz := HSZ.out
      have hnn : nn.length ≤ 1048576 := by omega
      have htt : tt.length ≤ 1048576 := by omega
      have his : is.length ≤ 1048576 := by omega
      have HIT : Hid (∀ x ∈ is, x.length ≤ 1048576) := fun x hx => is_len (a := 0) hx (by omega)
      have HAT : Hid (Fd.okAt xs j = ((nameOk nn && (valOk tt && decide (is.length ≤ 5))) && (is.all valOk && !((xs.take j).any fun g => g.name == nn)))) := by
        show _ = _
        rw [hst]
        unfold Fd.ok
        simp only [Bool.and_assoc]
      have HA1 := Lib.hid ((Below.refl wr.heap.size wr).alloc (Nat.le_refl _) (.cells (fdCells nn tt hh Ai is.length ci) 54))
      have HBB := Lib.hid (HB.out.trans (HA1.out.mono HB.out.size))
      have HXB := Lib.hid (heap_alloc_new wr (.cells (fdCells nn tt hh Ai is.length ci) 54))
      have HI := Lib.hid ((g1.keep (fun _ hp => HA1.out.cell hp) (fun _ h => Nat.lt_of_lt_of_le h HA1.out.size)).rd (B := (wr.alloc (.cells (fdCells nn tt hh Ai is.length ci) 54)).heap.size) (fun _ h => h))
      have hsz1 : wr.heap.size < (wr.alloc (.cells (fdCells nn tt hh Ai is.length ci) 54)).heap.size := by simp
      have hst5 : decide (is.length ≤ 5) = !decide ((5 : Int) < (is.length : Int)) := by
        rw [Bool.eq_iff_iff]; simp; omega
      clear hst hb hmem hsz g1 hxj
      go_upto_region 5 with fail
      generalize wr.alloc (.cells (fdCells nn tt hh Ai is.length ci) 54) = wb at *
      obtain ⟨⟨f0, f1, f2, f3⟩, -⟩ := box_fourF HXB.out
      clear c0 c1 c2 c3
      have HNV := Lib.hid (fun w => spec_NameValid nn (by unfold maxLen; omega) w)
      have HVO := Lib.hid (fun w => spec_l11Value tt (by unfold maxLen; omega) w)
      obtain ⟨g, hg⟩ : ∃ g, g = (nameOk nn && (valOk tt && decide (is.length ≤ 5))) := ⟨_, rfl⟩
      rw [← hg] at HAT
      rw [hst5] at hg
      have HG := Lib.hid hg
      generalize nameOk nn = q0 at *
      generalize valOk tt = q1 at *
      generalize hq2 : decide ((5 : Int) < (is.length : Int)) = q2 at *
      clear hg hst5
      go_cut [32] (fun t wx => t = .bool (!g) ∧ wx = wb)
      case first =>
        go_wp2_with fail
        refine (HNV.out _).mono ?_
        rintro e9 w2 ⟨rfl, rfl⟩
        cases q0
        · go_wp2
          go_meet
          case rel => exact ⟨by rw [HG.out]; rfl, rfl⟩
        go_wp2_with fail
        refine (HVO.out _).mono ?_
        rintro e9 w2 ⟨rfl, rfl⟩
        cases q1
        · go_wp2
          go_meet
          case rel => exact ⟨by rw [HG.out]; rfl, rfl⟩
        cases q2
        all_goals
          go_wp2
          go_meet
          (case rel => exact ⟨by rw [HG.out]; rfl, rfl⟩)
      case rest =>
        obtain ⟨rfl, rfl⟩ := hcut
        clear HNV HVO HG hq2
        rename World => wb
        cases g with
        | false =>
          have HE : Hid (Fd.valid xs = false) := by
            show _ = _
            refine HVL.out ?_
            refine HNO.out ?_
            rw [HAT.out]
            rfl
          go_wp2
          go_ret
          exact ⟨ret_bool HE.out.symm, HBB.out⟩
        | true =>
          rw [Bool.true_and] at HAT
          go_wp2
          go_loop [5] (fun i => ∃ q : Nat, q ≤ is.length ∧ i = .int .i64 q ∧ (is.drop q).all valOk = is.all valOk) (fun i => is.length - (intOf i).toNat)
          case atStart => exact ⟨0, Nat.zero_le _, rfl, rfl⟩
          case round =>
            obtain ⟨q, hq, rfl, hav⟩ := hrel
            have HAV := Lib.hid hav
            clear hav
            by_cases hlq : q < is.length
            · obtain ⟨b2, o2, rfl, hb2, d0⟩ := HI.out.str hlq
              have hxx := HIT.out _ (List.getElem_mem hlq)
              have hav2 := HAV.out
              rw [drop_cons is q hlq, List.all_cons] at hav2
              have HAV2 := Lib.hid hav2
              clear hav2
              have HVX := Lib.hid (fun w => spec_l11Value is[q] (by unfold maxLen; omega) w)
              generalize is[q] = x at *
              generalize valOk x = qv at *
              go_wp2_with fail
              refine (HVX.out _).mono ?_
              rintro e9 w2 ⟨rfl, rfl⟩
              cases qv
              · have HE : Hid (Fd.valid xs = false) := by
                  show _ = _
                  refine HVL.out ?_
                  refine HNO.out ?_
                  rw [HAT.out, ← HAV2.out]; rfl
                go_wp2
                go_ret
                exact ⟨ret_bool HE.out.symm, HBB.out⟩
              · rw [Bool.true_and] at HAV2
                go_wp2
                go_round
                case rel => refine ⟨trivial, ?_⟩; (repeat apply Exists.intro); exact ⟨⟨q + 1, by omega, by go_num, HAV2.out⟩, rfl⟩
                case measure => simp [intOf]; omega
            · have hav2 := HAV.out
              rw [drop_nil is q (by omega), List.all_nil] at hav2
              rw [← hav2, Bool.true_and] at HAT
              clear hav2
              go_wp2
              go_loopw [6] (fun i wx => ∃ (q : Nat), q ≤ j ∧ i = .int .i64 q ∧ (∀ p (hp : p < xs.length), p < q → (xs[p].name == nn) = false) ∧ Below wb.heap.size wb wx) (fun i _ => j - (intOf i).toNat)
              case atStart => exact ⟨0, Nat.zero_le _, rfl, fun p _ hp => absurd hp (by omega), Below.refl _ _⟩
              case round =>
                obtain ⟨q, hq, rfl, hne, hbx⟩ := hrel
                have HNE := Lib.hid hne
                have HBX := Lib.hid hbx
                by_cases hlq : q < j
                · have hlq2 : q < xs.length := by omega
                  obtain ⟨b2, o2, hA2, hb2, n2, t2, h2, is2, Ai2, ci2, hxq, k1, k2, d0, d1, d2, d3⟩ := (HX.out.now (HBB.out.trans (hbx.mono HBB.out.size))).at2 hlq2
                  injection hA2 with hA2
                  injection hA2 with hA2a hA2b
                  subst hA2a hA2b
                  have HY := Lib.hid (fun (h : (n2 == nn) = true) => Fd.any_yes (xs := xs) (n := nn) hlq2 hlq (by rw [hxq]; exact h))
                  have HZ : Hid ((n2 == nn) = false → ∀ p (hp : p < xs.length), p < q + 1 → (xs[p].name == nn) = false) := by
                    show _ → _
                    intro h p hp hpq
                    rcases Nat.lt_or_ge p q with h1 | h1
                    · exact HNE.out p hp h1
                    · have : p = q := by omega
                      subst this; rw [hxq]; exact h
                  have HXF2 := Lib.hid (bx_keep HXB.out HBX.out)
                  obtain ⟨⟨z0, z1, z2, z3⟩, -⟩ := box_fourF HXF2.out
                  clear hne hbx hxq k1 k2 d1 d2 d3
                  cases hq9 : (n2 == nn)
                  · have HZ2 := Lib.hid (HZ.out hq9)
                    clear HZ HY
                    go_wp2_with fail
                    go_quiet (fail)
                    go_wp2
                    go_roundw
                    case rel => first | exact ⟨q + 1, by omega, by go_num, HZ2.out, below_drewN HBX.out _⟩ | ((repeat apply Exists.intro); exact ⟨⟨q + 1, by omega, by go_num, HZ2.out, below_drewN HBX.out _⟩, rfl⟩)
                    case measure => simp [intOf]; omega
                  · have HE : Hid (Fd.valid xs = false) := by
                      show _ = _
                      refine HVL.out ?_
                      refine HNO.out ?_
                      rw [HAT.out, HY.out hq9]; rfl
                    clear HZ HY
                    go_wp2_with fail
                    go_quiet (fail)
                    go_wp2
                    go_ret
                    exact ⟨ret_bool HE.out.symm, below_drewN (HBB.out.trans (HBX.out.mono HBB.out.size)) _⟩
                · have HAT2 : Hid (Fd.okAt xs j = true) := by
                    show _ = _
                    rw [HAT.out, Fd.any_no (fun p hp h => HNE.out p hp (by omega))]; rfl
                  clear hne hbx
                  go_wp2
                  go_roundw
                  case rel => first | exact ⟨j + 1, by omega, by go_num, fun q hq => by
                      rcases Nat.lt_or_ge q j with h | h
                      · exact HALL.out q h
                      · have : q = j := by omega
                        subst this; exact HAT2.out, HBB.out.trans (HBX.out.mono HBB.out.size)⟩ | ((repeat apply Exists.intro); exact ⟨⟨j + 1, by omega, by go_num, fun q hq => by
                      rcases Nat.lt_or_ge q j with h | h
                      · exact HALL.out q h
                      · have : q = j := by omega
                        subst this; exact HAT2.out, HBB.out.trans (HBX.out.mono HBB.out.size)⟩, rfl⟩)
                  case measure => simp [intOf]; omega
    · have hnm : Fd.oks xs = true := Fd.oks_yes (fun q hq => HALL.out q (by omega))
      have HE : Hid (Fd.valid xs = decide (xs.length ≤ 8)) := by show _ = _; unfold Fd.valid; rw [hnm, Bool.and_true]
      clear hnm
      by_cases h8 : 8 < xs.length
      · have h8' : decide ((xs.length : Int) ≤ 8) = false := by simp; omega
        rw [show decide (xs.length ≤ 8) = false by simp; omega] at HE
        clear h8
        go_wp2
        go_ret
        exact ⟨ret_bool HE.out.symm, HB.out⟩
      · have h8' : decide ((xs.length : Int) ≤ 8) = true := by simp; omega
        rw [show decide (xs.length ≤ 8) = true by simp; omega] at HE
        clear h8
        go_wp2
        go_ret
        exact ⟨ret_bool HE.out.symm, HB.out⟩
end Go.Proofs.Ytginghjgfippiaa
