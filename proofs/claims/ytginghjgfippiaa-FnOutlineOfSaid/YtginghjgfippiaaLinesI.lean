/- The program's outline: walks. -/
import Derived.Test.YtginghjgfippiaaLinesP
import Derived.Deep.CutBlock
namespace Go.Proofs.Ytginghjgfippiaa
open Go.RowKit

/-- the contract of the lines of parts, at a depth -/
def LnC (f : FuncId) (d : Nat) : Prop := ∀ (xs : List Pt) (pv : Bool) (b : Tx) (A : Option Addr) (c : Nat) (w : World), Pt.oks xs d pv = true → RdP w (All w) A xs → xs.length + Pt.sizes xs ≤ 1048576 → b.length + d ≤ 10 →
    Calls Try.prog f #[.slice A xs.length c, sv b] w (NewS w (Pt.lines xs b))
theorem manys_two {xs : List Pt} (hs : xs.length + Pt.sizes xs ≤ 1048576) : Pt.manys xs ≤ 2000000 := by
  have := Pt.manys_size (xs := xs) (fun x _ => Pt.many_size x)
  omega
theorem line_1 (t n b : Tx) (xs ys : List Pt) : Pt.line (.mk 1 t n xs ys) b = [b ++ ([116, 101, 120, 116, 32] ++ t)] := by simp [Pt.line]
theorem line_2 (t n b : Tx) (xs ys : List Pt) : Pt.line (.mk 2 t n xs ys) b = [b ++ ([104, 111, 108, 101, 32] ++ n)] := by simp [Pt.line]
theorem line_4 (t n b : Tx) (xs ys : List Pt) : Pt.line (.mk 4 t n xs ys) b = (b ++ ([101, 97, 99, 104, 32] ++ n)) :: Pt.lines xs (b ++ [32]) := by simp [Pt.line]
theorem line_3 (t n b : Tx) (xs ys : List Pt) (h : ys = []) : Pt.line (.mk 3 t n xs ys) b = (b ++ ([105, 102, 32] ++ n)) :: Pt.lines xs (b ++ [32]) := by simp [Pt.line, h]
theorem line_3e (t n b : Tx) (xs ys : List Pt) (h : ys ≠ []) : Pt.line (.mk 3 t n xs ys) b = (b ++ ([105, 102, 32] ++ n)) :: (Pt.lines xs (b ++ [32]) ++ (b ++ [101, 108, 115, 101]) :: Pt.lines ys (b ++ [32])) := by simp [Pt.line, h]
theorem LSt.two {w wv : World} {bx c : Nat} {cs : Array Value} {A : Option Addr} {ls : List Tx} (h : LSt w wv bx cs A c ls) : wv.heap[bx]? = some (.cells cs 66 (0, 0)) := h.box
set_option maxRecDepth 20000 in
set_option maxHeartbeats 8000000 in
theorem impl_outline_of (d : Nat) (ih : ∀ d', d = d' + 1 → LnC 23 d') : LnC 23 d := by
  intro xs pv b A c w hok hx hs hbd
  have HX := Lib.hid hx
  have HOK := Lib.hid hok
  have HS := Lib.hid hs
  have IH := Lib.hid ih
  have hxl : xs.length ≤ 1048576 := by omega
  clear hx hok hs ih
  go_enter Try.func23, Try.ntmps23
  go_wp2
  go_loopw [5, 11] (fun l i wr => ∃ (j : Nat) (A1 : Option Addr) (c1 : Nat) (ls : List Tx), j ≤ xs.length ∧ i = .int .i64 j ∧ l = .slice A1 ls.length c1 ∧ ls = Pt.lines (xs.take j) b ∧ OwnS wr w.heap.size A1 c1 ls ∧ Below w.heap.size w wr) (fun _ i _ => xs.length - (intOf i).toNat)
  case atStart => exact ⟨0, some ⟨w.heap.size, 0, none⟩, 0, [], Nat.zero_le _, rfl, rfl, by simp [Pt.lines], ownS_empty w _ (Nat.le_refl _), (Below.refl _ _).alloc (Nat.le_refl _) _⟩
  case round =>
    obtain ⟨j, A1, c1, ls, hj, rfl, rfl, hls, ho, hb⟩ := hrel
    have HB := Lib.hid hb
    have HO := Lib.hid ho
    have HLS := Lib.hid hls
    clear hb ho hls
    by_cases hlt : j < xs.length
    · obtain ⟨b1, o1, rfl, hb1, kd, tt, nn, us, vs, Ap, cp, Ao, co, hxj, g1, g2, g3, g4, c0, c1', c2, c3, c4⟩ := HX.out.at2 hlt
      have hmem : Pt.mk kd tt nn us vs ∈ xs := by rw [← hxj]; exact List.getElem_mem hlt
      have hkk := Pt.ok_kinds (Pt.oks_mem HOK.out hmem)
      have hsz := Pt.size_mem hmem
      simp only [Pt.size] at hsz
      have hS := HS.out
      have hll : ls.length ≤ 4000000 := by
        rw [HLS.out]
        have h1 := Pt.lines_len (xs.take j) b
        have h2 := Pt.manys_take_le xs j
        have h3 := manys_two hS
        omega
      have htt : tt.length ≤ 1048576 := by omega
      have hnn : nn.length ≤ 1048576 := by omega
      have hus : us.length + Pt.sizes us ≤ 1048576 := by omega
      have hvs : vs.length + Pt.sizes vs ≤ 1048576 := by omega
      have HTK := Lib.hid (Pt.lines_take xs b j hlt)
      rw [hxj, ← HLS.out] at HTK
      have c0 := (HB.out.cell (p := ⟨b1, o1 + j * 5, none⟩) hb1).trans c0
      have c1 := (HB.out.cell (p := ⟨b1, o1 + j * 5 + 1, none⟩) hb1).trans c1'
      have c2 := (HB.out.cell (p := ⟨b1, o1 + j * 5 + 2, none⟩) hb1).trans c2
      have c3 := (HB.out.cell (p := ⟨b1, o1 + j * 5 + 3, none⟩) hb1).trans c3
      have c4 := (HB.out.cell (p := ⟨b1, o1 + j * 5 + 4, none⟩) hb1).trans c4
      have hA0 := (Below.refl wr.heap.size wr).alloc (Nat.le_refl _) (.cells (ptCells kd tt nn Ap us.length cp Ao vs.length co) 66)
      have HL : Hid (LSt w (wr.alloc (.cells (ptCells kd tt nn Ap us.length cp Ao vs.length co) 66)) wr.heap.size (ptCells kd tt nn Ap us.length cp Ao vs.length co) A1 _ ls) := ⟨ownS_keep HO.out hA0, heap_alloc_new _ _, by simp, HB.out.size, fun k hk => by have := (HO.out.lt k hk).2; omega, HB.out.trans (hA0.mono HB.out.size)⟩
      have HC1 := Lib.hid (fun w2 (hb : Below w.heap.size w w2) => g3.now hb)
      have HC2 := Lib.hid (fun w2 (hb : Below w.heap.size w w2) => g4.now hb)
      have HG1 := Lib.hid g1
      have HG2 := Lib.hid g2
      have HXJ := Lib.hid hxj
      clear hmem hsz hS hxj g1 g2 g3 g4 c1' hA0
      go_upto_region 5 with fail
      generalize wr.alloc (.cells (ptCells kd tt nn Ap us.length cp Ao vs.length co) 66) = wv at *
      clear c0 c1 c2 c3 c4
      obtain ⟨⟨f0, f1, f2, f3, f4⟩, -⟩ := box_five HL.out.box
      rcases hkk with ⟨rfl, rfl, rfl⟩ | ⟨rfl, rfl, rfl⟩ | ⟨hk, d', rfl, hx, hy⟩
      · rw [line_1] at HTK
        have HLA := Lib.hid (HL.out.keep ((Below.refl wv.heap.size wv).alloc (Nat.le_refl _) (.cells #[sv (b ++ ([116, 101, 120, 116, 32] ++ tt))] 9)))
        have hsw : w.heap.size ≤ (wv.alloc (.cells #[sv (b ++ ([116, 101, 120, 116, 32] ++ tt))] 9)).heap.size := HLA.out.bel.size
        go_wp2_with (at_builtin; refine app_strb_at rfl _ _ rfl w.heap.size A1 _ ls (b ++ ([116, 101, 120, 116, 32] ++ tt)) (by rfl) HLA.out.own wv.heap.size (by rfl) (heap_alloc_new wv _) (by omega) hsw ?_; intro A3 c3 wv ho3 hg3 hbk3; have HL := Lib.hid (HLA.out.app ho3 hg3 hbk3); clear hsw ho3 hg3 hbk3 HLA f0 f1 f2 f3 f4; generalize hl2 : ls ++ [b ++ ([116, 101, 120, 116, 32] ++ tt)] = l2 at *; have HL2 := Lib.hid hl2; have hll2 : l2.length ≤ 4000001 := (by rw [← hl2]; simp; omega); clear hl2; obtain ⟨⟨f0, f1, f2, f3, f4⟩, -⟩ := box_five HL.out.box)
        go_roundw
        case rel => exact ⟨j + 1, _, _, l2, by omega, by go_num, rfl, by rw [HTK.out]; try exact HL2.out.symm, HL.out.own, HL.out.bel⟩
        case measure => simp [intOf]; omega
      · rw [line_2] at HTK
        have HLA := Lib.hid (HL.out.keep ((Below.refl wv.heap.size wv).alloc (Nat.le_refl _) (.cells #[sv (b ++ ([104, 111, 108, 101, 32] ++ nn))] 9)))
        have hsw : w.heap.size ≤ (wv.alloc (.cells #[sv (b ++ ([104, 111, 108, 101, 32] ++ nn))] 9)).heap.size := HLA.out.bel.size
        go_wp2_with (at_builtin; refine app_strb_at rfl _ _ rfl w.heap.size A1 _ ls (b ++ ([104, 111, 108, 101, 32] ++ nn)) (by rfl) HLA.out.own wv.heap.size (by rfl) (heap_alloc_new wv _) (by omega) hsw ?_; intro A3 c3 wv ho3 hg3 hbk3; have HL := Lib.hid (HLA.out.app ho3 hg3 hbk3); clear hsw ho3 hg3 hbk3 HLA f0 f1 f2 f3 f4; generalize hl2 : ls ++ [b ++ ([104, 111, 108, 101, 32] ++ nn)] = l2 at *; have HL2 := Lib.hid hl2; have hll2 : l2.length ≤ 4000001 := (by rw [← hl2]; simp; omega); clear hl2; obtain ⟨⟨f0, f1, f2, f3, f4⟩, -⟩ := box_five HL.out.box)
        go_roundw
        case rel => exact ⟨j + 1, _, _, l2, by omega, by go_num, rfl, by rw [HTK.out]; try exact HL2.out.symm, HL.out.own, HL.out.bel⟩
        case measure => simp [intOf]; omega
      · have HCU := Lib.hid (fun w2 (hb : Below w.heap.size w w2) => IH.out d' rfl us false (b ++ [32]) Ap cp w2 hx (HC1.out w2 hb) hus (by simp; omega))
        have HCV := Lib.hid (fun w2 (hb : Below w.heap.size w w2) => IH.out d' rfl vs false (b ++ [32]) Ao co w2 hy (HC2.out w2 hb) hvs (by simp; omega))
        have hlu : (Pt.lines us (b ++ [32])).length ≤ 4000000 := by
          have h1 := Pt.lines_len us (b ++ [32])
          have h3 := manys_two hus
          omega
        have hlv : (Pt.lines vs (b ++ [32])).length ≤ 4000000 := by
          have h1 := Pt.lines_len vs (b ++ [32])
          have h3 := manys_two hvs
          omega
        clear hx hy
        rcases hk with rfl | ⟨rfl, hv⟩
        ·
          by_cases hv : vs = []
          ·
            have hv0 : (0 < vs.length) = False := by rw [hv]; simp
            rw [line_3 _ _ _ _ _ hv] at HTK
            clear hv
            have HLA := Lib.hid (HL.out.keep ((Below.refl wv.heap.size wv).alloc (Nat.le_refl _) (.cells #[sv (b ++ ([105, 102, 32] ++ nn))] 9)))
            have hsw : w.heap.size ≤ (wv.alloc (.cells #[sv (b ++ ([105, 102, 32] ++ nn))] 9)).heap.size := HLA.out.bel.size
            go_wp2_with (at_builtin; refine app_strb_at rfl _ _ rfl w.heap.size A1 _ ls (b ++ ([105, 102, 32] ++ nn)) (by rfl) HLA.out.own wv.heap.size (by rfl) (heap_alloc_new wv _) (by omega) hsw ?_; intro A3 c3 wv ho3 hg3 hbk3; have HL := Lib.hid (HLA.out.app ho3 hg3 hbk3); clear hsw ho3 hg3 hbk3 HLA f0 f1 f2 f3 f4; generalize hl2 : ls ++ [b ++ ([105, 102, 32] ++ nn)] = l2 at *; have HL2 := Lib.hid hl2; have hll2 : l2.length ≤ 4000001 := (by rw [← hl2]; simp; omega); clear hl2; obtain ⟨⟨f0, f1, f2, f3, f4⟩, -⟩ := box_five HL.out.box)
            refine (HCU.out wv HL.out.bel).mono ?_
            rintro e w5 ⟨A5, c5, rfl, ho5, hb5⟩
            have HL5 := Lib.hid (HL.out.keep hb5)
            have HO5 := Lib.hid (ownS_rd ho5)
            have hs5 := HL5.out.bel.size
            clear ho5 hb5
            go_wp2_with (at_builtin; refine app_texts_at rfl _ _ rfl w.heap.size A3 c3 l2 (by rfl) HL5.out.own A5 c5 (Pt.lines us (b ++ [32])) (by rfl) HO5.out (by omega) (by omega) hs5 ?_; intro A7 c7 wv ho7 hg7 hbk7; have HL := Lib.hid (HL5.out.app ho7 hg7 hbk7); clear hs5 ho7 hg7 hbk7 HL5 HO5 f0 f1 f2 f3 f4; generalize hl3 : l2 ++ Pt.lines us (b ++ [32]) = l3 at *; have HL3 := Lib.hid hl3; have hll3 : l3.length ≤ 8000001 := (by rw [← hl3]; simp; omega); clear hl3; obtain ⟨⟨f0, f1, f2, f3, f4⟩, -⟩ := box_five HL.out.box)
            go_roundw
            case rel => exact ⟨j + 1, _, _, l3, by omega, by go_num, rfl, by rw [HTK.out]; rw [← HL3.out, ← HL2.out]; simp, HL.out.own, HL.out.bel⟩
            case measure => simp [intOf]; omega
          ·
            have hv0 : (0 < vs.length) = True := by rw [eq_iff_iff, iff_true]; exact List.length_pos_iff.2 hv
            rw [line_3e _ _ _ _ _ hv] at HTK
            clear hv
            have HLA := Lib.hid (HL.out.keep ((Below.refl wv.heap.size wv).alloc (Nat.le_refl _) (.cells #[sv (b ++ ([105, 102, 32] ++ nn))] 9)))
            have hsw : w.heap.size ≤ (wv.alloc (.cells #[sv (b ++ ([105, 102, 32] ++ nn))] 9)).heap.size := HLA.out.bel.size
            go_wp2_with (at_builtin; refine app_strb_at rfl _ _ rfl w.heap.size A1 _ ls (b ++ ([105, 102, 32] ++ nn)) (by rfl) HLA.out.own wv.heap.size (by rfl) (heap_alloc_new wv _) (by omega) hsw ?_; intro A3 c3 wv ho3 hg3 hbk3; have HL := Lib.hid (HLA.out.app ho3 hg3 hbk3); clear hsw ho3 hg3 hbk3 HLA f0 f1 f2 f3 f4; generalize hl2 : ls ++ [b ++ ([105, 102, 32] ++ nn)] = l2 at *; have HL2 := Lib.hid hl2; have hll2 : l2.length ≤ 4000001 := (by rw [← hl2]; simp; omega); clear hl2; obtain ⟨⟨f0, f1, f2, f3, f4⟩, -⟩ := box_five HL.out.box)
            refine (HCU.out wv HL.out.bel).mono ?_
            rintro e w5 ⟨A5, c5, rfl, ho5, hb5⟩
            have HL5 := Lib.hid (HL.out.keep hb5)
            have HO5 := Lib.hid (ownS_rd ho5)
            have hs5 := HL5.out.bel.size
            clear ho5 hb5
            go_wp2_with (first | (at_builtin; refine app_texts_at rfl _ _ rfl w.heap.size A3 c3 l2 (by rfl) HL5.out.own A5 c5 (Pt.lines us (b ++ [32])) (by rfl) HO5.out (by omega) (by omega) hs5 ?_; intro A7 c7 wv ho7 hg7 hbk7; have HL := Lib.hid (HL5.out.app ho7 hg7 hbk7); clear hs5 ho7 hg7 hbk7 HL5 HO5 f0 f1 f2 f3 f4; generalize hl3 : l2 ++ Pt.lines us (b ++ [32]) = l3 at *; have HL3 := Lib.hid hl3; have hll3 : l3.length ≤ 8000001 := (by rw [← hl3]; simp; omega); clear hl3; obtain ⟨⟨f0, f1, f2, f3, f4⟩, -⟩ := box_five HL.out.box) | (at_builtin; have HLA := Lib.hid (HL.out.keep ((Below.refl (World.heap _).size _).alloc (Nat.le_refl _) (.cells #[sv (b ++ [101, 108, 115, 101])] 9))); refine app_strb_at rfl _ _ rfl w.heap.size A7 c7 l3 (b ++ [101, 108, 115, 101]) (by rfl) HLA.out.own _ (by rfl) (heap_alloc_new _ _) (by omega) HLA.out.bel.size ?_; intro A3 c3 wv ho3 hg3 hbk3; have HL := Lib.hid (HLA.out.app ho3 hg3 hbk3); clear ho3 hg3 hbk3 HLA f0 f1 f2 f3 f4; generalize hl4 : l3 ++ [b ++ [101, 108, 115, 101]] = l4 at *; have HL4 := Lib.hid hl4; have hll4 : l4.length ≤ 8000002 := (by rw [← hl4]; simp; omega); clear hl4; obtain ⟨⟨f0, f1, f2, f3, f4⟩, -⟩ := box_five HL.out.box))
            refine (HCV.out wv HL.out.bel).mono ?_
            rintro e w5 ⟨A5, c5, rfl, ho5, hb5⟩
            have HL5 := Lib.hid (HL.out.keep hb5)
            have HO5 := Lib.hid (ownS_rd ho5)
            have hs5 := HL5.out.bel.size
            clear ho5 hb5
            go_wp2_with (at_builtin; refine app_texts_at rfl _ _ rfl w.heap.size A3 c3 l4 (by rfl) HL5.out.own A5 c5 (Pt.lines vs (b ++ [32])) (by rfl) HO5.out (by omega) (by omega) hs5 ?_; intro A8 c8 wv ho7 hg7 hbk7; have HL := Lib.hid (HL5.out.app ho7 hg7 hbk7); clear hs5 ho7 hg7 hbk7 HL5 HO5; generalize hl5 : l4 ++ Pt.lines vs (b ++ [32]) = l5 at *; have HL5 := Lib.hid hl5; clear hl5)
            go_roundw
            case rel => exact ⟨j + 1, _, _, l5, by omega, by go_num, rfl, by rw [HTK.out]; rw [← HL5.out, ← HL4.out, ← HL3.out, ← HL2.out]; simp, HL.out.own, HL.out.bel⟩
            case measure => simp [intOf]; omega
        ·
          rw [line_4] at HTK
          clear hv
          have HLA := Lib.hid (HL.out.keep ((Below.refl wv.heap.size wv).alloc (Nat.le_refl _) (.cells #[sv (b ++ ([101, 97, 99, 104, 32] ++ nn))] 9)))
          have hsw : w.heap.size ≤ (wv.alloc (.cells #[sv (b ++ ([101, 97, 99, 104, 32] ++ nn))] 9)).heap.size := HLA.out.bel.size
          go_wp2_with (at_builtin; refine app_strb_at rfl _ _ rfl w.heap.size A1 _ ls (b ++ ([101, 97, 99, 104, 32] ++ nn)) (by rfl) HLA.out.own wv.heap.size (by rfl) (heap_alloc_new wv _) (by omega) hsw ?_; intro A3 c3 wv ho3 hg3 hbk3; have HL := Lib.hid (HLA.out.app ho3 hg3 hbk3); clear hsw ho3 hg3 hbk3 HLA f0 f1 f2 f3 f4; generalize hl2 : ls ++ [b ++ ([101, 97, 99, 104, 32] ++ nn)] = l2 at *; have HL2 := Lib.hid hl2; have hll2 : l2.length ≤ 4000001 := (by rw [← hl2]; simp; omega); clear hl2; obtain ⟨⟨f0, f1, f2, f3, f4⟩, -⟩ := box_five HL.out.box)
          refine (HCU.out wv HL.out.bel).mono ?_
          rintro e w5 ⟨A5, c5, rfl, ho5, hb5⟩
          have HL5 := Lib.hid (HL.out.keep hb5)
          have HO5 := Lib.hid (ownS_rd ho5)
          have hs5 := HL5.out.bel.size
          clear ho5 hb5
          go_wp2_with (at_builtin; refine app_texts_at rfl _ _ rfl w.heap.size A3 c3 l2 (by rfl) HL5.out.own A5 c5 (Pt.lines us (b ++ [32])) (by rfl) HO5.out (by omega) (by omega) hs5 ?_; intro A7 c7 wv ho7 hg7 hbk7; have HL := Lib.hid (HL5.out.app ho7 hg7 hbk7); clear hs5 ho7 hg7 hbk7 HL5 HO5 f0 f1 f2 f3 f4; generalize hl3 : l2 ++ Pt.lines us (b ++ [32]) = l3 at *; have HL3 := Lib.hid hl3; have hll3 : l3.length ≤ 8000001 := (by rw [← hl3]; simp; omega); clear hl3; obtain ⟨⟨f0, f1, f2, f3, f4⟩, -⟩ := box_five HL.out.box)
          go_roundw
          case rel => exact ⟨j + 1, _, _, l3, by omega, by go_num, rfl, by rw [HTK.out]; rw [← HL3.out, ← HL2.out]; simp, HL.out.own, HL.out.bel⟩
          case measure => simp [intOf]; omega
    · have HT : Hid (ls = Pt.lines xs b) := by
        show _ = _
        rw [HLS.out, List.take_of_length_le (by omega)]
      go_wp2
      go_ret
      exact ⟨A1, _, by rw [HT.out]; rfl, HT.out ▸ HO.out, HB.out⟩
theorem impl_outline : ∀ d, LnC 23 d
  | 0 => impl_outline_of 0 (fun _ e => by omega)
  | d + 1 => impl_outline_of (d + 1) (fun d' e => by cases e; exact impl_outline d)
end Go.Proofs.Ytginghjgfippiaa
