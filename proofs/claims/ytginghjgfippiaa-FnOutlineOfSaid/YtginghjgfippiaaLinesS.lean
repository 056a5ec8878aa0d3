/- The reference's outline: walks (printed by mkls.py). -/
import Derived.Test.YtginghjgfippiaaLinesI
import Derived.Test.YtginghjgfippiaaTypedL
import Derived.Test.YtginghjgfippiaaDrawT
namespace Go.Proofs.Ytginghjgfippiaa
open Go.RowKit

theorem wp_app_strb {o : Oper} {a : Act} {Q : Exit → Act → World → Prop} {K : Act → World → Prop} {W : World} (s x : Operand)
    (ho : o.op = .call { callee := .builtin .append, args := #[s, x], argTypes := #[25, 25] }) (base : Nat) (A : Option Addr) (c : Nat) (xs : List Tx) (u : Tx)
    (hs : a.eval s = .slice A xs.length c) (hown : OwnS W base A c xs) (b : Nat) (hx : a.eval x = .slice (some ⟨b, 0, none⟩) 1 1) (hh : W.heap[b]? = some (.cells #[sv u] 9 (0, 0))) (hlen : xs.length ≤ 4294967296) (hbase : base ≤ W.heap.size)
    (h : ∀ A' c' w', OwnS w' base A' c' (xs ++ [u]) → W.grownBy w' (Value.ownBlock (.slice A xs.length c)) → (Value.ownBlock (.slice A' (xs.length + 1) c') = Value.ownBlock (.slice A xs.length c) ∨ Value.ownBlock (.slice A' (xs.length + 1) c') = some W.heap.size) → K (a.put o.dst (.slice A' (xs ++ [u]).length c')) w') :
    o.wp Try.prog a W K Q := by
  obtain ⟨i0, hi, hz0, hz1, hz2⟩ := info_parts Try.info_string
  obtain ⟨v', w', hr, h2, h3, _, h5⟩ := run_append_own_at (P := Try.prog) (w := W) base 25 o.type _ i0 _ 1 16 Try.underlying25 hi hz0 hz1 hz2 rfl (by decide) _ xs.length (xs.map sv) hown ⟨b, 0, none⟩ 1 1 [sv u] rfl (by
    intro j z hj
    rw [Addr.add_lit, Nat.zero_add, cell_of_row W b j _ _ _ hh]
    simpa using hj) (by
    intro z hz
    simp at hz
    subst hz
    rfl) (by unfold maxLen; omega) (by omega) hbase
  obtain ⟨A', c', rfl, _, _⟩ := own_shape h2
  have hl : (xs ++ [u]).length = xs.length + 1 := by simp
  rw [hl] at h
  unfold Oper.wp execOp
  simp only [ho, resolve, invoke, builtin, Sem.run_bind, Sem.run_pure, Result.andThen_ok, List.map_toArray, List.map_cons, List.map_nil, hs, hx, hr]
  refine h A' c' w' ?_ h3 h5
  unfold OwnS
  rw [List.length_append, List.map_append]
  exact h2
/-- the call's own lines -/
def fApp (N B : Nat) (l : List Tx) (row : Option Nat) : TyB := fun w v => ∃ A c, v = .slice A l.length c ∧ OwnS w B A c l ∧ (Value.ownBlock (.slice A l.length c) = row ∨ ∀ j, Value.ownBlock (.slice A l.length c) = some j → N ≤ j)
theorem keeps_fApp {N B : Nat} {l : List Tx} {row : Option Nat} : ∀ w w' x, KB w w' → fApp N B l row w x → fApp N B l row w' x := fun _ _ _ hk ⟨A, c, h1, h2, h3⟩ => ⟨A, c, h1, ownS_keep h2 hk, h3⟩
/-- lines that a call in the region has made -/
def fLn (N : Nat) (l : List Tx) : TyB := fun w v => ∃ A c, v = .slice A l.length c ∧ OwnS w N A c l
theorem keeps_fLn {N : Nat} {l : List Tx} : ∀ w w' x, KB w w' → fLn N l w x → fLn N l w' x := fun _ _ _ hk ⟨A, c, h1, h2⟩ => ⟨A, c, h1, ownS_keep h2 hk⟩
theorem keeps2_bRow {N n : Nat} {cs : Array Value} {t : TypeId} {row : Option Nat} {v v' : World} {x : Value} (hr : ∀ j, row = some j → j < N) (hk : v.grownBy v' row) (hf : bRow N n cs t v x) : bRow N n cs t v' x := by
  obtain ⟨b, e, h2, h3⟩ := hf
  exact ⟨b, e, h2, (hk.block b (lt_of_block h3) (fun e2 => by have := hr _ e2.symm; omega)).trans h3⟩
theorem keeps2_fLn {N : Nat} {l : List Tx} {row : Option Nat} {v v' : World} {x : Value} (hr : ∀ j, row = some j → j < N) (hk : v.grownBy v' row) (hf : fLn N l v x) : fLn N l v' x := by
  obtain ⟨A, c, e, h2⟩ := hf
  refine ⟨A, c, e, h2.kept hk ?_⟩
  cases hv : Value.ownBlock (.slice A l.length c) with
  | none => exact .inl rfl
  | some k => exact .inr fun e2 => by have := hr _ e2.symm; have := ownS_row h2 k hv; omega
set_option maxRecDepth 20000 in
set_option maxHeartbeats 8000000 in
theorem spec_l24Lines_of (d : Nat) (ih : ∀ d', d = d' + 1 → LnC 24 d') : LnC 24 d := by
  intro xs pv b A c w hok hx hs hbd
  have HX := Lib.hid hx
  have HOK := Lib.hid hok
  have HS := Lib.hid hs
  have IH := Lib.hid ih
  have hxl : xs.length ≤ 1048576 := by omega
  clear hx hok hs ih
  go_enter Try.func24, Try.ntmps24
  go_wp2
  go_loopw [5, 6] (fun l i wr => ∃ (j : Nat) (A1 : Option Addr) (c1 : Nat) (ls : List Tx), j ≤ xs.length ∧ i = .int .i64 j ∧ l = .slice A1 ls.length c1 ∧ ls = Pt.lines (xs.take j) b ∧ OwnS wr w.heap.size A1 c1 ls ∧ Below w.heap.size w wr) (fun _ i _ => xs.length - (intOf i).toNat)
  case atStart => exact ⟨0, some ⟨w.heap.size, 0, none⟩, 0, [], Nat.zero_le _, rfl, rfl, by simp [Pt.lines], ownS_empty w _ (Nat.le_refl _), (Below.refl _ _).alloc (Nat.le_refl _) _⟩
  case round =>
    obtain ⟨j, A1, c1, ls, hj, rfl, rfl, hls, ho, hb⟩ := hrel
    have HB := Lib.hid hb
    have HO := Lib.hid ho
    have HLS := Lib.hid hls
    clear hb ho hls
    by_cases hlt : j < xs.length
    · obtain ⟨b1, o1, rfl, hb1, kd, tt, nn, us, vs, Ap, cp, Ao, co, hxj, g1, g2, g3, g4, d0, d1, d2, d3, d4⟩ := HX.out.at2 hlt
      have hmem : Pt.mk kd tt nn us vs ∈ xs := by rw [← hxj]; exact List.getElem_mem hlt
      have hkk := Pt.ok_kinds (Pt.oks_mem HOK.out hmem)
      have hsz := Pt.size_mem hmem
      simp only [Pt.size] at hsz
      have hS := HS.out
      have hll : ls.length ≤ 4000000 := by
        rw [HLS.out]
        have h1 := Pt.lines_len (xs.take j) b
        have h2 := Pt.manys_take_le xs j
        have h3 := manys_two hS
        omega
      have htt : tt.length ≤ 1048576 := by omega
      have hnn : nn.length ≤ 1048576 := by omega
      have hus : us.length + Pt.sizes us ≤ 1048576 := by omega
      have hvs : vs.length + Pt.sizes vs ≤ 1048576 := by omega
      have HTK := Lib.hid (Pt.lines_take xs b j hlt)
      rw [hxj, ← HLS.out] at HTK
      have d0 := (HB.out.cell (p := ⟨b1, o1 + j * 5, none⟩) hb1).trans d0
      have d1 := (HB.out.cell (p := ⟨b1, o1 + j * 5 + 1, none⟩) hb1).trans d1
      have d2 := (HB.out.cell (p := ⟨b1, o1 + j * 5 + 2, none⟩) hb1).trans d2
      have d3 := (HB.out.cell (p := ⟨b1, o1 + j * 5 + 3, none⟩) hb1).trans d3
      have d4 := (HB.out.cell (p := ⟨b1, o1 + j * 5 + 4, none⟩) hb1).trans d4
      have hA0 := (Below.refl wr.heap.size wr).alloc (Nat.le_refl _) (.cells (ptCells kd tt nn Ap us.length cp Ao vs.length co) 66)
      have HL : Hid (LSt w (wr.alloc (.cells (ptCells kd tt nn Ap us.length cp Ao vs.length co) 66)) wr.heap.size (ptCells kd tt nn Ap us.length cp Ao vs.length co) A1 c1 ls) := ⟨ownS_keep HO.out hA0, heap_alloc_new _ _, by simp, HB.out.size, fun k hk => by have := (HO.out.lt k hk).2; omega, HB.out.trans (hA0.mono HB.out.size)⟩
      have HC1 := Lib.hid (fun w2 (hb : Below w.heap.size w w2) => g3.now hb)
      have HC2 := Lib.hid (fun w2 (hb : Below w.heap.size w w2) => g4.now hb)
      have HG1 := Lib.hid g1
      have HG2 := Lib.hid g2
      have HXJ := Lib.hid hxj
      have HBS := Lib.hid HB.out.size
      clear hmem hsz hS hxj g1 g2 g3 g4 hA0
      go_upto_region 6 with fail
      generalize wr.alloc (.cells (ptCells kd tt nn Ap us.length cp Ao vs.length co) 66) = wv at *
      clear d0 d1 d2 d3 d4
      obtain ⟨⟨f0, f1, f2, f3, f4⟩, -⟩ := box_five HL.out.box
      rcases hkk with ⟨rfl, rfl, rfl⟩ | ⟨rfl, rfl, rfl⟩ | ⟨hk, d', rfl, hx, hy⟩
      · rw [line_1] at HTK
        have HLA := Lib.hid (HL.out.keep ((Below.refl wv.heap.size wv).alloc (Nat.le_refl _) (.cells #[sv (b ++ ([116, 101, 120, 116, 32] ++ tt))] 9)))
        have hsw : w.heap.size ≤ (wv.alloc (.cells #[sv (b ++ ([116, 101, 120, 116, 32] ++ tt))] 9)).heap.size := HLA.out.bel.size
        go_wp2_with (at_builtin; refine app_strb_at rfl _ _ rfl w.heap.size A1 _ ls (b ++ ([116, 101, 120, 116, 32] ++ tt)) (by rfl) HLA.out.own wv.heap.size (by rfl) (heap_alloc_new wv _) (by omega) hsw ?_; intro A3 c3 wv ho3 hg3 hbk3; have HL := Lib.hid (HLA.out.app ho3 hg3 hbk3); clear hsw ho3 hg3 hbk3 HLA f0 f1 f2 f3 f4; generalize hl2 : ls ++ [b ++ ([116, 101, 120, 116, 32] ++ tt)] = l2 at *; have HL2 := Lib.hid hl2; have hll2 : l2.length ≤ 4000001 := (by rw [← hl2]; simp; omega); clear hl2)
        go_wp2
        go_roundw
        case rel => exact ⟨j + 1, _, _, l2, by omega, by go_num, rfl, by rw [HTK.out]; try exact HL2.out.symm, HL.out.own, HL.out.bel⟩
        case measure => simp [intOf]; omega
      · rw [line_2] at HTK
        have HLA := Lib.hid (HL.out.keep ((Below.refl wv.heap.size wv).alloc (Nat.le_refl _) (.cells #[sv (b ++ ([104, 111, 108, 101, 32] ++ nn))] 9)))
        have hsw : w.heap.size ≤ (wv.alloc (.cells #[sv (b ++ ([104, 111, 108, 101, 32] ++ nn))] 9)).heap.size := HLA.out.bel.size
        go_wp2_with (at_builtin; refine app_strb_at rfl _ _ rfl w.heap.size A1 _ ls (b ++ ([104, 111, 108, 101, 32] ++ nn)) (by rfl) HLA.out.own wv.heap.size (by rfl) (heap_alloc_new wv _) (by omega) hsw ?_; intro A3 c3 wv ho3 hg3 hbk3; have HL := Lib.hid (HLA.out.app ho3 hg3 hbk3); clear hsw ho3 hg3 hbk3 HLA f0 f1 f2 f3 f4; generalize hl2 : ls ++ [b ++ ([104, 111, 108, 101, 32] ++ nn)] = l2 at *; have HL2 := Lib.hid hl2; have hll2 : l2.length ≤ 4000001 := (by rw [← hl2]; simp; omega); clear hl2)
        go_wp2
        go_roundw
        case rel => exact ⟨j + 1, _, _, l2, by omega, by go_num, rfl, by rw [HTK.out]; try exact HL2.out.symm, HL.out.own, HL.out.bel⟩
        case measure => simp [intOf]; omega
      · have HCU := Lib.hid (fun w2 (hb : Below w.heap.size w w2) => IH.out d' rfl us false (b ++ [32]) Ap cp w2 hx (HC1.out w2 hb) hus (by simp; omega))
        have HCV := Lib.hid (fun w2 (hb : Below w.heap.size w w2) => IH.out d' rfl vs false (b ++ [32]) Ao co w2 hy (HC2.out w2 hb) hvs (by simp; omega))
        have hlu : (Pt.lines us (b ++ [32])).length ≤ 4000000 := by
          have h1 := Pt.lines_len us (b ++ [32])
          have h3 := manys_two hus
          omega
        have hlv : (Pt.lines vs (b ++ [32])).length ≤ 4000000 := by
          have h1 := Pt.lines_len vs (b ++ [32])
          have h3 := manys_two hvs
          omega
        have hb10 : b.length ≤ 10 := by omega
        have hq1 : (9223372036854775807 < b.length + 1) = False := by rw [eq_iff_iff, iff_false]; omega
        have hq3 : (9223372036854775807 < b.length + 3) = False := by rw [eq_iff_iff, iff_false]; omega
        have hq4 : (9223372036854775807 < b.length + 4) = False := by rw [eq_iff_iff, iff_false]; omega
        have hq5 : (9223372036854775807 < b.length + 5) = False := by rw [eq_iff_iff, iff_false]; omega
        have hq3n : (9223372036854775807 < b.length + 3 + nn.length) = False := by rw [eq_iff_iff, iff_false]; omega
        have hq5n : (9223372036854775807 < b.length + 5 + nn.length) = False := by rw [eq_iff_iff, iff_false]; omega
        clear hx hy
        have HNE : Hid (∀ k, Value.ownBlock (.slice A1 ls.length c1) = some k → k < wv.heap.size) := fun k hk => (HL.out.own.lt k hk).2
        rcases hk with rfl | ⟨rfl, hv⟩
        ·
          by_cases hv : vs = []
          ·
            have hv0 : (0 < vs.length) = False := by rw [hv]; simp
            rw [line_3 _ _ _ _ _ hv] at HTK
            clear hv
            go_upto_region 7 with fail
            refine wp_region_typedL 13 (by kernel_rfl) (by kernel_rfl) (fun L v => wv.grownBy v (Value.ownBlock (.slice A1 ls.length c1)) ∧ (L 7 = false → Below wv.heap.size wv v)) (fun i v v' => if i = 7 then v.grownBy v' (Value.ownBlock (.slice A1 ls.length c1)) else KB v v') (fun i => ([bIs (.slice A1 ls.length c1), bIs (sv b), bIs (sv (b ++ [105, 102, 32])), bIs (.pointer (some ⟨wr.heap.size, 2, none⟩)), bIs (sv nn), bIs (sv (b ++ ([105, 102, 32] ++ nn))), bRow (World.heap wv).size 1 #[sv (b ++ ([105, 102, 32] ++ nn))] 9, fApp (World.heap wv).size w.heap.size (ls ++ [b ++ ([105, 102, 32] ++ nn)]) (Value.ownBlock (.slice A1 ls.length c1)), bIs (.pointer (some ⟨wr.heap.size, 3, none⟩)), bIs (.slice Ap us.length cp), bIs (sv b), bIs (sv (b ++ [32])), fLn (World.heap wv).size (Pt.lines us (b ++ [32]))] : List TyB).getD i bAny) ?hWL ?hkeepL ?hstepL ?hfinL
            case hWL => exact ⟨grown_drew (grown_refl _ _), fun _ => (Below.refl _ _).drew⟩
            case hkeepL =>
              intro i hi j hj hji v v' x hk hf
              have hjn : j = 0 ∨ j = 1 ∨ j = 2 ∨ j = 3 ∨ j = 4 ∨ j = 5 ∨ j = 6 ∨ j = 7 ∨ j = 8 ∨ j = 9 ∨ j = 10 ∨ j = 11 ∨ j = 12 := by omega
              by_cases h1 : i = 7
              · subst h1
                rw [if_pos rfl] at hk
                rcases hjn with rfl | rfl | rfl | rfl | rfl | rfl | rfl | rfl | rfl | rfl | rfl | rfl | rfl
                · exact hf
                · exact hf
                · exact hf
                · exact hf
                · exact hf
                · exact hf
                · exact keeps2_bRow HNE.out hk hf
                · exact absurd rfl hji
                · exact hf
                · exact hf
                · exact hf
                · exact hf
                · exact keeps2_fLn HNE.out hk hf
              · rw [if_neg h1] at hk
                rcases hjn with rfl | rfl | rfl | rfl | rfl | rfl | rfl | rfl | rfl | rfl | rfl | rfl | rfl
                · exact hf
                · exact hf
                · exact hf
                · exact hf
                · exact hf
                · exact hf
                · exact keeps_bRow _ _ _ hk hf
                · exact keeps_fApp _ _ _ hk hf
                · exact hf
                · exact hf
                · exact hf
                · exact hf
                · exact keeps_fLn _ _ _ hk hf
            case hstepL =>
              refine all_lt_succ (all_lt_succ (all_lt_succ (all_lt_succ (all_lt_succ (all_lt_succ (all_lt_succ (all_lt_succ (all_lt_succ (all_lt_succ (all_lt_succ (all_lt_succ (all_lt_succ all_lt_zero ?_) ?_) ?_) ?_) ?_) ?_) ?_) ?_) ?_) ?_) ?_) ?_) ?_
              · intro o ho L a v hL hV hb hd K Q hK; obtain rfl := Option.some.inj ho; have e0 : a.tmps[5]?.getD undef = .slice A1 ls.length c1 := (by rw [hb 5 (by decide +kernel)]; simp); go_simp; exact hK _ _ ⟨hV.1, fun h => hV.2 (by simpa [upd] using h)⟩ (show (if (_ : Nat) = 7 then _ else KB _ _) by rw [if_neg (by decide)]; exact kb_refl _) rfl
              · intro o ho L a v hL hV hb hd K Q hK; obtain rfl := Option.some.inj ho; have e0 : a.tmps[1]?.getD undef = sv b := (by rw [hb 1 (by decide +kernel)]; simp); go_simp; exact hK _ _ ⟨hV.1, fun h => hV.2 (by simpa [upd] using h)⟩ (show (if (_ : Nat) = 7 then _ else KB _ _) by rw [if_neg (by decide)]; exact kb_refl _) rfl
              · intro o ho L a v hL hV hb hd K Q hK; obtain rfl := Option.some.inj ho; have e0 := slotB (hd 1 (by kernel_rfl) 22 rfl); go_simp; exact hK _ _ ⟨hV.1, fun h => hV.2 (by simpa [upd] using h)⟩ (show (if (_ : Nat) = 7 then _ else KB _ _) by rw [if_neg (by decide)]; exact kb_refl _) rfl
              · intro o ho L a v hL hV hb hd K Q hK; obtain rfl := Option.some.inj ho; have e0 : a.tmps[7]?.getD undef = .pointer (some ⟨wr.heap.size, 0, none⟩) := (by rw [hb 7 (by decide +kernel)]; simp); go_simp; exact hK _ _ ⟨hV.1, fun h => hV.2 (by simpa [upd] using h)⟩ (show (if (_ : Nat) = 7 then _ else KB _ _) by rw [if_neg (by decide)]; exact kb_refl _) rfl
              · intro o ho L a v hL hV hb hd K Q hK; obtain rfl := Option.some.inj ho; have e0 := slotB (hd 3 (by kernel_rfl) 24 rfl); obtain ⟨⟨q0, q1, q2, q3, q4⟩, -⟩ := box_five ((hV.1.block wr.heap.size HL.out.lt (fun e2 => HL.out.ne _ e2.symm rfl)).trans HL.out.box); go_simp; exact hK _ _ ⟨hV.1, fun h => hV.2 (by simpa [upd] using h)⟩ (show (if (_ : Nat) = 7 then _ else KB _ _) by rw [if_neg (by decide)]; exact kb_refl _) rfl
              · intro o ho L a v hL hV hb hd K Q hK; obtain rfl := Option.some.inj ho; have e0 := slotB (hd 2 (by kernel_rfl) 23 rfl); have e1 := slotB (hd 4 (by kernel_rfl) 25 rfl); go_simp; exact hK _ _ ⟨hV.1, fun h => hV.2 (by simpa [upd] using h)⟩ (show (if (_ : Nat) = 7 then _ else KB _ _) by rw [if_neg (by decide)]; exact kb_refl _) rfl
              · intro o ho L a v hL hV hb hd K Q hK; obtain rfl := Option.some.inj ho; have e0 := slotB (hd 5 (by kernel_rfl) 26 rfl); go_simp; exact hK _ _ ⟨grown_trans hV.1 (World.grownBy_alloc _ _ _), fun h => (hV.2 (by simpa [upd] using h)).alloc (hV.2 (by simpa [upd] using h)).size _⟩ (show (if (_ : Nat) = 7 then _ else KB _ _) by rw [if_neg (by decide)]; exact (Below.refl _ _).alloc (Nat.le_refl _) _) ⟨_, rfl, hV.1.size, heap_alloc_new v _⟩
              · intro o ho L a v hL hV hb hd K Q hK; obtain rfl := Option.some.inj ho; have hbv := hV.2 hL; have e0 := slotB (hd 0 (by kernel_rfl) 21 rfl); obtain ⟨b5, e5, hb5, hh5⟩ := (hd 6 (by kernel_rfl) 27 rfl); have e5 := slotB e5; refine wp_app_strb _ _ rfl w.heap.size A1 _ ls (b ++ ([105, 102, 32] ++ nn)) (by first | exact e0 | (simp [go_sem]; exact e0)) (ownS_keep HL.out.own hbv) b5 (by first | exact e5 | (simp [go_sem]; exact e5)) hh5 (by omega) (by have := hbv.size; have := HL.out.bel.size; omega) ?_; intro A2 c2 v2 ho2 hg2 hbk2; exact hK _ _ ⟨grown_trans hV.1 hg2, fun h => by simp [upd] at h⟩ (show (if (7 : Nat) = 7 then _ else _) by rw [if_pos rfl]; exact hg2) ⟨A2, c2, rfl, ho2, hbk2.imp (fun e => by rw [List.length_append]; exact e) (fun e j hj => by rw [List.length_append] at hj; rw [show ([b ++ ([105, 102, 32] ++ nn)] : List Tx).length = 1 from rfl, e] at hj; injection hj with hj; have := hbv.size; omega)⟩
              · intro o ho L a v hL hV hb hd K Q hK; obtain rfl := Option.some.inj ho; have e0 : a.tmps[7]?.getD undef = .pointer (some ⟨wr.heap.size, 0, none⟩) := (by rw [hb 7 (by decide +kernel)]; simp); go_simp; exact hK _ _ ⟨hV.1, fun h => hV.2 (by simpa [upd] using h)⟩ (show (if (_ : Nat) = 7 then _ else KB _ _) by rw [if_neg (by decide)]; exact kb_refl _) rfl
              · intro o ho L a v hL hV hb hd K Q hK; obtain rfl := Option.some.inj ho; have e0 := slotB (hd 8 (by kernel_rfl) 29 rfl); obtain ⟨⟨q0, q1, q2, q3, q4⟩, -⟩ := box_five ((hV.1.block wr.heap.size HL.out.lt (fun e2 => HL.out.ne _ e2.symm rfl)).trans HL.out.box); go_simp; exact hK _ _ ⟨hV.1, fun h => hV.2 (by simpa [upd] using h)⟩ (show (if (_ : Nat) = 7 then _ else KB _ _) by rw [if_neg (by decide)]; exact kb_refl _) rfl
              · intro o ho L a v hL hV hb hd K Q hK; obtain rfl := Option.some.inj ho; have e0 : a.tmps[1]?.getD undef = sv b := (by rw [hb 1 (by decide +kernel)]; simp); go_simp; exact hK _ _ ⟨hV.1, fun h => hV.2 (by simpa [upd] using h)⟩ (show (if (_ : Nat) = 7 then _ else KB _ _) by rw [if_neg (by decide)]; exact kb_refl _) rfl
              · intro o ho L a v hL hV hb hd K Q hK; obtain rfl := Option.some.inj ho; have e0 := slotB (hd 10 (by kernel_rfl) 31 rfl); go_simp; exact hK _ _ ⟨hV.1, fun h => hV.2 (by simpa [upd] using h)⟩ (show (if (_ : Nat) = 7 then _ else KB _ _) by rw [if_neg (by decide)]; exact kb_refl _) rfl
              · intro o ho L a v hL hV hb hd K Q hK; obtain rfl := Option.some.inj ho; have e0 := slotB (hd 9 (by kernel_rfl) 30 rfl); have e1 := slotB (hd 11 (by kernel_rfl) 32 rfl); go_simp; refine (HCU.out v (HL.out.bel.trans (grown_to_below hV.1 HL.out.bel.size (ownS_row HL.out.own)))).mono ?_; rintro e v2 ⟨A5, c5, rfl, ho5, hb5⟩; exact hK _ _ ⟨grown_trans hV.1 (below_grownBy hb5 _), fun h => (hV.2 (by simpa [upd] using h)).trans (hb5.mono (hV.2 (by simpa [upd] using h)).size)⟩ (show (if (_ : Nat) = 7 then _ else KB _ _) by rw [if_neg (by decide)]; exact hb5) ⟨A5, c5, rfl, own_base ho5 hV.1.size⟩
            case hfinL =>
              intro vs' w5 L hL hV hF
              simp only [putAll, hdst, List.getElem?_cons_succ, List.getElem?_cons_zero, Option.bind, List.drop_succ_cons, List.drop_zero, Act.put]
              obtain ⟨A4, c4', h1, ho4, hor4⟩ := hF 7 (by omega)
              obtain ⟨A5, c5, h3, ho5⟩ := hF 12 (by omega)
              rw [h1, h3]
              have HL5 : Hid (LSt w w5 wr.heap.size (ptCells 3 tt nn Ap us.length cp Ao vs.length co) A4 c4' (ls ++ [b ++ ([105, 102, 32] ++ nn)])) := ⟨ho4, (hV.1.block _ HL.out.lt (fun e2 => HL.out.ne _ e2.symm rfl)).trans HL.out.box, Nat.lt_of_lt_of_le HL.out.lt hV.1.size, HL.out.ge, fun k hk => by
                rcases hor4 with e | e
                · exact HL.out.ne k (by rw [← e]; exact hk)
                · have := e k hk; have := HL.out.lt; omega, HL.out.bel.trans (grown_to_below hV.1 HL.out.bel.size (ownS_row HL.out.own))⟩
              have HO5 := Lib.hid (ownS_rd ho5)
              have hs5 := HL5.out.bel.size
              generalize hl2 : ls ++ [b ++ ([105, 102, 32] ++ nn)] = l2 at *
              have HL2 := Lib.hid hl2
              have hll2 : l2.length ≤ ls.length + 1 := by rw [← hl2]; simp
              clear hF h1 h3 hV hL ho4 ho5 hor4 hl2 f0 f1 f2 f3 f4
              go_simp
              go_wp2_with (at_builtin; refine app_texts_at rfl _ _ rfl w.heap.size A4 c4' l2 (by rfl) HL5.out.own A5 c5 (Pt.lines us (b ++ [32])) (by rfl) HO5.out (by omega) (by omega) hs5 ?_; intro A1 c1 wv ho7 hg7 hbk7; have HL := Lib.hid (HL5.out.app ho7 hg7 hbk7); clear hs5 ho7 hg7 hbk7 HL5 HO5; generalize hl3 : l2 ++ Pt.lines us (b ++ [32]) = ls at *; have HL3 := Lib.hid hl3; have hll3 : ls.length ≤ l2.length + (Pt.lines us (b ++ [32])).length := (by rw [← hl3]; simp); clear hl3; obtain ⟨⟨f0, f1, f2, f3, f4⟩, -⟩ := box_five HL.out.box)
              go_roundw
              case rel => exact ⟨j + 1, _, _, ls, by omega, by go_num, rfl, by rw [HTK.out]; rw [← HL3.out, ← HL2.out]; simp, HL.out.own, HL.out.bel⟩
              case measure => simp [intOf]; omega
          ·
            have hv0 : (0 < vs.length) = True := by rw [eq_iff_iff, iff_true]; exact List.length_pos_iff.2 hv
            rw [line_3e _ _ _ _ _ hv] at HTK
            clear hv
            go_upto_region 7 with fail
            refine wp_region_typedL 13 (by kernel_rfl) (by kernel_rfl) (fun L v => wv.grownBy v (Value.ownBlock (.slice A1 ls.length c1)) ∧ (L 7 = false → Below wv.heap.size wv v)) (fun i v v' => if i = 7 then v.grownBy v' (Value.ownBlock (.slice A1 ls.length c1)) else KB v v') (fun i => ([bIs (.slice A1 ls.length c1), bIs (sv b), bIs (sv (b ++ [105, 102, 32])), bIs (.pointer (some ⟨wr.heap.size, 2, none⟩)), bIs (sv nn), bIs (sv (b ++ ([105, 102, 32] ++ nn))), bRow (World.heap wv).size 1 #[sv (b ++ ([105, 102, 32] ++ nn))] 9, fApp (World.heap wv).size w.heap.size (ls ++ [b ++ ([105, 102, 32] ++ nn)]) (Value.ownBlock (.slice A1 ls.length c1)), bIs (.pointer (some ⟨wr.heap.size, 3, none⟩)), bIs (.slice Ap us.length cp), bIs (sv b), bIs (sv (b ++ [32])), fLn (World.heap wv).size (Pt.lines us (b ++ [32]))] : List TyB).getD i bAny) ?hWL ?hkeepL ?hstepL ?hfinL
            case hWL => exact ⟨grown_drew (grown_refl _ _), fun _ => (Below.refl _ _).drew⟩
            case hkeepL =>
              intro i hi j hj hji v v' x hk hf
              have hjn : j = 0 ∨ j = 1 ∨ j = 2 ∨ j = 3 ∨ j = 4 ∨ j = 5 ∨ j = 6 ∨ j = 7 ∨ j = 8 ∨ j = 9 ∨ j = 10 ∨ j = 11 ∨ j = 12 := by omega
              by_cases h1 : i = 7
              · subst h1
                rw [if_pos rfl] at hk
                rcases hjn with rfl | rfl | rfl | rfl | rfl | rfl | rfl | rfl | rfl | rfl | rfl | rfl | rfl
                · exact hf
                · exact hf
                · exact hf
                · exact hf
                · exact hf
                · exact hf
                · exact keeps2_bRow HNE.out hk hf
                · exact absurd rfl hji
                · exact hf
                · exact hf
                · exact hf
                · exact hf
                · exact keeps2_fLn HNE.out hk hf
              · rw [if_neg h1] at hk
                rcases hjn with rfl | rfl | rfl | rfl | rfl | rfl | rfl | rfl | rfl | rfl | rfl | rfl | rfl
                · exact hf
                · exact hf
                · exact hf
                · exact hf
                · exact hf
                · exact hf
                · exact keeps_bRow _ _ _ hk hf
                · exact keeps_fApp _ _ _ hk hf
                · exact hf
                · exact hf
                · exact hf
                · exact hf
                · exact keeps_fLn _ _ _ hk hf
            case hstepL =>
              refine all_lt_succ (all_lt_succ (all_lt_succ (all_lt_succ (all_lt_succ (all_lt_succ (all_lt_succ (all_lt_succ (all_lt_succ (all_lt_succ (all_lt_succ (all_lt_succ (all_lt_succ all_lt_zero ?_) ?_) ?_) ?_) ?_) ?_) ?_) ?_) ?_) ?_) ?_) ?_) ?_
              · intro o ho L a v hL hV hb hd K Q hK; obtain rfl := Option.some.inj ho; have e0 : a.tmps[5]?.getD undef = .slice A1 ls.length c1 := (by rw [hb 5 (by decide +kernel)]; simp); go_simp; exact hK _ _ ⟨hV.1, fun h => hV.2 (by simpa [upd] using h)⟩ (show (if (_ : Nat) = 7 then _ else KB _ _) by rw [if_neg (by decide)]; exact kb_refl _) rfl
              · intro o ho L a v hL hV hb hd K Q hK; obtain rfl := Option.some.inj ho; have e0 : a.tmps[1]?.getD undef = sv b := (by rw [hb 1 (by decide +kernel)]; simp); go_simp; exact hK _ _ ⟨hV.1, fun h => hV.2 (by simpa [upd] using h)⟩ (show (if (_ : Nat) = 7 then _ else KB _ _) by rw [if_neg (by decide)]; exact kb_refl _) rfl
              · intro o ho L a v hL hV hb hd K Q hK; obtain rfl := Option.some.inj ho; have e0 := slotB (hd 1 (by kernel_rfl) 22 rfl); go_simp; exact hK _ _ ⟨hV.1, fun h => hV.2 (by simpa [upd] using h)⟩ (show (if (_ : Nat) = 7 then _ else KB _ _) by rw [if_neg (by decide)]; exact kb_refl _) rfl
              · intro o ho L a v hL hV hb hd K Q hK; obtain rfl := Option.some.inj ho; have e0 : a.tmps[7]?.getD undef = .pointer (some ⟨wr.heap.size, 0, none⟩) := (by rw [hb 7 (by decide +kernel)]; simp); go_simp; exact hK _ _ ⟨hV.1, fun h => hV.2 (by simpa [upd] using h)⟩ (show (if (_ : Nat) = 7 then _ else KB _ _) by rw [if_neg (by decide)]; exact kb_refl _) rfl
              · intro o ho L a v hL hV hb hd K Q hK; obtain rfl := Option.some.inj ho; have e0 := slotB (hd 3 (by kernel_rfl) 24 rfl); obtain ⟨⟨q0, q1, q2, q3, q4⟩, -⟩ := box_five ((hV.1.block wr.heap.size HL.out.lt (fun e2 => HL.out.ne _ e2.symm rfl)).trans HL.out.box); go_simp; exact hK _ _ ⟨hV.1, fun h => hV.2 (by simpa [upd] using h)⟩ (show (if (_ : Nat) = 7 then _ else KB _ _) by rw [if_neg (by decide)]; exact kb_refl _) rfl
              · intro o ho L a v hL hV hb hd K Q hK; obtain rfl := Option.some.inj ho; have e0 := slotB (hd 2 (by kernel_rfl) 23 rfl); have e1 := slotB (hd 4 (by kernel_rfl) 25 rfl); go_simp; exact hK _ _ ⟨hV.1, fun h => hV.2 (by simpa [upd] using h)⟩ (show (if (_ : Nat) = 7 then _ else KB _ _) by rw [if_neg (by decide)]; exact kb_refl _) rfl
              · intro o ho L a v hL hV hb hd K Q hK; obtain rfl := Option.some.inj ho; have e0 := slotB (hd 5 (by kernel_rfl) 26 rfl); go_simp; exact hK _ _ ⟨grown_trans hV.1 (World.grownBy_alloc _ _ _), fun h => (hV.2 (by simpa [upd] using h)).alloc (hV.2 (by simpa [upd] using h)).size _⟩ (show (if (_ : Nat) = 7 then _ else KB _ _) by rw [if_neg (by decide)]; exact (Below.refl _ _).alloc (Nat.le_refl _) _) ⟨_, rfl, hV.1.size, heap_alloc_new v _⟩
              · intro o ho L a v hL hV hb hd K Q hK; obtain rfl := Option.some.inj ho; have hbv := hV.2 hL; have e0 := slotB (hd 0 (by kernel_rfl) 21 rfl); obtain ⟨b5, e5, hb5, hh5⟩ := (hd 6 (by kernel_rfl) 27 rfl); have e5 := slotB e5; refine wp_app_strb _ _ rfl w.heap.size A1 _ ls (b ++ ([105, 102, 32] ++ nn)) (by first | exact e0 | (simp [go_sem]; exact e0)) (ownS_keep HL.out.own hbv) b5 (by first | exact e5 | (simp [go_sem]; exact e5)) hh5 (by omega) (by have := hbv.size; have := HL.out.bel.size; omega) ?_; intro A2 c2 v2 ho2 hg2 hbk2; exact hK _ _ ⟨grown_trans hV.1 hg2, fun h => by simp [upd] at h⟩ (show (if (7 : Nat) = 7 then _ else _) by rw [if_pos rfl]; exact hg2) ⟨A2, c2, rfl, ho2, hbk2.imp (fun e => by rw [List.length_append]; exact e) (fun e j hj => by rw [List.length_append] at hj; rw [show ([b ++ ([105, 102, 32] ++ nn)] : List Tx).length = 1 from rfl, e] at hj; injection hj with hj; have := hbv.size; omega)⟩
              · intro o ho L a v hL hV hb hd K Q hK; obtain rfl := Option.some.inj ho; have e0 : a.tmps[7]?.getD undef = .pointer (some ⟨wr.heap.size, 0, none⟩) := (by rw [hb 7 (by decide +kernel)]; simp); go_simp; exact hK _ _ ⟨hV.1, fun h => hV.2 (by simpa [upd] using h)⟩ (show (if (_ : Nat) = 7 then _ else KB _ _) by rw [if_neg (by decide)]; exact kb_refl _) rfl
              · intro o ho L a v hL hV hb hd K Q hK; obtain rfl := Option.some.inj ho; have e0 := slotB (hd 8 (by kernel_rfl) 29 rfl); obtain ⟨⟨q0, q1, q2, q3, q4⟩, -⟩ := box_five ((hV.1.block wr.heap.size HL.out.lt (fun e2 => HL.out.ne _ e2.symm rfl)).trans HL.out.box); go_simp; exact hK _ _ ⟨hV.1, fun h => hV.2 (by simpa [upd] using h)⟩ (show (if (_ : Nat) = 7 then _ else KB _ _) by rw [if_neg (by decide)]; exact kb_refl _) rfl
              · intro o ho L a v hL hV hb hd K Q hK; obtain rfl := Option.some.inj ho; have e0 : a.tmps[1]?.getD undef = sv b := (by rw [hb 1 (by decide +kernel)]; simp); go_simp; exact hK _ _ ⟨hV.1, fun h => hV.2 (by simpa [upd] using h)⟩ (show (if (_ : Nat) = 7 then _ else KB _ _) by rw [if_neg (by decide)]; exact kb_refl _) rfl
              · intro o ho L a v hL hV hb hd K Q hK; obtain rfl := Option.some.inj ho; have e0 := slotB (hd 10 (by kernel_rfl) 31 rfl); go_simp; exact hK _ _ ⟨hV.1, fun h => hV.2 (by simpa [upd] using h)⟩ (show (if (_ : Nat) = 7 then _ else KB _ _) by rw [if_neg (by decide)]; exact kb_refl _) rfl
              · intro o ho L a v hL hV hb hd K Q hK; obtain rfl := Option.some.inj ho; have e0 := slotB (hd 9 (by kernel_rfl) 30 rfl); have e1 := slotB (hd 11 (by kernel_rfl) 32 rfl); go_simp; refine (HCU.out v (HL.out.bel.trans (grown_to_below hV.1 HL.out.bel.size (ownS_row HL.out.own)))).mono ?_; rintro e v2 ⟨A5, c5, rfl, ho5, hb5⟩; exact hK _ _ ⟨grown_trans hV.1 (below_grownBy hb5 _), fun h => (hV.2 (by simpa [upd] using h)).trans (hb5.mono (hV.2 (by simpa [upd] using h)).size)⟩ (show (if (_ : Nat) = 7 then _ else KB _ _) by rw [if_neg (by decide)]; exact hb5) ⟨A5, c5, rfl, own_base ho5 hV.1.size⟩
            case hfinL =>
              intro vs' w5 L hL hV hF
              simp only [putAll, hdst, List.getElem?_cons_succ, List.getElem?_cons_zero, Option.bind, List.drop_succ_cons, List.drop_zero, Act.put]
              obtain ⟨A4, c4', h1, ho4, hor4⟩ := hF 7 (by omega)
              obtain ⟨A5, c5, h3, ho5⟩ := hF 12 (by omega)
              rw [h1, h3]
              have HL5 : Hid (LSt w w5 wr.heap.size (ptCells 3 tt nn Ap us.length cp Ao vs.length co) A4 c4' (ls ++ [b ++ ([105, 102, 32] ++ nn)])) := ⟨ho4, (hV.1.block _ HL.out.lt (fun e2 => HL.out.ne _ e2.symm rfl)).trans HL.out.box, Nat.lt_of_lt_of_le HL.out.lt hV.1.size, HL.out.ge, fun k hk => by
                rcases hor4 with e | e
                · exact HL.out.ne k (by rw [← e]; exact hk)
                · have := e k hk; have := HL.out.lt; omega, HL.out.bel.trans (grown_to_below hV.1 HL.out.bel.size (ownS_row HL.out.own))⟩
              have HO5 := Lib.hid (ownS_rd ho5)
              have hs5 := HL5.out.bel.size
              generalize hl2 : ls ++ [b ++ ([105, 102, 32] ++ nn)] = l2 at *
              have HL2 := Lib.hid hl2
              have hll2 : l2.length ≤ ls.length + 1 := by rw [← hl2]; simp
              clear hF h1 h3 hV hL ho4 ho5 hor4 hl2 f0 f1 f2 f3 f4
              go_simp
              go_wp2_with (at_builtin; refine app_texts_at rfl _ _ rfl w.heap.size A4 c4' l2 (by rfl) HL5.out.own A5 c5 (Pt.lines us (b ++ [32])) (by rfl) HO5.out (by omega) (by omega) hs5 ?_; intro A1 c1 wv ho7 hg7 hbk7; have HL := Lib.hid (HL5.out.app ho7 hg7 hbk7); clear hs5 ho7 hg7 hbk7 HL5 HO5; generalize hl3 : l2 ++ Pt.lines us (b ++ [32]) = ls at *; have HL3 := Lib.hid hl3; have hll3 : ls.length ≤ l2.length + (Pt.lines us (b ++ [32])).length := (by rw [← hl3]; simp); clear hl3; obtain ⟨⟨f0, f1, f2, f3, f4⟩, -⟩ := box_five HL.out.box)
              go_upto_region 9 with fail
              have HNE : Hid (∀ k, Value.ownBlock (.slice A1 ls.length c1) = some k → k < wv.heap.size) := fun k hk => (HL.out.own.lt k hk).2
              rename Hid (_ ++ _ = ls) => HL3b
              rename Hid (_ ++ _ = l2) => HL2b
              refine wp_region_typedL 10 (by kernel_rfl) (by kernel_rfl) (fun L v => wv.grownBy v (Value.ownBlock (.slice A1 ls.length c1)) ∧ (L 4 = false → Below wv.heap.size wv v)) (fun i v v' => if i = 4 then v.grownBy v' (Value.ownBlock (.slice A1 ls.length c1)) else KB v v') (fun i => ([bIs (.slice A1 ls.length c1), bIs (sv b), bIs (sv (b ++ [101, 108, 115, 101])), bRow (World.heap wv).size 1 #[sv (b ++ [101, 108, 115, 101])] 9, fApp (World.heap wv).size w.heap.size (ls ++ [b ++ [101, 108, 115, 101]]) (Value.ownBlock (.slice A1 ls.length c1)), bIs (.pointer (some ⟨wr.heap.size, 4, none⟩)), bIs (.slice Ao vs.length co), bIs (sv b), bIs (sv (b ++ [32])), fLn (World.heap wv).size (Pt.lines vs (b ++ [32]))] : List TyB).getD i bAny) ?hWL ?hkeepL ?hstepL ?hfinL
              case hWL => exact ⟨grown_drew (grown_refl _ _), fun _ => (Below.refl _ _).drew⟩
              case hkeepL =>
                intro i hi j hj hji v v' x hk hf
                have hjn : j = 0 ∨ j = 1 ∨ j = 2 ∨ j = 3 ∨ j = 4 ∨ j = 5 ∨ j = 6 ∨ j = 7 ∨ j = 8 ∨ j = 9 := by omega
                by_cases h1 : i = 4
                · subst h1
                  rw [if_pos rfl] at hk
                  rcases hjn with rfl | rfl | rfl | rfl | rfl | rfl | rfl | rfl | rfl | rfl
                  · exact hf
                  · exact hf
                  · exact hf
                  · exact keeps2_bRow HNE.out hk hf
                  · exact absurd rfl hji
                  · exact hf
                  · exact hf
                  · exact hf
                  · exact hf
                  · exact keeps2_fLn HNE.out hk hf
                · rw [if_neg h1] at hk
                  rcases hjn with rfl | rfl | rfl | rfl | rfl | rfl | rfl | rfl | rfl | rfl
                  · exact hf
                  · exact hf
                  · exact hf
                  · exact keeps_bRow _ _ _ hk hf
                  · exact keeps_fApp _ _ _ hk hf
                  · exact hf
                  · exact hf
                  · exact hf
                  · exact hf
                  · exact keeps_fLn _ _ _ hk hf
              case hstepL =>
                refine all_lt_succ (all_lt_succ (all_lt_succ (all_lt_succ (all_lt_succ (all_lt_succ (all_lt_succ (all_lt_succ (all_lt_succ (all_lt_succ all_lt_zero ?_) ?_) ?_) ?_) ?_) ?_) ?_) ?_) ?_) ?_
                · intro o ho L a v hL hV hb hd K Q hK; obtain rfl := Option.some.inj ho; have e0 : a.tmps[5]?.getD undef = .slice A1 ls.length c1 := (by rw [hb 5 (by decide +kernel)]; simp); go_simp; exact hK _ _ ⟨hV.1, fun h => hV.2 (by simpa [upd] using h)⟩ (show (if (_ : Nat) = 4 then _ else KB _ _) by rw [if_neg (by decide)]; exact kb_refl _) rfl
                · intro o ho L a v hL hV hb hd K Q hK; obtain rfl := Option.some.inj ho; have e0 : a.tmps[1]?.getD undef = sv b := (by rw [hb 1 (by decide +kernel)]; simp); go_simp; exact hK _ _ ⟨hV.1, fun h => hV.2 (by simpa [upd] using h)⟩ (show (if (_ : Nat) = 4 then _ else KB _ _) by rw [if_neg (by decide)]; exact kb_refl _) rfl
                · intro o ho L a v hL hV hb hd K Q hK; obtain rfl := Option.some.inj ho; have e0 := slotB (hd 1 (by kernel_rfl) 40 rfl); go_simp; exact hK _ _ ⟨hV.1, fun h => hV.2 (by simpa [upd] using h)⟩ (show (if (_ : Nat) = 4 then _ else KB _ _) by rw [if_neg (by decide)]; exact kb_refl _) rfl
                · intro o ho L a v hL hV hb hd K Q hK; obtain rfl := Option.some.inj ho; have e0 := slotB (hd 2 (by kernel_rfl) 41 rfl); go_simp; exact hK _ _ ⟨grown_trans hV.1 (World.grownBy_alloc _ _ _), fun h => (hV.2 (by simpa [upd] using h)).alloc (hV.2 (by simpa [upd] using h)).size _⟩ (show (if (_ : Nat) = 4 then _ else KB _ _) by rw [if_neg (by decide)]; exact (Below.refl _ _).alloc (Nat.le_refl _) _) ⟨_, rfl, hV.1.size, heap_alloc_new v _⟩
                · intro o ho L a v hL hV hb hd K Q hK; obtain rfl := Option.some.inj ho; have hbv := hV.2 hL; have e0 := slotB (hd 0 (by kernel_rfl) 39 rfl); obtain ⟨b5, e5, hb5, hh5⟩ := (hd 3 (by kernel_rfl) 42 rfl); have e5 := slotB e5; refine wp_app_strb _ _ rfl w.heap.size A1 _ ls (b ++ [101, 108, 115, 101]) (by first | exact e0 | (simp [go_sem]; exact e0)) (ownS_keep HL.out.own hbv) b5 (by first | exact e5 | (simp [go_sem]; exact e5)) hh5 (by omega) (by have := hbv.size; have := HL.out.bel.size; omega) ?_; intro A2 c2 v2 ho2 hg2 hbk2; exact hK _ _ ⟨grown_trans hV.1 hg2, fun h => by simp [upd] at h⟩ (show (if (4 : Nat) = 4 then _ else _) by rw [if_pos rfl]; exact hg2) ⟨A2, c2, rfl, ho2, hbk2.imp (fun e => by rw [List.length_append]; exact e) (fun e j hj => by rw [List.length_append] at hj; rw [show ([b ++ [101, 108, 115, 101]] : List Tx).length = 1 from rfl, e] at hj; injection hj with hj; have := hbv.size; omega)⟩
                · intro o ho L a v hL hV hb hd K Q hK; obtain rfl := Option.some.inj ho; have e0 : a.tmps[7]?.getD undef = .pointer (some ⟨wr.heap.size, 0, none⟩) := (by rw [hb 7 (by decide +kernel)]; simp); go_simp; exact hK _ _ ⟨hV.1, fun h => hV.2 (by simpa [upd] using h)⟩ (show (if (_ : Nat) = 4 then _ else KB _ _) by rw [if_neg (by decide)]; exact kb_refl _) rfl
                · intro o ho L a v hL hV hb hd K Q hK; obtain rfl := Option.some.inj ho; have e0 := slotB (hd 5 (by kernel_rfl) 44 rfl); obtain ⟨⟨q0, q1, q2, q3, q4⟩, -⟩ := box_five ((hV.1.block wr.heap.size HL.out.lt (fun e2 => HL.out.ne _ e2.symm rfl)).trans HL.out.box); go_simp; exact hK _ _ ⟨hV.1, fun h => hV.2 (by simpa [upd] using h)⟩ (show (if (_ : Nat) = 4 then _ else KB _ _) by rw [if_neg (by decide)]; exact kb_refl _) rfl
                · intro o ho L a v hL hV hb hd K Q hK; obtain rfl := Option.some.inj ho; have e0 : a.tmps[1]?.getD undef = sv b := (by rw [hb 1 (by decide +kernel)]; simp); go_simp; exact hK _ _ ⟨hV.1, fun h => hV.2 (by simpa [upd] using h)⟩ (show (if (_ : Nat) = 4 then _ else KB _ _) by rw [if_neg (by decide)]; exact kb_refl _) rfl
                · intro o ho L a v hL hV hb hd K Q hK; obtain rfl := Option.some.inj ho; have e0 := slotB (hd 7 (by kernel_rfl) 46 rfl); go_simp; exact hK _ _ ⟨hV.1, fun h => hV.2 (by simpa [upd] using h)⟩ (show (if (_ : Nat) = 4 then _ else KB _ _) by rw [if_neg (by decide)]; exact kb_refl _) rfl
                · intro o ho L a v hL hV hb hd K Q hK; obtain rfl := Option.some.inj ho; have e0 := slotB (hd 6 (by kernel_rfl) 45 rfl); have e1 := slotB (hd 8 (by kernel_rfl) 47 rfl); go_simp; refine (HCV.out v (HL.out.bel.trans (grown_to_below hV.1 HL.out.bel.size (ownS_row HL.out.own)))).mono ?_; rintro e v2 ⟨A5, c5, rfl, ho5, hb5⟩; exact hK _ _ ⟨grown_trans hV.1 (below_grownBy hb5 _), fun h => (hV.2 (by simpa [upd] using h)).trans (hb5.mono (hV.2 (by simpa [upd] using h)).size)⟩ (show (if (_ : Nat) = 4 then _ else KB _ _) by rw [if_neg (by decide)]; exact hb5) ⟨A5, c5, rfl, own_base ho5 hV.1.size⟩
              case hfinL =>
                intro vs' w5 L hL hV hF
                simp only [putAll, hdst, List.getElem?_cons_succ, List.getElem?_cons_zero, Option.bind, List.drop_succ_cons, List.drop_zero, Act.put]
                obtain ⟨A4, c4', h1, ho4, hor4⟩ := hF 4 (by omega)
                obtain ⟨A5, c5, h3, ho5⟩ := hF 9 (by omega)
                rw [h1, h3]
                have HL5 : Hid (LSt w w5 wr.heap.size (ptCells 3 tt nn Ap us.length cp Ao vs.length co) A4 c4' (ls ++ [b ++ [101, 108, 115, 101]])) := ⟨ho4, (hV.1.block _ HL.out.lt (fun e2 => HL.out.ne _ e2.symm rfl)).trans HL.out.box, Nat.lt_of_lt_of_le HL.out.lt hV.1.size, HL.out.ge, fun k hk => by
                  rcases hor4 with e | e
                  · exact HL.out.ne k (by rw [← e]; exact hk)
                  · have := e k hk; have := HL.out.lt; omega, HL.out.bel.trans (grown_to_below hV.1 HL.out.bel.size (ownS_row HL.out.own))⟩
                have HO5 := Lib.hid (ownS_rd ho5)
                have hs5 := HL5.out.bel.size
                generalize hl2 : ls ++ [b ++ [101, 108, 115, 101]] = l2 at *
                have HL2 := Lib.hid hl2
                have hll2 : l2.length ≤ ls.length + 1 := by rw [← hl2]; simp
                clear hF h1 h3 hV hL ho4 ho5 hor4 hl2 f0 f1 f2 f3 f4
                go_simp
                go_wp2_with (at_builtin; refine app_texts_at rfl _ _ rfl w.heap.size A4 c4' l2 (by rfl) HL5.out.own A5 c5 (Pt.lines vs (b ++ [32])) (by rfl) HO5.out (by omega) (by omega) hs5 ?_; intro A1 c1 wv ho7 hg7 hbk7; have HL := Lib.hid (HL5.out.app ho7 hg7 hbk7); clear hs5 ho7 hg7 hbk7 HL5 HO5; generalize hl3 : l2 ++ Pt.lines vs (b ++ [32]) = ls at *; have HL3 := Lib.hid hl3; have hll3 : ls.length ≤ l2.length + (Pt.lines vs (b ++ [32])).length := (by rw [← hl3]; simp); clear hl3)
                go_roundw
                case rel => exact ⟨j + 1, _, _, ls, by omega, by go_num, rfl, by rw [HTK.out]; rw [← HL3.out, ← HL2.out, ← HL3b.out, ← HL2b.out]; simp, HL.out.own, HL.out.bel⟩
                case measure => simp [intOf]; omega
        ·
          rw [line_4] at HTK
          clear hv
          go_upto_region 15 with fail
          refine wp_region_typedL 13 (by kernel_rfl) (by kernel_rfl) (fun L v => wv.grownBy v (Value.ownBlock (.slice A1 ls.length c1)) ∧ (L 7 = false → Below wv.heap.size wv v)) (fun i v v' => if i = 7 then v.grownBy v' (Value.ownBlock (.slice A1 ls.length c1)) else KB v v') (fun i => ([bIs (.slice A1 ls.length c1), bIs (sv b), bIs (sv (b ++ [101, 97, 99, 104, 32])), bIs (.pointer (some ⟨wr.heap.size, 2, none⟩)), bIs (sv nn), bIs (sv (b ++ ([101, 97, 99, 104, 32] ++ nn))), bRow (World.heap wv).size 1 #[sv (b ++ ([101, 97, 99, 104, 32] ++ nn))] 9, fApp (World.heap wv).size w.heap.size (ls ++ [b ++ ([101, 97, 99, 104, 32] ++ nn)]) (Value.ownBlock (.slice A1 ls.length c1)), bIs (.pointer (some ⟨wr.heap.size, 3, none⟩)), bIs (.slice Ap us.length cp), bIs (sv b), bIs (sv (b ++ [32])), fLn (World.heap wv).size (Pt.lines us (b ++ [32]))] : List TyB).getD i bAny) ?hWL ?hkeepL ?hstepL ?hfinL
          case hWL => exact ⟨grown_drew (grown_refl _ _), fun _ => (Below.refl _ _).drew⟩
          case hkeepL =>
            intro i hi j hj hji v v' x hk hf
            have hjn : j = 0 ∨ j = 1 ∨ j = 2 ∨ j = 3 ∨ j = 4 ∨ j = 5 ∨ j = 6 ∨ j = 7 ∨ j = 8 ∨ j = 9 ∨ j = 10 ∨ j = 11 ∨ j = 12 := by omega
            by_cases h1 : i = 7
            · subst h1
              rw [if_pos rfl] at hk
              rcases hjn with rfl | rfl | rfl | rfl | rfl | rfl | rfl | rfl | rfl | rfl | rfl | rfl | rfl
              · exact hf
              · exact hf
              · exact hf
              · exact hf
              · exact hf
              · exact hf
              · exact keeps2_bRow HNE.out hk hf
              · exact absurd rfl hji
              · exact hf
              · exact hf
              · exact hf
              · exact hf
              · exact keeps2_fLn HNE.out hk hf
            · rw [if_neg h1] at hk
              rcases hjn with rfl | rfl | rfl | rfl | rfl | rfl | rfl | rfl | rfl | rfl | rfl | rfl | rfl
              · exact hf
              · exact hf
              · exact hf
              · exact hf
              · exact hf
              · exact hf
              · exact keeps_bRow _ _ _ hk hf
              · exact keeps_fApp _ _ _ hk hf
              · exact hf
              · exact hf
              · exact hf
              · exact hf
              · exact keeps_fLn _ _ _ hk hf
          case hstepL =>
            refine all_lt_succ (all_lt_succ (all_lt_succ (all_lt_succ (all_lt_succ (all_lt_succ (all_lt_succ (all_lt_succ (all_lt_succ (all_lt_succ (all_lt_succ (all_lt_succ (all_lt_succ all_lt_zero ?_) ?_) ?_) ?_) ?_) ?_) ?_) ?_) ?_) ?_) ?_) ?_) ?_
            · intro o ho L a v hL hV hb hd K Q hK; obtain rfl := Option.some.inj ho; have e0 : a.tmps[5]?.getD undef = .slice A1 ls.length c1 := (by rw [hb 5 (by decide +kernel)]; simp); go_simp; exact hK _ _ ⟨hV.1, fun h => hV.2 (by simpa [upd] using h)⟩ (show (if (_ : Nat) = 7 then _ else KB _ _) by rw [if_neg (by decide)]; exact kb_refl _) rfl
            · intro o ho L a v hL hV hb hd K Q hK; obtain rfl := Option.some.inj ho; have e0 : a.tmps[1]?.getD undef = sv b := (by rw [hb 1 (by decide +kernel)]; simp); go_simp; exact hK _ _ ⟨hV.1, fun h => hV.2 (by simpa [upd] using h)⟩ (show (if (_ : Nat) = 7 then _ else KB _ _) by rw [if_neg (by decide)]; exact kb_refl _) rfl
            · intro o ho L a v hL hV hb hd K Q hK; obtain rfl := Option.some.inj ho; have e0 := slotB (hd 1 (by kernel_rfl) 73 rfl); go_simp; exact hK _ _ ⟨hV.1, fun h => hV.2 (by simpa [upd] using h)⟩ (show (if (_ : Nat) = 7 then _ else KB _ _) by rw [if_neg (by decide)]; exact kb_refl _) rfl
            · intro o ho L a v hL hV hb hd K Q hK; obtain rfl := Option.some.inj ho; have e0 : a.tmps[7]?.getD undef = .pointer (some ⟨wr.heap.size, 0, none⟩) := (by rw [hb 7 (by decide +kernel)]; simp); go_simp; exact hK _ _ ⟨hV.1, fun h => hV.2 (by simpa [upd] using h)⟩ (show (if (_ : Nat) = 7 then _ else KB _ _) by rw [if_neg (by decide)]; exact kb_refl _) rfl
            · intro o ho L a v hL hV hb hd K Q hK; obtain rfl := Option.some.inj ho; have e0 := slotB (hd 3 (by kernel_rfl) 75 rfl); obtain ⟨⟨q0, q1, q2, q3, q4⟩, -⟩ := box_five ((hV.1.block wr.heap.size HL.out.lt (fun e2 => HL.out.ne _ e2.symm rfl)).trans HL.out.box); go_simp; exact hK _ _ ⟨hV.1, fun h => hV.2 (by simpa [upd] using h)⟩ (show (if (_ : Nat) = 7 then _ else KB _ _) by rw [if_neg (by decide)]; exact kb_refl _) rfl
            · intro o ho L a v hL hV hb hd K Q hK; obtain rfl := Option.some.inj ho; have e0 := slotB (hd 2 (by kernel_rfl) 74 rfl); have e1 := slotB (hd 4 (by kernel_rfl) 76 rfl); go_simp; exact hK _ _ ⟨hV.1, fun h => hV.2 (by simpa [upd] using h)⟩ (show (if (_ : Nat) = 7 then _ else KB _ _) by rw [if_neg (by decide)]; exact kb_refl _) rfl
            · intro o ho L a v hL hV hb hd K Q hK; obtain rfl := Option.some.inj ho; have e0 := slotB (hd 5 (by kernel_rfl) 77 rfl); go_simp; exact hK _ _ ⟨grown_trans hV.1 (World.grownBy_alloc _ _ _), fun h => (hV.2 (by simpa [upd] using h)).alloc (hV.2 (by simpa [upd] using h)).size _⟩ (show (if (_ : Nat) = 7 then _ else KB _ _) by rw [if_neg (by decide)]; exact (Below.refl _ _).alloc (Nat.le_refl _) _) ⟨_, rfl, hV.1.size, heap_alloc_new v _⟩
            · intro o ho L a v hL hV hb hd K Q hK; obtain rfl := Option.some.inj ho; have hbv := hV.2 hL; have e0 := slotB (hd 0 (by kernel_rfl) 72 rfl); obtain ⟨b5, e5, hb5, hh5⟩ := (hd 6 (by kernel_rfl) 78 rfl); have e5 := slotB e5; refine wp_app_strb _ _ rfl w.heap.size A1 _ ls (b ++ ([101, 97, 99, 104, 32] ++ nn)) (by first | exact e0 | (simp [go_sem]; exact e0)) (ownS_keep HL.out.own hbv) b5 (by first | exact e5 | (simp [go_sem]; exact e5)) hh5 (by omega) (by have := hbv.size; have := HL.out.bel.size; omega) ?_; intro A2 c2 v2 ho2 hg2 hbk2; exact hK _ _ ⟨grown_trans hV.1 hg2, fun h => by simp [upd] at h⟩ (show (if (7 : Nat) = 7 then _ else _) by rw [if_pos rfl]; exact hg2) ⟨A2, c2, rfl, ho2, hbk2.imp (fun e => by rw [List.length_append]; exact e) (fun e j hj => by rw [List.length_append] at hj; rw [show ([b ++ ([101, 97, 99, 104, 32] ++ nn)] : List Tx).length = 1 from rfl, e] at hj; injection hj with hj; have := hbv.size; omega)⟩
            · intro o ho L a v hL hV hb hd K Q hK; obtain rfl := Option.some.inj ho; have e0 : a.tmps[7]?.getD undef = .pointer (some ⟨wr.heap.size, 0, none⟩) := (by rw [hb 7 (by decide +kernel)]; simp); go_simp; exact hK _ _ ⟨hV.1, fun h => hV.2 (by simpa [upd] using h)⟩ (show (if (_ : Nat) = 7 then _ else KB _ _) by rw [if_neg (by decide)]; exact kb_refl _) rfl
            · intro o ho L a v hL hV hb hd K Q hK; obtain rfl := Option.some.inj ho; have e0 := slotB (hd 8 (by kernel_rfl) 80 rfl); obtain ⟨⟨q0, q1, q2, q3, q4⟩, -⟩ := box_five ((hV.1.block wr.heap.size HL.out.lt (fun e2 => HL.out.ne _ e2.symm rfl)).trans HL.out.box); go_simp; exact hK _ _ ⟨hV.1, fun h => hV.2 (by simpa [upd] using h)⟩ (show (if (_ : Nat) = 7 then _ else KB _ _) by rw [if_neg (by decide)]; exact kb_refl _) rfl
            · intro o ho L a v hL hV hb hd K Q hK; obtain rfl := Option.some.inj ho; have e0 : a.tmps[1]?.getD undef = sv b := (by rw [hb 1 (by decide +kernel)]; simp); go_simp; exact hK _ _ ⟨hV.1, fun h => hV.2 (by simpa [upd] using h)⟩ (show (if (_ : Nat) = 7 then _ else KB _ _) by rw [if_neg (by decide)]; exact kb_refl _) rfl
            · intro o ho L a v hL hV hb hd K Q hK; obtain rfl := Option.some.inj ho; have e0 := slotB (hd 10 (by kernel_rfl) 82 rfl); go_simp; exact hK _ _ ⟨hV.1, fun h => hV.2 (by simpa [upd] using h)⟩ (show (if (_ : Nat) = 7 then _ else KB _ _) by rw [if_neg (by decide)]; exact kb_refl _) rfl
            · intro o ho L a v hL hV hb hd K Q hK; obtain rfl := Option.some.inj ho; have e0 := slotB (hd 9 (by kernel_rfl) 81 rfl); have e1 := slotB (hd 11 (by kernel_rfl) 83 rfl); go_simp; refine (HCU.out v (HL.out.bel.trans (grown_to_below hV.1 HL.out.bel.size (ownS_row HL.out.own)))).mono ?_; rintro e v2 ⟨A5, c5, rfl, ho5, hb5⟩; exact hK _ _ ⟨grown_trans hV.1 (below_grownBy hb5 _), fun h => (hV.2 (by simpa [upd] using h)).trans (hb5.mono (hV.2 (by simpa [upd] using h)).size)⟩ (show (if (_ : Nat) = 7 then _ else KB _ _) by rw [if_neg (by decide)]; exact hb5) ⟨A5, c5, rfl, own_base ho5 hV.1.size⟩
          case hfinL =>
            intro vs' w5 L hL hV hF
            simp only [putAll, hdst, List.getElem?_cons_succ, List.getElem?_cons_zero, Option.bind, List.drop_succ_cons, List.drop_zero, Act.put]
            obtain ⟨A4, c4', h1, ho4, hor4⟩ := hF 7 (by omega)
            obtain ⟨A5, c5, h3, ho5⟩ := hF 12 (by omega)
            rw [h1, h3]
            have HL5 : Hid (LSt w w5 wr.heap.size (ptCells 4 tt nn Ap us.length cp Ao vs.length co) A4 c4' (ls ++ [b ++ ([101, 97, 99, 104, 32] ++ nn)])) := ⟨ho4, (hV.1.block _ HL.out.lt (fun e2 => HL.out.ne _ e2.symm rfl)).trans HL.out.box, Nat.lt_of_lt_of_le HL.out.lt hV.1.size, HL.out.ge, fun k hk => by
              rcases hor4 with e | e
              · exact HL.out.ne k (by rw [← e]; exact hk)
              · have := e k hk; have := HL.out.lt; omega, HL.out.bel.trans (grown_to_below hV.1 HL.out.bel.size (ownS_row HL.out.own))⟩
            have HO5 := Lib.hid (ownS_rd ho5)
            have hs5 := HL5.out.bel.size
            generalize hl2 : ls ++ [b ++ ([101, 97, 99, 104, 32] ++ nn)] = l2 at *
            have HL2 := Lib.hid hl2
            have hll2 : l2.length ≤ ls.length + 1 := by rw [← hl2]; simp
            clear hF h1 h3 hV hL ho4 ho5 hor4 hl2 f0 f1 f2 f3 f4
            go_simp
            go_wp2_with (at_builtin; refine app_texts_at rfl _ _ rfl w.heap.size A4 c4' l2 (by rfl) HL5.out.own A5 c5 (Pt.lines us (b ++ [32])) (by rfl) HO5.out (by omega) (by omega) hs5 ?_; intro A1 c1 wv ho7 hg7 hbk7; have HL := Lib.hid (HL5.out.app ho7 hg7 hbk7); clear hs5 ho7 hg7 hbk7 HL5 HO5; generalize hl3 : l2 ++ Pt.lines us (b ++ [32]) = ls at *; have HL3 := Lib.hid hl3; have hll3 : ls.length ≤ l2.length + (Pt.lines us (b ++ [32])).length := (by rw [← hl3]; simp); clear hl3)
            go_roundw
            case rel => exact ⟨j + 1, _, _, ls, by omega, by go_num, rfl, by rw [HTK.out]; rw [← HL3.out, ← HL2.out]; simp, HL.out.own, HL.out.bel⟩
            case measure => simp [intOf]; omega
    · have HT : Hid (ls = Pt.lines xs b) := by
        show _ = _
        rw [HLS.out, List.take_of_length_le (by omega)]
      go_wp2
      go_ret
      exact ⟨A1, _, by rw [HT.out]; rfl, HT.out ▸ HO.out, HB.out⟩
theorem spec_l24Lines : ∀ d, LnC 24 d
  | 0 => spec_l24Lines_of 0 (fun _ e => by omega)
  | d + 1 => spec_l24Lines_of (d + 1) (fun d' e => by cases e; exact spec_l24Lines d)
end Go.Proofs.Ytginghjgfippiaa
