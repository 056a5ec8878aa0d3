/- ReadLocation of spec: walks. -/
import Derived.Test.YtjlaelkdmgcniaaDoorLocText
import Derived.Test.YtjlaelkdmgcniaaDoorLocDrew
import Derived.RegionTactic
import Derived.BigRegion
namespace Go.Proofs.YtjlaelkdmgcniaaDoor
open Go.RowKit

set_option maxRecDepth 100000 in
set_option maxHeartbeats 1000000 in
theorem spec_l32Query (s : Tx) (hl : s.length ≤ 1048576) (w : World) :
    Calls Tryd.prog 22 #[.string ⟨s.toArray⟩] w fun e w' => e = .returned (.tuple #[sv (s.take (at_ 63 s)), sv (s.drop (at_ 63 s + 1))]) ∧ ∃ n, w' = w.drewN n := by
  go_enter Tryd.func22, Tryd.ntmps22
  go_wp2
  go_loop [4] (fun i => ∃ k : Nat, k ≤ s.length ∧ i = .int .i64 k ∧ k ≤ at_ 63 s) (fun i => s.length - (intOf i).toNat)
  case atStart => exact ⟨0, Nat.zero_le _, rfl, Nat.zero_le _⟩
  case round =>
    obtain ⟨k, hk, rfl, ha⟩ := hrel
    by_cases hlt : k < s.length
    · by_cases hc : (s[k] == 63) = true
      · have HA : Hid (at_ 63 s = k) := at_found ha hlt hc
        have b0 : ((s[k].toNat : Int) == 63) = true := by rw [show s[k] = 63 by simpa using hc]; rfl
        clear ha hc
        have hkk : (k : Int) + 1 ≤ s.length := by omega
        go_wp2_with fail
        go_quiet (fail)
        go_wp2
        go_ret2
        rw [HA.out]
        exact ⟨rfl, _, rfl⟩
      · have hc' : (s[k] == 63) = false := by simpa using hc
        have HS : Hid (k + 1 ≤ at_ 63 s) := at_step ha hlt hc'
        have b1 : ((s[k].toNat : Int) == 63) = false := by
          simp
          intro e
          have h2 : s[k] = 63 := UInt8.toNat_inj.1 (by have : ((63 : UInt8).toNat) = 63 := rfl; omega)
          exact hc (by rw [h2]; rfl)
        clear hc hc' ha
        go_wp2
        go_round
        case rel => exact ⟨k + 1, by omega, by go_num, HS.out⟩
        case measure => simp [intOf]; omega
    · have hks : k = s.length := by omega
      have HA : Hid (at_ 63 s = s.length) := by show _ = _; have := at_le 63 s; omega
      clear ha
      go_wp2
      go_ret2
      rw [HA.out]
      exact ⟨by simp, 0, rfl⟩

theorem join_add (c : UInt8) : ∀ (xs : List Tx) (x : Tx), Lib.join (xs ++ [x ++ [c]]) [47] = Lib.join (xs ++ [x]) [47] ++ [c] := by
  intro xs x
  rw [join_snoc, join_snoc]
  split
  · rfl
  · simp
set_option maxRecDepth 100000 in
set_option maxHeartbeats 2000000 in
theorem spec_l32Split (s : Tx) (hl : s.length ≤ 1048576) (w : World) :
    Calls Tryd.prog 23 #[.string ⟨s.toArray⟩] w (NewS w (Lib.split s [47])) := by
  have hnew : ∀ w : World, OwnS (w.alloc (.cells #[.string ⟨#[]⟩] 9)) w.heap.size (some ⟨w.heap.size, 0, none⟩) 1 [[]] := fun w =>
    World.ownsRow_lit (e := 9) w #[.string ⟨#[]⟩] (size := 1) 1 (Nat.le_refl _) (by simp [maxLen]) rfl
  have HNEW := Lib.hid hnew
  clear hnew
  go_enter Tryd.func23, Tryd.ntmps23
  go_wp2
  go_loopw [3, 4] (fun v i wr => ∃ (k : Nat) (A : Option Addr) (c : Nat) (xs : List Tx) (x : Tx), k ≤ s.length ∧ i = .int .i64 k ∧ v = .slice A (xs ++ [x]).length c ∧ xs.length ≤ k ∧ x.length ≤ k ∧ (∀ y ∈ xs ++ [x], noB 47 y) ∧ Lib.join (xs ++ [x]) [47] = s.take k ∧ OwnS wr w.heap.size A c (xs ++ [x]) ∧ Below w.heap.size w wr) (fun _ i _ => s.length - (intOf i).toNat)
  case atStart => exact ⟨0, _, 1, [], [], Nat.zero_le _, rfl, rfl, by simp, by simp, by intro y hy; simp at hy; subst hy; exact noB_nil, by simp [Lib.join_one], HNEW.out w, (Below.refl _ _).alloc (Nat.le_refl _) _⟩
  case round =>
    obtain ⟨k, A, c, xs, x, hk, rfl, rfl, hxk, hxl, hno, hj, ho, hb⟩ := hrel
    have HO := Lib.hid ho
    have HB := Lib.hid hb
    have HJ := Lib.hid hj
    have HNO := Lib.hid hno
    have hsz := hb.size
    clear ho hb hj hno
    by_cases hlt : k < s.length
    · have HT := Lib.hid (take_snoc s k hlt)
      by_cases hc : (s[k] == 47) = true
      · have b0 : ((s[k].toNat : Int) == 47) = true := by rw [show s[k] = 47 by simpa using hc]; rfl
        have HC : Hid (s[k] = 47) := by show _ = _; simpa using hc
        clear hc
        go_wp2_with (at_builtin; refine app_str rfl _ _ rfl w.heap.size A c _ (xs ++ [x]) [] (by rfl) rfl HO.out _ (by rfl) rfl ?_ ?_ ?_; (focus (simp; omega)); (focus omega); intro A4 c4 w4 ho4 hg4)
        go_roundw
        case rel =>
          refine ⟨k + 1, A4, c4, xs ++ [x], [], by omega, by go_num, by simp, by simp; omega, by simp, ?_, ?_, ho4, HB.out.trans (grown_to_below hg4 hsz (ownS_row HO.out))⟩
          · intro y hy
            rcases List.mem_append.1 hy with hy | hy
            · exact HNO.out y hy
            · simp at hy; subst hy; exact noB_nil
          · rw [join_snoc, if_neg (by simp), HJ.out, HT.out, HC.out]; simp
        case measure => simp [intOf]; omega
      · have b1 : ((s[k].toNat : Int) == 47) = false := by
          simp
          intro e
          have h2 : s[k] = 47 := UInt8.toNat_inj.1 (by have : ((47 : UInt8).toNat) = 47 := rfl; omega)
          exact hc (by rw [h2]; rfl)
        have HC : Hid (s[k] ≠ 47) := by show _ ≠ _; simpa using hc
        clear hc
        obtain ⟨g, rfl, hbg, hgs⟩ := own_some HO.out (by simp)
        obtain ⟨hcell, hfr⟩ := ownS_at (k := xs.length) HO.out (by simp)
        rw [List.getElem_append_right (Nat.le_refl _)] at hcell
        simp only [Nat.sub_self, List.getElem_cons_zero] at hcell
        have e1 : (9223372036854775807 < x.length + 1) = False := by rw [eq_iff_iff, iff_false]; omega
        have hln : (xs ++ [x]).length = xs.length + 1 := by simp
        have hkk : (k : Int) + 1 ≤ s.length := by omega
        go_wp2_with fail
        go_region
        go_wp2
        go_roundw
        case rel =>
          have hd : (s.take (k + 1)).drop k = [s[k]] := by rw [HT.out, List.drop_append_of_le_length (by simp; omega), List.drop_of_length_le (by simp; omega)]; rfl
          rw [hd]
          have hset := ownS_set (k := xs.length) HO.out (x ++ [s[k]])
          rw [show (xs ++ [x]).set xs.length (x ++ [s[k]]) = xs ++ [x ++ [s[k]]] by simp] at hset
          refine ⟨k + 1, _, c, xs, x ++ [s[k]], by omega, by go_num, by simp, by omega, by simp; omega, ?_, ?_, ownS_keep hset (below_drewN (Below.refl _ _) 1), (Below.setCell HB.out hbg _).drew⟩
          · intro y hy
            rcases List.mem_append.1 hy with hy | hy
            · exact HNO.out y (by simp [hy])
            · simp at hy
              subst hy
              exact noB_append (HNO.out x (by simp)) (noB_cons HC.out noB_nil)
          · rw [join_add, HJ.out, HT.out]
        case measure => simp [intOf]; omega
    · have hks : k = s.length := by omega
      have HE : Hid (Lib.split s [47] = xs ++ [x]) := by
        show _ = _
        have h := HJ.out
        rw [hks, List.take_length] at h
        rw [← h]
        exact split_join _ (by simp) HNO.out
      go_wp2
      go_ret
      rw [HE.out]
      exact ⟨A, c, rfl, HO.out, HB.out⟩

/-- a location that a call hands back, and whether there is one -/
def RdL (w : World) (r : Lc × Bool) (e : Ending) (w' : World) : Prop :=
  ∃ A c, e = .returned (.tuple #[lcV r.1 A c, .bool r.2]) ∧ Rd w' w'.heap.size A (scells r.1.path) ∧ r.1.path.length ≤ c ∧ Below w.heap.size w w'
theorem rd_setc {w : World} {B k o : Nat} {A : Option Addr} {xs : List Value} {u : Value} (h : Rd w B A xs) (hk : ∀ b o, A = some ⟨b, o, none⟩ → b ≠ k) : Rd (w.setCell ⟨k, o, none⟩ u) B A xs := fun hne => by
  obtain ⟨b, o', e, hb, hc⟩ := h hne
  exact ⟨b, o', e, hb, fun j v hv => (World.cell?_of_block (Below.heap_setCell _ _ _ _ (hk _ _ e))).trans (hc j v hv)⟩
/-- what the box of the read location holds -/
def RSt (s : Tx) (w w2 wx : World) : Prop :=
  ∃ (A : Option Addr) (c : Nat) (l : Lc), parseLS s = some l ∧ FitL l ∧ wx.heap[w2.heap.size]? = some (.cells (lcCells l A c) 25 (0, 0)) ∧ wx.heap[w.heap.size]? = some (.cells #[.string ⟨#[]⟩, .string ⟨#[]⟩, .slice none 0 0, .string ⟨#[]⟩] 25 (0, 0)) ∧ Rd wx wx.heap.size A (scells l.path) ∧ l.path.length ≤ c ∧ (∀ b o, A = some ⟨b, o, none⟩ → b ≠ w.heap.size) ∧ Below w.heap.size w wx
set_option maxRecDepth 100000 in
set_option maxHeartbeats 4000000 in
theorem spec_ReadLocation (s : Tx) (hl : s.length ≤ 1048576) (w : World) :
    Calls Tryd.prog 20 #[.string ⟨s.toArray⟩] w (RdL w (readLoc s)) := by
  have HA := Lib.hid ((Below.refl w.heap.size w).alloc (Nat.le_refl _) (.cells #[.string ⟨#[]⟩, .string ⟨#[]⟩, .slice none 0 0, .string ⟨#[]⟩] 25))
  have HR := Lib.hid (readLoc_spec s)
  have HQ := Lib.hid (fun w => spec_l32Query s hl w)
  have HW := Lib.hid (fun w => spec_l32Split (s.take (at_ 63 s)) (by simp; omega) w)
  have HDEF : Hid (parseLS s = if (wordsOf s).length < 4 ∨ ((wordsOf s).getD 0 []).length < 1 then none
    else some ⟨((wordsOf s).getD 0 []).take (((wordsOf s).getD 0 []).length - 1), (wordsOf s).getD 2 [], if 4 < (wordsOf s).length ∨ (wordsOf s).getD 3 [] ≠ [] then (wordsOf s).drop 3 else [], s.drop (at_ 63 s + 1)⟩) := rfl
  have hwl : (wordsOf s).length ≤ s.length + 1 ∧ ∀ x ∈ wordsOf s, x.length ≤ s.length := by
    unfold wordsOf
    refine ⟨Nat.le_trans (split_len _ (by simp)) (by simp; omega), fun x hx => Nat.le_trans (split_mem _ (by simp) x hx) (by simp; omega)⟩
  have HWL := Lib.hid hwl
  have hql : (s.drop (at_ 63 s + 1)).length ≤ s.length := by simp
  rw [show Lib.split (s.take (at_ 63 s)) [47] = wordsOf s from rfl] at HW
  generalize wordsOf s = ws at *
  generalize s.drop (at_ 63 s + 1) = qu at *
  generalize s.take (at_ 63 s) = bf at *
  clear hwl
  go_enter Tryd.func20, Tryd.ntmps20
  go_wp2_with fail
  refine (HQ.out _).mono ?_
  rintro e w1 ⟨rfl, n1, rfl⟩
  have HB1 := Lib.hid (below_drewN HA.out n1)
  have HZ1 : Hid (((w.alloc (.cells #[.string ⟨#[]⟩, .string ⟨#[]⟩, .slice none 0 0, .string ⟨#[]⟩] 25)).drewN n1).heap[w.heap.size]? = some (.cells #[.string ⟨#[]⟩, .string ⟨#[]⟩, .slice none 0 0, .string ⟨#[]⟩] 25 (0, 0))) := heap_alloc_new w _
  generalize (w.alloc (.cells #[.string ⟨#[]⟩, .string ⟨#[]⟩, .slice none 0 0, .string ⟨#[]⟩] 25)).drewN n1 = w1 at *
  go_wp2_with fail
  refine (HW.out _).mono ?_
  rintro e w2 ⟨A2, c2, rfl, ho, hb⟩
  have hz1 : w.heap.size < w1.heap.size := by
    have := HZ1.out
    rcases Nat.lt_or_ge w.heap.size w1.heap.size with h | h
    · exact h
    · rw [Array.getElem?_eq_none h] at this; cases this
  have HB2 := Lib.hid (HB1.out.trans (hb.mono HB1.out.size))
  have HZ2 := Lib.hid ((hb.block w.heap.size hz1).trans HZ1.out)
  have HO2 := Lib.hid ho
  obtain ⟨⟨f0, f1, f2, f3⟩, f4, f5, f6, f7⟩ := box_four HZ2.out
  clear ho hb HW HQ
  have HBAD := Lib.hid (fun (h : ws.length < 4 ∨ (ws.getD 0 []).length < 1) => show readLoc s = (zeroL, false) by rw [HR.out, HDEF.out, if_pos h])
  rcases Nat.lt_or_ge ws.length 4 with h4 | h4
  · have HF2 := Lib.hid (HBAD.out (.inl h4))
    go_wp2
    refine bodyPost_ret (v := .tuple #[lcV zeroL none 0, .bool false]) (by simp [results, Tryd.results20, zeroL, go_sem, *]) rfl ?_
    rw [HF2.out]
    exact ⟨none, 0, rfl, Rd.nil_, Nat.zero_le _, Below.setCell (Below.setCell (Below.setCell (Below.setCell HB2.out (Nat.le_refl _) _) (Nat.le_refl _) _) (Nat.le_refl _) _) (Nat.le_refl _) _⟩
  · obtain ⟨g, rfl, hbg, hgs⟩ := own_some HO2.out (by omega)
    have hcap := ownS_cap HO2.out
    obtain ⟨c0, -⟩ := ownS_at (k := 0) HO2.out (by omega)
    obtain ⟨c2', -⟩ := ownS_at (k := 2) HO2.out (by omega)
    obtain ⟨c3, -⟩ := ownS_at (k := 3) HO2.out (by omega)
    have e0 : ws.getD 0 [] = ws[0] := by rw [List.getD_eq_getElem?_getD, List.getElem?_eq_getElem (by omega)]; rfl
    have e2 : ws.getD 2 [] = ws[2] := by rw [List.getD_eq_getElem?_getD, List.getElem?_eq_getElem (by omega)]; rfl
    have e3 : ws.getD 3 [] = ws[3] := by rw [List.getD_eq_getElem?_getD, List.getElem?_eq_getElem (by omega)]; rfl
    rw [e0, e2, e3] at HDEF
    rw [e0] at HBAD
    have x0 := HWL.out.2 _ (List.getElem_mem (show 0 < ws.length by omega))
    have x2 := HWL.out.2 _ (List.getElem_mem (show 2 < ws.length by omega))
    have hwn := HWL.out.1
    clear e0 e2 e3
    have HDR : Hid (∀ x ∈ ws.drop 3, x.length ≤ s.length) := fun x hx => HWL.out.2 x (List.mem_of_mem_drop hx)
    generalize ws[0] = a at *
    generalize ws[2] = ho at *
    generalize ws[3] = p at *
    rcases Nat.lt_or_ge a.length 1 with ha | ha
    · have HF2 := Lib.hid (HBAD.out (.inr ha))
      clear HDEF HBAD
      go_wp2
      refine bodyPost_ret (v := .tuple #[lcV zeroL none 0, .bool false]) (by simp [results, Tryd.results20, zeroL, go_sem, *]) rfl ?_
      rw [HF2.out]
      exact ⟨none, 0, rfl, Rd.nil_, Nat.zero_le _, Below.setCell (Below.setCell (Below.setCell (Below.setCell HB2.out (Nat.le_refl _) _) (Nat.le_refl _) _) (Nat.le_refl _) _) (Nat.le_refl _) _⟩
    · have h41 : (ws.length < 4 ∨ a.length < 1) = False := by rw [eq_iff_iff, iff_false]; omega
      have hp1 : 0 ≤ (a.length : Int) - 1 := by omega
      have hp2 : (a.length : Int) - 1 ≤ a.length := by omega
      have hp3 : ((a.length : Int) - 1).toNat = a.length - 1 := by omega
      rw [if_neg (by omega)] at HDEF
      clear HBAD h41
      go_wp2_with fail
      go_region
      have hz2 := HB2.out.size
      have hzw : w.heap.size < w2.heap.size := by omega
      have HB3 := Lib.hid (HB2.out.trans ((((Below.refl w2.heap.size w2).alloc (Nat.le_refl _) (.cells (lcCells ⟨a.take (a.length - 1), ho, [], qu⟩ none 0) 25)).drew).mono hz2))
      have HO3 := Lib.hid (ownS_keep HO2.out (((Below.refl w2.heap.size w2).alloc (Nat.le_refl _) (.cells (lcCells ⟨a.take (a.length - 1), ho, [], qu⟩ none 0) 25)).drew))
      have HZ3 := Lib.hid (bx_keep HZ2.out (((Below.refl w2.heap.size w2).alloc (Nat.le_refl _) (.cells (lcCells ⟨a.take (a.length - 1), ho, [], qu⟩ none 0) 25)).drew))
      have HBX3 : Hid ((w2.alloc (.cells (lcCells ⟨a.take (a.length - 1), ho, [], qu⟩ none 0) 25)).drew.heap[w2.heap.size]? = some (.cells (lcCells ⟨a.take (a.length - 1), ho, [], qu⟩ none 0) 25 (0, 0))) := heap_alloc_new w2 _
      have hz3 : w2.heap.size < (w2.alloc (.cells (lcCells ⟨a.take (a.length - 1), ho, [], qu⟩ none 0) 25)).drew.heap.size := by simp
      have HC3 := Lib.hid (((((Below.refl w2.heap.size w2).alloc (Nat.le_refl _) (.cells (lcCells ⟨a.take (a.length - 1), ho, [], qu⟩ none 0) 25)).drew).cell (p := ⟨g, 3, none⟩) hgs).trans c3)
      have hsl : (a.take (a.length - 1)).length ≤ s.length := by simp; omega
      clear f0 f1 f2 f3 f4 f5 f6 f7 c0 c2' c3 hp1 hp2 hp3
      generalize (w2.alloc (.cells (lcCells ⟨a.take (a.length - 1), ho, [], qu⟩ none 0) 25)).drew = w3 at *
      generalize a.take (a.length - 1) = sc at *
      have hdl : (ws.drop 3).length = ws.length - 3 := by simp
      have HRD : Hid (Rd w3 w3.heap.size (some ⟨g, 3, none⟩) (scells (ws.drop 3))) := by
        intro _
        obtain ⟨b', o', e, hb', hc⟩ := ownS_rd HO3.out (by intro e; have := congrArg List.length e; rw [List.length_map, List.length_nil] at this; omega)
        injection e with e
        injection e with e1 e2
        subst e1
        subst e2
        refine ⟨g, 3, rfl, hb', fun j u hu => ?_⟩
        have := hc (j + 3) u (by rw [← hu, scells, List.map_drop, List.getElem?_drop, Nat.add_comm])
        rw [Nat.zero_add, Nat.add_comm] at this
        exact this
      have HL1 : Hid (FitL ⟨sc, ho, ws.drop 3, qu⟩) := ⟨by show sc.length ≤ _; omega, by show ho.length ≤ _; omega, by show qu.length ≤ _; omega, by show (ws.drop 3).length ≤ _; omega, fun x hx => by have := HDR.out x hx; omega⟩
      have HL0 : Hid (FitL ⟨sc, ho, [], qu⟩) := ⟨by show sc.length ≤ _; omega, by show ho.length ≤ _; omega, by show qu.length ≤ _; omega, by simp, fun x hx => by cases hx⟩
      have HY := Lib.hid (fun (h : 4 < ws.length ∨ p ≠ []) => show parseLS s = some ⟨sc, ho, ws.drop 3, qu⟩ by rw [HDEF.out, if_pos h])
      have HNO := Lib.hid (fun (h : ¬ (4 < ws.length ∨ p ≠ [])) => show parseLS s = some ⟨sc, ho, [], qu⟩ by rw [HDEF.out, if_neg h])
      have hgw : w2.heap.size ≠ g := by omega
      have hcc : (ws.drop 3).length ≤ c2 - 3 := by omega
      generalize ws.drop 3 = pa at *
      have hs3 : w3.heap.size = (w3.setCell ⟨w2.heap.size, 2, none⟩ (.slice (some ⟨g, 3, none⟩) (ws.length - 3) (c2 - 3))).heap.size := by simp [World.setCell]
      have HR4 : Hid (Rd (w3.setCell ⟨w2.heap.size, 2, none⟩ (.slice (some ⟨g, 3, none⟩) (ws.length - 3) (c2 - 3))) (w3.setCell ⟨w2.heap.size, 2, none⟩ (.slice (some ⟨g, 3, none⟩) (ws.length - 3) (c2 - 3))).heap.size (some ⟨g, 3, none⟩) (scells pa)) := by
        show Rd _ _ _ _
        rw [← hs3]
        exact rd_setc HRD.out (fun b o e => by injection e with e; injection e with e1 e2; omega)
      have HB4 := Lib.hid (Below.setCell HB3.out (p := ⟨w2.heap.size, 2, none⟩) (by show w.heap.size ≤ w2.heap.size; omega) (.slice (some ⟨g, 3, none⟩) (ws.length - 3) (c2 - 3)))
      have HBX4 : Hid ((w3.setCell ⟨w2.heap.size, 2, none⟩ (.slice (some ⟨g, 3, none⟩) (ws.length - 3) (c2 - 3))).heap[w2.heap.size]? = some (.cells (lcCells ⟨sc, ho, pa, qu⟩ (some ⟨g, 3, none⟩) (c2 - 3)) 25 (0, 0))) := by
        show _ = _
        rw [cells_set HBX3.out, ← hdl]
        rfl
      have HZ4 : Hid ((w3.setCell ⟨w2.heap.size, 2, none⟩ (.slice (some ⟨g, 3, none⟩) (ws.length - 3) (c2 - 3))).heap[w.heap.size]? = some (.cells #[.string ⟨#[]⟩, .string ⟨#[]⟩, .slice none 0 0, .string ⟨#[]⟩] 25 (0, 0))) := (Below.heap_setCell _ _ _ _ (by show w.heap.size ≠ w2.heap.size; omega)).trans HZ3.out
      have hgz : g ≠ w.heap.size := by omega
      have HW3 := Lib.hid (And.intro hgw (And.intro hcc hdl))
      clear hcc HA HWL HDR hwn x0 x2 hql HRD
      go_upto_region 6 with fail
      go_cut [48] (fun s48 wx => s48 = .bool (decide (4 < ws.length ∨ p ≠ [])) ∧ wx = w3)
      case first =>
        have q3 := HC3.out
        rcases Nat.lt_or_ge 4 ws.length with h5 | h5
        · have d5 : decide ((4 : Int) < (ws.length : Int)) = true := by simp; omega
          go_wp2
          go_meet
          case rel => exact ⟨by rw [decide_eq_true (.inl h5)], rfl⟩
        · have d5 : decide ((4 : Int) < (ws.length : Int)) = false := by simp; omega
          have h55 : ¬ 4 < ws.length := by omega
          by_cases hpe : p = []
          · have hpi : List.isEmpty p = true := by rw [hpe]; rfl
            have HX : Hid (decide (4 < ws.length ∨ p ≠ []) = false) := by show _ = _; simp [h55, hpe]
            clear hpe
            go_wp2
            go_meet
            case rel => exact ⟨by rw [HX.out], rfl⟩
          · have hpi : List.isEmpty p = false := by simpa using hpe
            have HX : Hid (decide (4 < ws.length ∨ p ≠ []) = true) := by show _ = _; simp [hpe]
            clear hpe
            go_wp2
            go_meet
            case rel => exact ⟨by rw [HX.out], rfl⟩
      case rest =>
        obtain ⟨rfl, rfl⟩ := hcut
        go_upto_if 48 with fail
        go_cut [] (fun wx => RSt s w w2 wx)
        case first =>
          obtain ⟨⟨f0, f1, f2, f3⟩, f4, f5, f6, f7⟩ := box_four HBX3.out
          by_cases h : 4 < ws.length ∨ p ≠ []
          · rw [decide_eq_true h]
            have HS := Lib.hid (HY.out h)
            clear h
            go_wp2
            go_meet
            case rel => exact ⟨some ⟨g, 3, none⟩, c2 - 3, ⟨sc, ho, pa, qu⟩, HS.out, HL1.out, HBX4.out, HZ4.out, HR4.out, HW3.out.2.1, (fun b o e => by injection e with e; injection e with e1 e2; omega), HB4.out⟩
          · rw [decide_eq_false h]
            have HS := Lib.hid (HNO.out h)
            clear h
            go_wp2
            go_meet
            case rel => exact ⟨none, 0, ⟨sc, ho, [], qu⟩, HS.out, HL0.out, HBX3.out, HZ3.out, Rd.nil_, Nat.le_refl 0, (fun b o e => by cases e), HB3.out⟩
        case rest =>
          obtain ⟨A, c, l, hpl, hfl, hbx, hz, hr, hcc, hne, hb4⟩ := hcut
          have HF : Hid (readLoc s = if locOk l && (locText l == s) then (l, true) else (zeroL, false)) := by show _ = _; rw [HR.out, hpl]
          have HL1 := Lib.hid hfl
          have HR4 := Lib.hid hr
          have HB4 := Lib.hid hb4
          have HBX4 := Lib.hid hbx
          have HZ4 := Lib.hid hz
          have HNE := Lib.hid hne
          obtain ⟨⟨f0, f1, f2, f3⟩, f4, f5, f6, f7⟩ := box_four HBX4.out
          clear hpl hfl hbx hz hr hne hb4 HR HDEF HY HNO HC3 HB3 HBX3 HZ3 HO3 HO2 HB2 HZ2
          go_wp2_with fail
          refine (spec_LocationValid l A c _ HR4.out HL1.out).mono ?_
          generalize locOk l = lv at HF ⊢
          rintro e w5 ⟨rfl, hb⟩
          have HB5 := Lib.hid (HB4.out.trans (hb.mono HB4.out.size))
          have HBX5 := Lib.hid (bx_keep HBX4.out hb)
          have HZ5 := Lib.hid (bx_keep HZ4.out hb)
          have HR5 := Lib.hid ((HR4.out.below hb).more hb.size)
          obtain ⟨⟨f0, f1, f2, f3⟩, f4, f5, f6, f7⟩ := box_four HBX5.out
          obtain ⟨⟨z0, z1, z2, z3⟩, z4, z5, z6, z7⟩ := box_four HZ5.out
          clear hb
          cases lv
          ·
            have HF2 : Hid (readLoc s = (zeroL, false)) := HF.out
            have HB2 := HB5
            go_wp2
            refine bodyPost_ret (v := .tuple #[lcV zeroL none 0, .bool false]) (by simp [results, Tryd.results20, zeroL, go_sem, *]) rfl ?_
            rw [HF2.out]
            exact ⟨none, 0, rfl, Rd.nil_, Nat.zero_le _, Below.setCell (Below.setCell (Below.setCell (Below.setCell HB2.out (Nat.le_refl _) _) (Nat.le_refl _) _) (Nat.le_refl _) _) (Nat.le_refl _) _⟩
          ·
            rw [Bool.true_and] at HF
            have HT := Lib.hid (spec_LocationText l A c _ HR5.out HL1.out)
            generalize locText l = y at HF HT
            go_wp2_with fail
            refine HT.out.mono ?_
            rintro e w6 ⟨rfl, hb⟩
            have HB6 := Lib.hid (HB5.out.trans (hb.mono HB5.out.size))
            have HBX6 := Lib.hid (bx_keep HBX5.out hb)
            have HZ6 := Lib.hid (bx_keep HZ5.out hb)
            have HR6 := Lib.hid ((HR5.out.below hb).more hb.size)
            obtain ⟨⟨f0, f1, f2, f3⟩, f4, f5, f6, f7⟩ := box_four HBX6.out
            obtain ⟨⟨z0, z1, z2, z3⟩, z4, z5, z6, z7⟩ := box_four HZ6.out
            clear hb HT
            by_cases hy : y = s
            ·
              have HF2 : Hid (readLoc s = (l, true)) := by show _ = _; rw [HF.out, hy]; simp
              subst hy
              go_wp2
              refine bodyPost_ret (v := .tuple #[lcV l A c, .bool true]) (by simp [results, Tryd.results20, go_sem, *]) rfl ?_
              rw [HF2.out]
              have hs6 := HB6.out.size
              refine ⟨A, c, rfl, ?_, hcc, Below.setCell (Below.setCell (Below.setCell (Below.setCell HB6.out (Nat.le_refl _) _) (Nat.le_refl _) _) (Nat.le_refl _) _) (Nat.le_refl _) _⟩
              refine Rd.more (rd_setc (rd_setc (rd_setc (rd_setc HR6.out ?_) ?_) ?_) ?_) (by simp [World.setCell])
              all_goals exact HNE.out
            ·
              have HF2 : Hid (readLoc s = (zeroL, false)) := by show _ = _; rw [HF.out, if_neg (by simpa using hy)]
              have h1 : (y == s) = false := by simpa using hy
              have h2 : (y != s) = true := by rw [bne, h1]; rfl
              have HB2 := HB6
              clear hy
              go_wp2
              refine bodyPost_ret (v := .tuple #[lcV zeroL none 0, .bool false]) (by simp [results, Tryd.results20, zeroL, go_sem, *]) rfl ?_
              rw [HF2.out]
              exact ⟨none, 0, rfl, Rd.nil_, Nat.zero_le _, Below.setCell (Below.setCell (Below.setCell (Below.setCell HB2.out (Nat.le_refl _) _) (Nat.le_refl _) _) (Nat.le_refl _) _) (Nat.le_refl _) _⟩
end Go.Proofs.YtjlaelkdmgcniaaDoor
