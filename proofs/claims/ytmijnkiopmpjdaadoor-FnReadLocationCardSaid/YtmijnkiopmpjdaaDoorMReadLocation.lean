/- For every code: ReadLocation of the program and of the reference agree on the drawn text; LocationText of what is read is the text; with two slashes behind it the text is refused: the card FnReadLocationCardSaid holds. No conditions. -/
import Derived.Test.YtmijnkiopmpjdaaDoorLocText
import Derived.Test.YtmijnkiopmpjdaaDoorLocDrew
import Derived.RegionTactic
import Derived.BigRegion
import Derived.Test.YtmijnkiopmpjdaaDoorSplit
import Derived.Test.YtmijnkiopmpjdaaDoorCardKit
/- ReadLocation of spec: walks. -/
namespace Go.Proofs.YtmijnkiopmpjdaaDoor
open Go.RowKit

set_option maxRecDepth 100000 in
set_option maxHeartbeats 1000000 in
theorem spec_l32Query (s : Tx) (hl : s.length ≤ 1048576) (w : World) :
    Calls Tryd.prog 77 #[.string ⟨s.toArray⟩] w fun e w' => e = .returned (.tuple #[sv (s.take (at_ 63 s)), sv (s.drop (at_ 63 s + 1))]) ∧ ∃ n, w' = w.drewN n := by
  go_enter Tryd.func77, Tryd.ntmps77
  go_wp2
  go_loop [4] (fun i => ∃ k : Nat, k ≤ s.length ∧ i = .int .i64 k ∧ k ≤ at_ 63 s) (fun i => s.length - (intOf i).toNat)
  case atStart => exact ⟨0, Nat.zero_le _, rfl, Nat.zero_le _⟩
  case round =>
    obtain ⟨k, hk, rfl, ha⟩ := hrel
    by_cases hlt : k < s.length
    · by_cases hc : (s[k] == 63) = true
      · have HA : Hid (at_ 63 s = k) := at_found ha hlt hc
        have b0 : ((s[k].toNat : Int) == 63) = true := by rw [show s[k] = 63 by simpa using hc]; rfl
        clear ha hc
        have hkk : (k : Int) + 1 ≤ s.length := by omega
        go_wp2_with fail
        go_quiet (fail)
        go_wp2
        go_ret2
        rw [HA.out]
        exact ⟨rfl, _, rfl⟩
      · have hc' : (s[k] == 63) = false := by simpa using hc
        have HS : Hid (k + 1 ≤ at_ 63 s) := at_step ha hlt hc'
        have b1 : ((s[k].toNat : Int) == 63) = false := by
          simp
          intro e
          have h2 : s[k] = 63 := UInt8.toNat_inj.1 (by have : ((63 : UInt8).toNat) = 63 := rfl; omega)
          exact hc (by rw [h2]; rfl)
        clear hc hc' ha
        go_wp2
        go_round
        case rel => exact ⟨k + 1, by omega, by go_num, HS.out⟩
        case measure => simp [intOf]; omega
    · have hks : k = s.length := by omega
      have HA : Hid (at_ 63 s = s.length) := by show _ = _; have := at_le 63 s; omega
      clear ha
      go_wp2
      go_ret2
      rw [HA.out]
      exact ⟨by simp, 0, rfl⟩

theorem join_add (c : UInt8) : ∀ (xs : List Tx) (x : Tx), Lib.join (xs ++ [x ++ [c]]) [47] = Lib.join (xs ++ [x]) [47] ++ [c] := by
  intro xs x
  rw [join_snoc, join_snoc]
  split
  · rfl
  · simp
set_option maxRecDepth 100000 in
set_option maxHeartbeats 2000000 in
theorem spec_l32Split (s : Tx) (hl : s.length ≤ 1048576) (w : World) :
    Calls Tryd.prog 78 #[.string ⟨s.toArray⟩] w (NewS w (Lib.split s [47])) := by
  have hnew : ∀ w : World, OwnS (w.alloc (.cells #[.string ⟨#[]⟩] 9)) w.heap.size (some ⟨w.heap.size, 0, none⟩) 1 [[]] := fun w =>
    World.ownsRow_lit (e := 9) w #[.string ⟨#[]⟩] (size := 1) 1 (Nat.le_refl _) (by simp [maxLen]) rfl
  have HNEW := Lib.hid hnew
  clear hnew
  go_enter Tryd.func78, Tryd.ntmps78
  go_wp2
  go_loopw [3, 4] (fun v i wr => ∃ (k : Nat) (A : Option Addr) (c : Nat) (xs : List Tx) (x : Tx), k ≤ s.length ∧ i = .int .i64 k ∧ v = .slice A (xs ++ [x]).length c ∧ xs.length ≤ k ∧ x.length ≤ k ∧ (∀ y ∈ xs ++ [x], noB 47 y) ∧ Lib.join (xs ++ [x]) [47] = s.take k ∧ OwnS wr w.heap.size A c (xs ++ [x]) ∧ Below w.heap.size w wr) (fun _ i _ => s.length - (intOf i).toNat)
  case atStart => exact ⟨0, _, 1, [], [], Nat.zero_le _, rfl, rfl, by simp, by simp, by intro y hy; simp at hy; subst hy; exact noB_nil, by simp [Lib.join_one], HNEW.out w, (Below.refl _ _).alloc (Nat.le_refl _) _⟩
  case round =>
    obtain ⟨k, A, c, xs, x, hk, rfl, rfl, hxk, hxl, hno, hj, ho, hb⟩ := hrel
    have HO := Lib.hid ho
    have HB := Lib.hid hb
    have HJ := Lib.hid hj
    have HNO := Lib.hid hno
    have hsz := hb.size
    clear ho hb hj hno
    by_cases hlt : k < s.length
    · have HT := Lib.hid (take_snoc s k hlt)
      by_cases hc : (s[k] == 47) = true
      · have b0 : ((s[k].toNat : Int) == 47) = true := by rw [show s[k] = 47 by simpa using hc]; rfl
        have HC : Hid (s[k] = 47) := by show _ = _; simpa using hc
        clear hc
        go_wp2_with (at_builtin; refine app_str rfl _ _ rfl w.heap.size A c _ (xs ++ [x]) [] (by rfl) rfl HO.out _ (by rfl) rfl ?_ ?_ ?_; (focus (simp; omega)); (focus omega); intro A4 c4 w4 ho4 hg4)
        go_roundw
        case rel =>
          refine ⟨k + 1, A4, c4, xs ++ [x], [], by omega, by go_num, by simp, by simp; omega, by simp, ?_, ?_, ho4, HB.out.trans (grown_to_below hg4 hsz (ownS_row HO.out))⟩
          · intro y hy
            rcases List.mem_append.1 hy with hy | hy
            · exact HNO.out y hy
            · simp at hy; subst hy; exact noB_nil
          · rw [join_snoc, if_neg (by simp), HJ.out, HT.out, HC.out]; simp
        case measure => simp [intOf]; omega
      · have b1 : ((s[k].toNat : Int) == 47) = false := by
          simp
          intro e
          have h2 : s[k] = 47 := UInt8.toNat_inj.1 (by have : ((47 : UInt8).toNat) = 47 := rfl; omega)
          exact hc (by rw [h2]; rfl)
        have HC : Hid (s[k] ≠ 47) := by show _ ≠ _; simpa using hc
        clear hc
        obtain ⟨g, rfl, hbg, hgs⟩ := own_some HO.out (by simp)
        obtain ⟨hcell, hfr⟩ := ownS_at (k := xs.length) HO.out (by simp)
        rw [List.getElem_append_right (Nat.le_refl _)] at hcell
        simp only [Nat.sub_self, List.getElem_cons_zero] at hcell
        have e1 : (9223372036854775807 < x.length + 1) = False := by rw [eq_iff_iff, iff_false]; omega
        have hln : (xs ++ [x]).length = xs.length + 1 := by simp
        have hkk : (k : Int) + 1 ≤ s.length := by omega
        go_wp2_with fail
        go_region
        go_wp2
        go_roundw
        case rel =>
          have hd : (s.take (k + 1)).drop k = [s[k]] := by rw [HT.out, List.drop_append_of_le_length (by simp; omega), List.drop_of_length_le (by simp; omega)]; rfl
          rw [hd]
          have hset := ownS_set (k := xs.length) HO.out (x ++ [s[k]])
          rw [show (xs ++ [x]).set xs.length (x ++ [s[k]]) = xs ++ [x ++ [s[k]]] by simp] at hset
          refine ⟨k + 1, _, c, xs, x ++ [s[k]], by omega, by go_num, by simp, by omega, by simp; omega, ?_, ?_, ownS_keep hset (below_drewN (Below.refl _ _) 1), (Below.setCell HB.out hbg _).drew⟩
          · intro y hy
            rcases List.mem_append.1 hy with hy | hy
            · exact HNO.out y (by simp [hy])
            · simp at hy
              subst hy
              exact noB_append (HNO.out x (by simp)) (noB_cons HC.out noB_nil)
          · rw [join_add, HJ.out, HT.out]
        case measure => simp [intOf]; omega
    · have hks : k = s.length := by omega
      have HE : Hid (Lib.split s [47] = xs ++ [x]) := by
        show _ = _
        have h := HJ.out
        rw [hks, List.take_length] at h
        rw [← h]
        exact split_join _ (by simp) HNO.out
      go_wp2
      go_ret
      rw [HE.out]
      exact ⟨A, c, rfl, HO.out, HB.out⟩

/-- a location that a call hands back, and whether there is one -/
def RdL (w : World) (r : Lc × Bool) (e : Ending) (w' : World) : Prop :=
  ∃ A c, e = .returned (.tuple #[lcV r.1 A c, .bool r.2]) ∧ Rd w' w'.heap.size A (scells r.1.path) ∧ r.1.path.length ≤ c ∧ Below w.heap.size w w'
theorem rd_setc {w : World} {B k o : Nat} {A : Option Addr} {xs : List Value} {u : Value} (h : Rd w B A xs) (hk : ∀ b o, A = some ⟨b, o, none⟩ → b ≠ k) : Rd (w.setCell ⟨k, o, none⟩ u) B A xs := fun hne => by
  obtain ⟨b, o', e, hb, hc⟩ := h hne
  exact ⟨b, o', e, hb, fun j v hv => (World.cell?_of_block (Below.heap_setCell _ _ _ _ (hk _ _ e))).trans (hc j v hv)⟩
/-- what the box of the read location holds -/
def RSt (s : Tx) (w w2 wx : World) : Prop :=
  ∃ (A : Option Addr) (c : Nat) (l : Lc), parseLS s = some l ∧ FitL l ∧ wx.heap[w2.heap.size]? = some (.cells (lcCells l A c) 43 (0, 0)) ∧ wx.heap[w.heap.size]? = some (.cells #[.string ⟨#[]⟩, .string ⟨#[]⟩, .slice none 0 0, .string ⟨#[]⟩] 43 (0, 0)) ∧ Rd wx wx.heap.size A (scells l.path) ∧ l.path.length ≤ c ∧ (∀ b o, A = some ⟨b, o, none⟩ → b ≠ w.heap.size) ∧ Below w.heap.size w wx
set_option maxRecDepth 100000 in
set_option maxHeartbeats 4000000 in
theorem spec_ReadLocation (s : Tx) (hl : s.length ≤ 1048576) (w : World) :
    Calls Tryd.prog 36 #[.string ⟨s.toArray⟩] w (RdL w (readLoc s)) := by
  have HA := Lib.hid ((Below.refl w.heap.size w).alloc (Nat.le_refl _) (.cells #[.string ⟨#[]⟩, .string ⟨#[]⟩, .slice none 0 0, .string ⟨#[]⟩] 43))
  have HR := Lib.hid (readLoc_spec s)
  have HQ := Lib.hid (fun w => spec_l32Query s hl w)
  have HW := Lib.hid (fun w => spec_l32Split (s.take (at_ 63 s)) (by simp; omega) w)
  have HDEF : Hid (parseLS s = if (wordsOf s).length < 4 ∨ ((wordsOf s).getD 0 []).length < 1 then none
    else some ⟨((wordsOf s).getD 0 []).take (((wordsOf s).getD 0 []).length - 1), (wordsOf s).getD 2 [], if 4 < (wordsOf s).length ∨ (wordsOf s).getD 3 [] ≠ [] then (wordsOf s).drop 3 else [], s.drop (at_ 63 s + 1)⟩) := rfl
  have hwl : (wordsOf s).length ≤ s.length + 1 ∧ ∀ x ∈ wordsOf s, x.length ≤ s.length := by
    unfold wordsOf
    refine ⟨Nat.le_trans (split_len _ (by simp)) (by simp; omega), fun x hx => Nat.le_trans (split_mem _ (by simp) x hx) (by simp; omega)⟩
  have HWL := Lib.hid hwl
  have hql : (s.drop (at_ 63 s + 1)).length ≤ s.length := by simp
  rw [show Lib.split (s.take (at_ 63 s)) [47] = wordsOf s from rfl] at HW
  generalize wordsOf s = ws at *
  generalize s.drop (at_ 63 s + 1) = qu at *
  generalize s.take (at_ 63 s) = bf at *
  clear hwl
  go_enter Tryd.func36, Tryd.ntmps36
  go_wp2_with fail
  refine (HQ.out _).mono ?_
  rintro e w1 ⟨rfl, n1, rfl⟩
  have HB1 := Lib.hid (below_drewN HA.out n1)
  have HZ1 : Hid (((w.alloc (.cells #[.string ⟨#[]⟩, .string ⟨#[]⟩, .slice none 0 0, .string ⟨#[]⟩] 43)).drewN n1).heap[w.heap.size]? = some (.cells #[.string ⟨#[]⟩, .string ⟨#[]⟩, .slice none 0 0, .string ⟨#[]⟩] 43 (0, 0))) := heap_alloc_new w _
  generalize (w.alloc (.cells #[.string ⟨#[]⟩, .string ⟨#[]⟩, .slice none 0 0, .string ⟨#[]⟩] 43)).drewN n1 = w1 at *
  go_wp2_with fail
  refine (HW.out _).mono ?_
  rintro e w2 ⟨A2, c2, rfl, ho, hb⟩
  have hz1 : w.heap.size < w1.heap.size := by
    have := HZ1.out
    rcases Nat.lt_or_ge w.heap.size w1.heap.size with h | h
    · exact h
    · rw [Array.getElem?_eq_none h] at this; cases this
  have HB2 := Lib.hid (HB1.out.trans (hb.mono HB1.out.size))
  have HZ2 := Lib.hid ((hb.block w.heap.size hz1).trans HZ1.out)
  have HO2 := Lib.hid ho
  obtain ⟨⟨f0, f1, f2, f3⟩, f4, f5, f6, f7⟩ := box_four HZ2.out
  clear ho hb HW HQ
  have HBAD := Lib.hid (fun (h : ws.length < 4 ∨ (ws.getD 0 []).length < 1) => show readLoc s = (zeroL, false) by rw [HR.out, HDEF.out, if_pos h])
  rcases Nat.lt_or_ge ws.length 4 with h4 | h4
  · have HF2 := Lib.hid (HBAD.out (.inl h4))
    go_wp2
    refine bodyPost_ret (v := .tuple #[lcV zeroL none 0, .bool false]) (by simp [results, Tryd.results36, zeroL, go_sem, *]) rfl ?_
    rw [HF2.out]
    exact ⟨none, 0, rfl, Rd.nil_, Nat.zero_le _, Below.setCell (Below.setCell (Below.setCell (Below.setCell HB2.out (Nat.le_refl _) _) (Nat.le_refl _) _) (Nat.le_refl _) _) (Nat.le_refl _) _⟩
  · obtain ⟨g, rfl, hbg, hgs⟩ := own_some HO2.out (by omega)
    have hcap := ownS_cap HO2.out
    obtain ⟨c0, -⟩ := ownS_at (k := 0) HO2.out (by omega)
    obtain ⟨c2', -⟩ := ownS_at (k := 2) HO2.out (by omega)
    obtain ⟨c3, -⟩ := ownS_at (k := 3) HO2.out (by omega)
    have e0 : ws.getD 0 [] = ws[0] := by rw [List.getD_eq_getElem?_getD, List.getElem?_eq_getElem (by omega)]; rfl
    have e2 : ws.getD 2 [] = ws[2] := by rw [List.getD_eq_getElem?_getD, List.getElem?_eq_getElem (by omega)]; rfl
    have e3 : ws.getD 3 [] = ws[3] := by rw [List.getD_eq_getElem?_getD, List.getElem?_eq_getElem (by omega)]; rfl
    rw [e0, e2, e3] at HDEF
    rw [e0] at HBAD
    have x0 := HWL.out.2 _ (List.getElem_mem (show 0 < ws.length by omega))
    have x2 := HWL.out.2 _ (List.getElem_mem (show 2 < ws.length by omega))
    have hwn := HWL.out.1
    clear e0 e2 e3
    have HDR : Hid (∀ x ∈ ws.drop 3, x.length ≤ s.length) := fun x hx => HWL.out.2 x (List.mem_of_mem_drop hx)
    generalize ws[0] = a at *
    generalize ws[2] = ho at *
    generalize ws[3] = p at *
    rcases Nat.lt_or_ge a.length 1 with ha | ha
    · have HF2 := Lib.hid (HBAD.out (.inr ha))
      clear HDEF HBAD
      go_wp2
      refine bodyPost_ret (v := .tuple #[lcV zeroL none 0, .bool false]) (by simp [results, Tryd.results36, zeroL, go_sem, *]) rfl ?_
      rw [HF2.out]
      exact ⟨none, 0, rfl, Rd.nil_, Nat.zero_le _, Below.setCell (Below.setCell (Below.setCell (Below.setCell HB2.out (Nat.le_refl _) _) (Nat.le_refl _) _) (Nat.le_refl _) _) (Nat.le_refl _) _⟩
    · have h41 : (ws.length < 4 ∨ a.length < 1) = False := by rw [eq_iff_iff, iff_false]; omega
      have hp1 : 0 ≤ (a.length : Int) - 1 := by omega
      have hp2 : (a.length : Int) - 1 ≤ a.length := by omega
      have hp3 : ((a.length : Int) - 1).toNat = a.length - 1 := by omega
      rw [if_neg (by omega)] at HDEF
      clear HBAD h41
      go_wp2_with fail
      go_region
      have hz2 := HB2.out.size
      have hzw : w.heap.size < w2.heap.size := by omega
      have HB3 := Lib.hid (HB2.out.trans ((((Below.refl w2.heap.size w2).alloc (Nat.le_refl _) (.cells (lcCells ⟨a.take (a.length - 1), ho, [], qu⟩ none 0) 43)).drew).mono hz2))
      have HO3 := Lib.hid (ownS_keep HO2.out (((Below.refl w2.heap.size w2).alloc (Nat.le_refl _) (.cells (lcCells ⟨a.take (a.length - 1), ho, [], qu⟩ none 0) 43)).drew))
      have HZ3 := Lib.hid (bx_keep HZ2.out (((Below.refl w2.heap.size w2).alloc (Nat.le_refl _) (.cells (lcCells ⟨a.take (a.length - 1), ho, [], qu⟩ none 0) 43)).drew))
      have HBX3 : Hid ((w2.alloc (.cells (lcCells ⟨a.take (a.length - 1), ho, [], qu⟩ none 0) 43)).drew.heap[w2.heap.size]? = some (.cells (lcCells ⟨a.take (a.length - 1), ho, [], qu⟩ none 0) 43 (0, 0))) := heap_alloc_new w2 _
      have hz3 : w2.heap.size < (w2.alloc (.cells (lcCells ⟨a.take (a.length - 1), ho, [], qu⟩ none 0) 43)).drew.heap.size := by simp
      have HC3 := Lib.hid (((((Below.refl w2.heap.size w2).alloc (Nat.le_refl _) (.cells (lcCells ⟨a.take (a.length - 1), ho, [], qu⟩ none 0) 43)).drew).cell (p := ⟨g, 3, none⟩) hgs).trans c3)
      have hsl : (a.take (a.length - 1)).length ≤ s.length := by simp; omega
      clear f0 f1 f2 f3 f4 f5 f6 f7 c0 c2' c3 hp1 hp2 hp3
      generalize (w2.alloc (.cells (lcCells ⟨a.take (a.length - 1), ho, [], qu⟩ none 0) 43)).drew = w3 at *
      generalize a.take (a.length - 1) = sc at *
      have hdl : (ws.drop 3).length = ws.length - 3 := by simp
      have HRD : Hid (Rd w3 w3.heap.size (some ⟨g, 3, none⟩) (scells (ws.drop 3))) := by
        intro _
        obtain ⟨b', o', e, hb', hc⟩ := ownS_rd HO3.out (by intro e; have := congrArg List.length e; rw [List.length_map, List.length_nil] at this; omega)
        injection e with e
        injection e with e1 e2
        subst e1
        subst e2
        refine ⟨g, 3, rfl, hb', fun j u hu => ?_⟩
        have := hc (j + 3) u (by rw [← hu, scells, List.map_drop, List.getElem?_drop, Nat.add_comm])
        rw [Nat.zero_add, Nat.add_comm] at this
        exact this
      have HL1 : Hid (FitL ⟨sc, ho, ws.drop 3, qu⟩) := ⟨by show sc.length ≤ _; omega, by show ho.length ≤ _; omega, by show qu.length ≤ _; omega, by show (ws.drop 3).length ≤ _; omega, fun x hx => by have := HDR.out x hx; omega⟩
      have HL0 : Hid (FitL ⟨sc, ho, [], qu⟩) := ⟨by show sc.length ≤ _; omega, by show ho.length ≤ _; omega, by show qu.length ≤ _; omega, by simp, fun x hx => by cases hx⟩
      have HY := Lib.hid (fun (h : 4 < ws.length ∨ p ≠ []) => show parseLS s = some ⟨sc, ho, ws.drop 3, qu⟩ by rw [HDEF.out, if_pos h])
      have HNO := Lib.hid (fun (h : ¬ (4 < ws.length ∨ p ≠ [])) => show parseLS s = some ⟨sc, ho, [], qu⟩ by rw [HDEF.out, if_neg h])
      have hgw : w2.heap.size ≠ g := by omega
      have hcc : (ws.drop 3).length ≤ c2 - 3 := by omega
      generalize ws.drop 3 = pa at *
      have hs3 : w3.heap.size = (w3.setCell ⟨w2.heap.size, 2, none⟩ (.slice (some ⟨g, 3, none⟩) (ws.length - 3) (c2 - 3))).heap.size := by simp [World.setCell]
      have HR4 : Hid (Rd (w3.setCell ⟨w2.heap.size, 2, none⟩ (.slice (some ⟨g, 3, none⟩) (ws.length - 3) (c2 - 3))) (w3.setCell ⟨w2.heap.size, 2, none⟩ (.slice (some ⟨g, 3, none⟩) (ws.length - 3) (c2 - 3))).heap.size (some ⟨g, 3, none⟩) (scells pa)) := by
        show Rd _ _ _ _
        rw [← hs3]
        exact rd_setc HRD.out (fun b o e => by injection e with e; injection e with e1 e2; omega)
      have HB4 := Lib.hid (Below.setCell HB3.out (p := ⟨w2.heap.size, 2, none⟩) (by show w.heap.size ≤ w2.heap.size; omega) (.slice (some ⟨g, 3, none⟩) (ws.length - 3) (c2 - 3)))
      have HBX4 : Hid ((w3.setCell ⟨w2.heap.size, 2, none⟩ (.slice (some ⟨g, 3, none⟩) (ws.length - 3) (c2 - 3))).heap[w2.heap.size]? = some (.cells (lcCells ⟨sc, ho, pa, qu⟩ (some ⟨g, 3, none⟩) (c2 - 3)) 43 (0, 0))) := by
        show _ = _
        rw [cells_set HBX3.out, ← hdl]
        rfl
      have HZ4 : Hid ((w3.setCell ⟨w2.heap.size, 2, none⟩ (.slice (some ⟨g, 3, none⟩) (ws.length - 3) (c2 - 3))).heap[w.heap.size]? = some (.cells #[.string ⟨#[]⟩, .string ⟨#[]⟩, .slice none 0 0, .string ⟨#[]⟩] 43 (0, 0))) := (Below.heap_setCell _ _ _ _ (by show w.heap.size ≠ w2.heap.size; omega)).trans HZ3.out
      have hgz : g ≠ w.heap.size := by omega
      have HW3 := Lib.hid (And.intro hgw (And.intro hcc hdl))
      clear hcc HA HWL HDR hwn x0 x2 hql HRD
      go_upto_region 6 with fail
      go_cut [48] (fun s48 wx => s48 = .bool (decide (4 < ws.length ∨ p ≠ [])) ∧ wx = w3)
      case first =>
        have q3 := HC3.out
        rcases Nat.lt_or_ge 4 ws.length with h5 | h5
        · have d5 : decide ((4 : Int) < (ws.length : Int)) = true := by simp; omega
          go_wp2
          go_meet
          case rel => exact ⟨by rw [decide_eq_true (.inl h5)], rfl⟩
        · have d5 : decide ((4 : Int) < (ws.length : Int)) = false := by simp; omega
          have h55 : ¬ 4 < ws.length := by omega
          by_cases hpe : p = []
          · have hpi : List.isEmpty p = true := by rw [hpe]; rfl
            have HX : Hid (decide (4 < ws.length ∨ p ≠ []) = false) := by show _ = _; simp [h55, hpe]
            clear hpe
            go_wp2
            go_meet
            case rel => exact ⟨by rw [HX.out], rfl⟩
          · have hpi : List.isEmpty p = false := by simpa using hpe
            have HX : Hid (decide (4 < ws.length ∨ p ≠ []) = true) := by show _ = _; simp [hpe]
            clear hpe
            go_wp2
            go_meet
            case rel => exact ⟨by rw [HX.out], rfl⟩
      case rest =>
        obtain ⟨rfl, rfl⟩ := hcut
        go_upto_if 48 with fail
        go_cut [] (fun wx => RSt s w w2 wx)
        case first =>
          obtain ⟨⟨f0, f1, f2, f3⟩, f4, f5, f6, f7⟩ := box_four HBX3.out
          by_cases h : 4 < ws.length ∨ p ≠ []
          · rw [decide_eq_true h]
            have HS := Lib.hid (HY.out h)
            clear h
            go_wp2
            go_meet
            case rel => exact ⟨some ⟨g, 3, none⟩, c2 - 3, ⟨sc, ho, pa, qu⟩, HS.out, HL1.out, HBX4.out, HZ4.out, HR4.out, HW3.out.2.1, (fun b o e => by injection e with e; injection e with e1 e2; omega), HB4.out⟩
          · rw [decide_eq_false h]
            have HS := Lib.hid (HNO.out h)
            clear h
            go_wp2
            go_meet
            case rel => exact ⟨none, 0, ⟨sc, ho, [], qu⟩, HS.out, HL0.out, HBX3.out, HZ3.out, Rd.nil_, Nat.le_refl 0, (fun b o e => by cases e), HB3.out⟩
        case rest =>
          obtain ⟨A, c, l, hpl, hfl, hbx, hz, hr, hcc, hne, hb4⟩ := hcut
          have HF : Hid (readLoc s = if locOk l && (locText l == s) then (l, true) else (zeroL, false)) := by show _ = _; rw [HR.out, hpl]
          have HL1 := Lib.hid hfl
          have HR4 := Lib.hid hr
          have HB4 := Lib.hid hb4
          have HBX4 := Lib.hid hbx
          have HZ4 := Lib.hid hz
          have HNE := Lib.hid hne
          obtain ⟨⟨f0, f1, f2, f3⟩, f4, f5, f6, f7⟩ := box_four HBX4.out
          clear hpl hfl hbx hz hr hne hb4 HR HDEF HY HNO HC3 HB3 HBX3 HZ3 HO3 HO2 HB2 HZ2
          go_wp2_with fail
          refine (spec_LocationValid l A c _ HR4.out HL1.out).mono ?_
          generalize locOk l = lv at HF ⊢
          rintro e w5 ⟨rfl, hb⟩
          have HB5 := Lib.hid (HB4.out.trans (hb.mono HB4.out.size))
          have HBX5 := Lib.hid (bx_keep HBX4.out hb)
          have HZ5 := Lib.hid (bx_keep HZ4.out hb)
          have HR5 := Lib.hid ((HR4.out.below hb).more hb.size)
          obtain ⟨⟨f0, f1, f2, f3⟩, f4, f5, f6, f7⟩ := box_four HBX5.out
          obtain ⟨⟨z0, z1, z2, z3⟩, z4, z5, z6, z7⟩ := box_four HZ5.out
          clear hb
          cases lv
          ·
            have HF2 : Hid (readLoc s = (zeroL, false)) := HF.out
            have HB2 := HB5
            go_wp2
            refine bodyPost_ret (v := .tuple #[lcV zeroL none 0, .bool false]) (by simp [results, Tryd.results36, zeroL, go_sem, *]) rfl ?_
            rw [HF2.out]
            exact ⟨none, 0, rfl, Rd.nil_, Nat.zero_le _, Below.setCell (Below.setCell (Below.setCell (Below.setCell HB2.out (Nat.le_refl _) _) (Nat.le_refl _) _) (Nat.le_refl _) _) (Nat.le_refl _) _⟩
          ·
            rw [Bool.true_and] at HF
            have HT := Lib.hid (spec_LocationText l A c _ HR5.out HL1.out)
            generalize locText l = y at HF HT
            go_wp2_with fail
            refine HT.out.mono ?_
            rintro e w6 ⟨rfl, hb⟩
            have HB6 := Lib.hid (HB5.out.trans (hb.mono HB5.out.size))
            have HBX6 := Lib.hid (bx_keep HBX5.out hb)
            have HZ6 := Lib.hid (bx_keep HZ5.out hb)
            have HR6 := Lib.hid ((HR5.out.below hb).more hb.size)
            obtain ⟨⟨f0, f1, f2, f3⟩, f4, f5, f6, f7⟩ := box_four HBX6.out
            obtain ⟨⟨z0, z1, z2, z3⟩, z4, z5, z6, z7⟩ := box_four HZ6.out
            clear hb HT
            by_cases hy : y = s
            ·
              have HF2 : Hid (readLoc s = (l, true)) := by show _ = _; rw [HF.out, hy]; simp
              subst hy
              go_wp2
              refine bodyPost_ret (v := .tuple #[lcV l A c, .bool true]) (by simp [results, Tryd.results36, go_sem, *]) rfl ?_
              rw [HF2.out]
              have hs6 := HB6.out.size
              refine ⟨A, c, rfl, ?_, hcc, Below.setCell (Below.setCell (Below.setCell (Below.setCell HB6.out (Nat.le_refl _) _) (Nat.le_refl _) _) (Nat.le_refl _) _) (Nat.le_refl _) _⟩
              refine Rd.more (rd_setc (rd_setc (rd_setc (rd_setc HR6.out ?_) ?_) ?_) ?_) (by simp [World.setCell])
              all_goals exact HNE.out
            ·
              have HF2 : Hid (readLoc s = (zeroL, false)) := by show _ = _; rw [HF.out, if_neg (by simpa using hy)]
              have h1 : (y == s) = false := by simpa using hy
              have h2 : (y != s) = true := by rw [bne, h1]; rfl
              have HB2 := HB6
              clear hy
              go_wp2
              refine bodyPost_ret (v := .tuple #[lcV zeroL none 0, .bool false]) (by simp [results, Tryd.results36, zeroL, go_sem, *]) rfl ?_
              rw [HF2.out]
              exact ⟨none, 0, rfl, Rd.nil_, Nat.zero_le _, Below.setCell (Below.setCell (Below.setCell (Below.setCell HB2.out (Nat.le_refl _) _) (Nat.le_refl _) _) (Nat.le_refl _) _) (Nat.le_refl _) _⟩
end Go.Proofs.YtmijnkiopmpjdaaDoor

/- ReadLocation of impl: walks. -/
namespace Go.Proofs.YtmijnkiopmpjdaaDoor
open Go.RowKit

theorem cut_tx (l sep : Tx) (hl : l.length ≤ 1048576) (w : World) (hm : Hm w) :
    Calls Tryd.prog 75 #[.string ⟨l.toArray⟩, .string ⟨sep.toArray⟩] w fun e w' => e = .returned (.tuple #[sv (Lib.cut l sep).1, sv (Lib.cut l sep).2.1, .bool (Lib.cut l sep).2.2]) ∧ ∃ n, w' = w.drewN n := by
  obtain ⟨m, hm⟩ := hm
  have e1 : (ByteArray.mk l.toArray).size = l.length := by show l.toArray.size = _; simp
  exact Tryd.strings_Cut ⟨l.toArray⟩ ⟨sep.toArray⟩ m w (by omega) hm
/-- a location of the call's own, and whether there is one -/
def NewLB (w : World) (r : Lc × Bool) (e : Ending) (w' : World) : Prop := ∃ A c, e = .returned (.tuple #[lcV r.1 A c, .bool r.2]) ∧ OwnS w' w.heap.size A c r.1.path ∧ Below w.heap.size w w'
theorem hm_drew {w : World} {n : Nat} (h : Hm w) : Hm (w.drewN n) := h.below (below_drewN (Below.refl _ _) n)
/-- what the box of the read location holds -/
def RStI (s : Tx) (w w1 : World) (b : Bool) (wx : World) : Prop :=
  ∃ (A : Option Addr) (c : Nat) (l : Lc), (readLoc s = if b && locOk l && (locText l == s) then (l, true) else (zeroL, false)) ∧ FitL l ∧ wx.heap[w1.heap.size]? = some (.cells (lcCells l A c) 43 (0, 0)) ∧ wx.heap[w.heap.size]? = some (.cells #[.string ⟨#[]⟩, .string ⟨#[]⟩, .slice none 0 0, .string ⟨#[]⟩] 43 (0, 0)) ∧ OwnS wx (w1.heap.size + 1) A c l.path ∧ Below w.heap.size w wx

set_option maxRecDepth 100000 in
set_option maxHeartbeats 8000000 in
theorem impl_ReadLocation (s : Tx) (hl : s.length ≤ 1048576) (w : World) (hm : Hm w) :
    Calls Tryd.prog 34 #[.string ⟨s.toArray⟩] w (NewLB w (readLoc s)) := by
  have HA := Lib.hid ((Below.refl w.heap.size w).alloc (Nat.le_refl _) (.cells #[.string ⟨#[]⟩, .string ⟨#[]⟩, .slice none 0 0, .string ⟨#[]⟩] 43))
  have HM := Lib.hid hm
  have HP : Hid (readLoc s = if (parseLI s).2 && locOk (parseLI s).1 && (locText (parseLI s).1 == s) then ((parseLI s).1, true) else (zeroL, false)) := rfl
  have HD : Hid (parseLI s = (⟨(Lib.cut s [58, 47, 47]).1, (Lib.cut (Lib.cut s [58, 47, 47]).2.1 [47]).1,
    if (Lib.cut (Lib.cut (Lib.cut s [58, 47, 47]).2.1 [47]).2.1 [63]).1 = [] then [] else Lib.split (Lib.cut (Lib.cut (Lib.cut s [58, 47, 47]).2.1 [47]).2.1 [63]).1 [47],
    (Lib.cut (Lib.cut (Lib.cut s [58, 47, 47]).2.1 [47]).2.1 [63]).2.1⟩,
   (Lib.cut s [58, 47, 47]).2.2 && (Lib.cut (Lib.cut s [58, 47, 47]).2.1 [47]).2.2)) := rfl
  have HFL := Lib.hid (parseLI_fit hl)
  have HC1 := Lib.hid (fun w hm => cut_tx s [58, 47, 47] hl w hm)
  have h1l := cut_len2 s [58, 47, 47]
  have HC2 := Lib.hid (fun w hm => cut_tx (Lib.cut s [58, 47, 47]).2.1 [47] (by omega) w hm)
  have h2l := cut_len2 (Lib.cut s [58, 47, 47]).2.1 [47]
  have HC3 := Lib.hid (fun w hm => cut_tx (Lib.cut (Lib.cut s [58, 47, 47]).2.1 [47]).2.1 [63] (by omega) w hm)
  have h3l := cut_len1 (Lib.cut (Lib.cut s [58, 47, 47]).2.1 [47]).2.1 [63]
  generalize parseLI s = ps at *
  generalize Lib.cut s [58, 47, 47] = x1 at *
  obtain ⟨sc, r1, ok⟩ := x1
  dsimp only at *
  generalize Lib.cut r1 [47] = x2 at *
  obtain ⟨ho, r2, sl⟩ := x2
  dsimp only at *
  generalize Lib.cut r2 [63] = x3 at *
  obtain ⟨pa, qu, has3⟩ := x3
  dsimp only at *
  have HS := Lib.hid (fun w hm => split_tx pa [47] (by simp) (by omega) w hm)
  go_enter Tryd.func34, Tryd.ntmps34
  go_wp2_with fail
  refine (HC1.out _ (HM.out.below HA.out)).mono ?_
  rintro e w1 ⟨rfl, n1, rfl⟩
  have HB0 := Lib.hid (below_drewN HA.out n1)
  have HZ0 : Hid (((w.alloc (.cells #[.string ⟨#[]⟩, .string ⟨#[]⟩, .slice none 0 0, .string ⟨#[]⟩] 43)).drewN n1).heap[w.heap.size]? = some (.cells #[.string ⟨#[]⟩, .string ⟨#[]⟩, .slice none 0 0, .string ⟨#[]⟩] 43 (0, 0))) := heap_alloc_new w _
  have hz0 : w.heap.size < ((w.alloc (.cells #[.string ⟨#[]⟩, .string ⟨#[]⟩, .slice none 0 0, .string ⟨#[]⟩] 43)).drewN n1).heap.size := by show w.heap.size < (w.alloc _).heap.size; simp
  generalize (w.alloc (.cells #[.string ⟨#[]⟩, .string ⟨#[]⟩, .slice none 0 0, .string ⟨#[]⟩] 43)).drewN n1 = wa at *
  go_wp2_with fail
  refine (HC2.out _ (HM.out.below HB0.out)).mono ?_
  rintro e w1 ⟨rfl, n2, rfl⟩
  have HB0 := Lib.hid (below_drewN HB0.out n2)
  have HZ0 : Hid ((wa.drewN n2).heap[w.heap.size]? = some (.cells #[.string ⟨#[]⟩, .string ⟨#[]⟩, .slice none 0 0, .string ⟨#[]⟩] 43 (0, 0))) := HZ0.out
  have hz0 : w.heap.size < (wa.drewN n2).heap.size := hz0
  generalize wa.drewN n2 = wb at *
  go_wp2_with fail
  refine (HC3.out _ (HM.out.below HB0.out)).mono ?_
  rintro e w1 ⟨rfl, n3, rfl⟩
  have HB1 := Lib.hid (below_drewN HB0.out n3)
  have HZ1 : Hid ((wb.drewN n3).heap[w.heap.size]? = some (.cells #[.string ⟨#[]⟩, .string ⟨#[]⟩, .slice none 0 0, .string ⟨#[]⟩] 43 (0, 0))) := HZ0.out
  have hz1 : w.heap.size < (wb.drewN n3).heap.size := hz0
  generalize wb.drewN n3 = w1 at *
  have HBa := Lib.hid ((Below.refl w1.heap.size w1).alloc (Nat.le_refl _) (.cells (lcCells ⟨sc, ho, [], qu⟩ none 0) 43))
  have HB3 := Lib.hid (HB1.out.trans (HBa.out.mono HB1.out.size))
  have HZ3 := Lib.hid (bx_keep HZ1.out HBa.out)
  have HBX3 := Lib.hid (loc_box w1 ⟨sc, ho, [], qu⟩ none 0 43)
  clear HC1 HC2 HC3
  go_upto_if 37 with fail
  go_cut [] (fun wx => RStI s w w1 (ok && sl) wx)
  case first =>
    by_cases hpe : pa = []
    · have hpi : List.isEmpty pa = true := by rw [hpe]; rfl
      rw [if_pos hpe] at HD
      rw [HD.out] at HP HFL
      dsimp only at HP HFL
      clear HD hpe
      rw [hpi, Bool.not_true]
      go_wp2
      go_meet
      case rel => exact ⟨none, 0, ⟨sc, ho, [], qu⟩, HP.out, HFL.out, HBX3.out, HZ3.out, ownS_nil _ _, HB3.out⟩
    · have hpi : List.isEmpty pa = false := by simpa using hpe
      rw [if_neg hpe] at HD
      rw [HD.out] at HP HFL
      dsimp only at HP HFL
      clear HD hpe
      generalize Lib.split pa [47] = ws at *
      rw [hpi, Bool.not_false]
      go_wp2_with fail
      refine (HS.out _ (HM.out.below HB3.out)).mono ?_
      rintro e w2 ⟨A2, c2, rfl, hox, hb⟩
      have HBw := Lib.hid (HB3.out.trans (hb.mono HB3.out.size))
      have HBXw := Lib.hid (bx_keep HBX3.out hb)
      have HZw := Lib.hid (bx_keep HZ3.out hb)
      have HOw := Lib.hid (own_base hox (b := w1.heap.size + 1) (by simp))
      obtain ⟨⟨g0, g1, g2, g3⟩, g4, g5, g6, g7⟩ := box_four HBXw.out
      have hzz := HB1.out.size
      have HBX4 : Hid ((w2.setCell ⟨w1.heap.size, 2, none⟩ (.slice A2 ws.length c2)).heap[w1.heap.size]? = some (.cells (lcCells ⟨sc, ho, ws, qu⟩ A2 c2) 43 (0, 0))) := by
        show _ = _
        rw [cells_set HBXw.out]
        rfl
      have HZ4 : Hid ((w2.setCell ⟨w1.heap.size, 2, none⟩ (.slice A2 ws.length c2)).heap[w.heap.size]? = some (.cells #[.string ⟨#[]⟩, .string ⟨#[]⟩, .slice none 0 0, .string ⟨#[]⟩] 43 (0, 0))) := (Below.heap_setCell _ _ _ _ (by show w.heap.size ≠ w1.heap.size; omega)).trans HZw.out
      clear hox hb
      go_wp2
      go_meet
      case rel => exact ⟨A2, c2, ⟨sc, ho, ws, qu⟩, HP.out, HFL.out, HBX4.out, HZ4.out, own_off HOw.out (Nat.lt_succ_self _), Below.setCell HBw.out (by show w.heap.size ≤ w1.heap.size; omega) _⟩
  case rest =>
    obtain ⟨A, c, l, hpl, hfl, hbx, hz, ho4, hb4⟩ := hcut
    have HP := Lib.hid hpl
    have HL1 := Lib.hid hfl
    have HO4 := Lib.hid ho4
    have HB4 := Lib.hid hb4
    have HBX4 := Lib.hid hbx
    have HZ4 := Lib.hid hz
    obtain ⟨⟨f0, f1, f2, f3⟩, f4, f5, f6, f7⟩ := box_four HBX4.out
    obtain ⟨⟨z0, z1, z2, z3⟩, z4, z5, z6, z7⟩ := box_four HZ4.out
    clear hpl hfl hbx hz ho4 hb4 HD HFL HS HBX3 HZ3 HZ1 HB3 HBa
    cases ok
    ·
      have HF2 : Hid (readLoc s = (zeroL, false)) := HP.out
      have HB2 := HB4
      go_wp2
      refine bodyPost_ret (v := .tuple #[lcV zeroL none 0, .bool false]) (by simp [results, Tryd.results34, zeroL, go_sem, *]) rfl ?_
      rw [HF2.out]
      exact ⟨none, 0, rfl, ownS_nil _ _, Below.setCell (Below.setCell (Below.setCell (Below.setCell HB2.out (Nat.le_refl _) _) (Nat.le_refl _) _) (Nat.le_refl _) _) (Nat.le_refl _) _⟩
    ·
      cases sl
      ·
        have HF2 : Hid (readLoc s = (zeroL, false)) := HP.out
        have HB2 := HB4
        go_wp2
        refine bodyPost_ret (v := .tuple #[lcV zeroL none 0, .bool false]) (by simp [results, Tryd.results34, zeroL, go_sem, *]) rfl ?_
        rw [HF2.out]
        exact ⟨none, 0, rfl, ownS_nil _ _, Below.setCell (Below.setCell (Below.setCell (Below.setCell HB2.out (Nat.le_refl _) _) (Nat.le_refl _) _) (Nat.le_refl _) _) (Nat.le_refl _) _⟩
      ·
        have HF : Hid (readLoc s = if locOk l && (locText l == s) then (l, true) else (zeroL, false)) := HP.out
        clear HP
        go_wp2_with fail
        refine (impl_LocationValid l A c _ (ownS_rd HO4.out) HL1.out (HM.out.below HB4.out)).mono ?_
        generalize locOk l = lv at HF ⊢
        rintro e w5 ⟨rfl, hb⟩
        have HB5 := Lib.hid (HB4.out.trans (hb.mono HB4.out.size))
        have HBX5 := Lib.hid (bx_keep HBX4.out hb)
        have HZ5 := Lib.hid (bx_keep HZ4.out hb)
        have HO5 := Lib.hid (ownS_keep HO4.out hb)
        obtain ⟨⟨f0, f1, f2, f3⟩, f4, f5, f6, f7⟩ := box_four HBX5.out
        obtain ⟨⟨z0, z1, z2, z3⟩, z4, z5, z6, z7⟩ := box_four HZ5.out
        clear hb
        cases lv
        ·
          have HF2 : Hid (readLoc s = (zeroL, false)) := HF.out
          have HB2 := HB5
          go_wp2
          refine bodyPost_ret (v := .tuple #[lcV zeroL none 0, .bool false]) (by simp [results, Tryd.results34, zeroL, go_sem, *]) rfl ?_
          rw [HF2.out]
          exact ⟨none, 0, rfl, ownS_nil _ _, Below.setCell (Below.setCell (Below.setCell (Below.setCell HB2.out (Nat.le_refl _) _) (Nat.le_refl _) _) (Nat.le_refl _) _) (Nat.le_refl _) _⟩
        ·
          rw [Bool.true_and] at HF
          have HT := Lib.hid (impl_LocationText l A c _ (ownS_rd HO5.out) (ownS_cap HO5.out) HL1.out (HM.out.below HB5.out))
          generalize locText l = y at HF HT
          go_wp2_with fail
          refine HT.out.mono ?_
          rintro e w6 ⟨rfl, hb⟩
          have HB6 := Lib.hid (HB5.out.trans (hb.mono HB5.out.size))
          have HBX6 := Lib.hid (bx_keep HBX5.out hb)
          have HZ6 := Lib.hid (bx_keep HZ5.out hb)
          have HO6 := Lib.hid (ownS_keep HO5.out hb)
          obtain ⟨⟨f0, f1, f2, f3⟩, f4, f5, f6, f7⟩ := box_four HBX6.out
          obtain ⟨⟨z0, z1, z2, z3⟩, z4, z5, z6, z7⟩ := box_four HZ6.out
          clear hb HT
          by_cases hy : y = s
          ·
            have HF2 : Hid (readLoc s = (l, true)) := by show _ = _; rw [HF.out, hy]; simp
            subst hy
            go_wp2
            refine bodyPost_ret (v := .tuple #[lcV l A c, .bool true]) (by simp [results, Tryd.results34, go_sem, *]) rfl ?_
            rw [HF2.out]
            have hs6 := HB6.out.size
            exact ⟨A, c, rfl, own_base (own_off (own_off (own_off (own_off HO6.out (by omega)) (by omega)) (by omega)) (by omega)) (by omega), Below.setCell (Below.setCell (Below.setCell (Below.setCell HB6.out (Nat.le_refl _) _) (Nat.le_refl _) _) (Nat.le_refl _) _) (Nat.le_refl _) _⟩
          ·
            have HF2 : Hid (readLoc s = (zeroL, false)) := by show _ = _; rw [HF.out, if_neg (by simpa using hy)]
            have h1 : (y == s) = false := by simpa using hy
            have h2 : (y != s) = true := by rw [bne, h1]; rfl
            have HB2 := HB6
            clear hy
            go_wp2
            refine bodyPost_ret (v := .tuple #[lcV zeroL none 0, .bool false]) (by simp [results, Tryd.results34, zeroL, go_sem, *]) rfl ?_
            rw [HF2.out]
            exact ⟨none, 0, rfl, ownS_nil _ _, Below.setCell (Below.setCell (Below.setCell (Below.setCell HB2.out (Nat.le_refl _) _) (Nat.le_refl _) _) (Nat.le_refl _) _) (Nat.le_refl _) _⟩
end Go.Proofs.YtmijnkiopmpjdaaDoor

/- Locations: what the laws ask besides: plain laws; sameLocation; the drawn text: walks. -/
namespace Go.Proofs.YtmijnkiopmpjdaaDoor
open Go.RowKit

theorem hexD_no47 : ∀ n, n < 16 → hexD n ≠ 47 := by decide
theorem escPart_no47 (t : Tx) : noB 47 (escPart t) := by
  intro b hb
  unfold escPart at hb
  obtain ⟨c, _, hc⟩ := List.mem_flatMap.1 hb
  unfold escByte at hc
  split at hc
  · rename_i hp
    simp at hc
    subst hc
    exact (plainByte_no2 hp).1
  · simp only [hex3, List.mem_cons, List.not_mem_nil, or_false] at hc
    rcases hc with rfl | rfl | rfl
    · decide
    · exact hexD_no47 _ (byte_div c)
    · exact hexD_no47 _ (byte_mod c)
theorem nameByte_no47 {c : UInt8} (h : nameByte c = true) : c ≠ 47 := by rintro rfl; revert h; decide
theorem noB_join2 {c d : UInt8} (hd : d ≠ c) {xs : List Tx} (h : ∀ x ∈ xs, noB c x) : noB c (Lib.join xs [d]) := noB_join hd h
theorem query_no47 {q : Tx} (h : (readAsked q).2 = true) : noB 47 q := by
  rcases readAsked_cases q with h1 | ⟨ps, h1, h2, h3⟩
  · rw [h1] at h; cases h
  · rw [← h3, askedText_eq h2]
    refine noB_join (by decide) ?_
    intro x hx
    obtain ⟨p, hp, rfl⟩ := List.mem_map.1 hx
    have hn := asked_names h2 p hp
    unfold pText
    exact noB_append (fun b hb => nameByte_no47 (List.all_eq_true.1 hn b hb)) (noB_cons (by decide) (escPart_no47 _))
theorem last_app {y x : Tx} (hx : x ≠ []) : (y ++ x).getLast? = x.getLast? := by
  rw [List.getLast?_append]
  obtain ⟨a, ha⟩ : ∃ a, x.getLast? = some a := by
    cases h : x.getLast? with
    | none => exact absurd (List.getLast?_eq_none_iff.1 h) hx
    | some a => exact ⟨a, rfl⟩
  rw [ha]
  rfl
theorem last_no {c : UInt8} {x t : Tx} (hx : x ≠ []) (hn : noB c x) {y : Tx} : y ++ x ≠ t ++ [c] := by
  intro e
  have h := congrArg List.getLast? e
  rw [last_app hx, last_app (by simp)] at h
  have h2 : c ∈ x := List.mem_of_getLast? (h.trans (by simp))
  exact hn c h2 rfl
theorem loc_slashes {l : Lc} (h : locOk l = true) (t : Tx) : locBody l ≠ t ++ [47, 47] := by
  have H := locOk_parts h
  intro e
  rw [locBody_eq, show t ++ [(47 : UInt8), 47] = (t ++ [47]) ++ [47] by simp] at e
  unfold quT at e
  by_cases hq : l.qu = []
  · rw [if_pos hq, List.append_nil] at e
    by_cases hp : l.path = []
    · rw [hp, Lib.join_nil, List.append_nil, ← List.append_assoc] at e
      have e2 := List.append_inj_left' e rfl
      exact last_no (host_no H.host).2.2 (host_no H.host).1 e2
    · have hx : ∀ x ∈ l.path, x ≠ [] ∧ noB 47 x := fun x hx => ⟨(step_no (H.path x hx)).2.2, (step_no (H.path x hx)).1⟩
      have hj := join_last (c := 47) (sep := [47]) l.path hp hx
      have hne : Lib.join l.path [47] ≠ [] := join_nonempty hp fun x h => (hx x h).1
      have h2 := congrArg List.getLast? e
      rw [last_app (by simp), last_app hne, last_app (by simp)] at h2
      exact hj (h2.trans (by simp))
  · rw [if_neg hq] at e
    rw [show l.sch ++ [58, 47, 47] ++ (l.host ++ [47] ++ (Lib.join l.path [47] ++ 63 :: l.qu)) = (l.sch ++ [58, 47, 47] ++ (l.host ++ [47] ++ (Lib.join l.path [47] ++ [63]))) ++ l.qu by simp] at e
    exact last_no hq (query_no47 H.qu) e
theorem readLoc_slashes (s : Tx) : readLoc (s ++ [47, 47]) = (zeroL, false) := by
  rcases readLoc_cases (s ++ [47, 47]) with h | ⟨l, _, h1, h2⟩
  · exact h
  · exact absurd h2 (loc_slashes h1 s)

set_option maxRecDepth 100000 in
set_option maxHeartbeats 2000000 in
theorem laws_sameLocation (l : Lc) (A A' : Option Addr) (c c' : Nat) (w : World) (hp : Rd w w.heap.size A (scells l.path)) (hq : Rd w w.heap.size A' (scells l.path)) (hn : l.path.length ≤ maxLen) :
    Calls Tryd.prog 35 #[lcV l A c, lcV l A' c'] w fun e w' => e = .returned (.bool true) ∧ Below w.heap.size w w' := by
  have HB0 := Lib.hid (Below.alloc (o := .cells (lcCells l A' c') 43) (Below.alloc (o := .cells (lcCells l A c) 43) (Below.refl w.heap.size w) (Nat.le_refl _)) (by simp))
  have HT := Lib.hid (laws_sameTexts l.path l.path A A' c c' _ ((hp.below HB0.out).more HB0.out.size) ((hq.below HB0.out).more HB0.out.size) hn)
  rw [beq_self_eq_true] at HT
  clear hp hq hn
  go_enter Tryd.func35, Tryd.ntmps35
  go_wp2_with fail
  refine HT.out.mono ?_
  rintro e w1 ⟨rfl, hb⟩
  have HB := Lib.hid (HB0.out.trans (hb.mono HB0.out.size))
  clear hb
  go_wp2
  go_ret
  exact ⟨rfl, HB.out⟩

set_option maxRecDepth 100000 in
set_option maxHeartbeats 2000000 in
theorem spec_DrawReadLocation (bs : Tx) (A : Option Addr) (c : Nat) (w : World) (hr : Rd w w.heap.size A (bcells bs)) (hc : bs.length ≤ c) (hm : bs.length ≤ 1048576) :
    Calls Tryd.prog 39 #[.slice A bs.length c] w (DrewT w 100000) := by
  have HR := Lib.hid hr
  clear hr
  go_enter Tryd.func39, Tryd.ntmps39
  go_wp2_with fail
  refine (spec_l20Open bs w.heap.size A c _ HR.out (Nat.le_refl _) hc hm).mono ?_
  rintro e w1 ⟨rfl, hr1, hb1⟩
  have HR1 := Lib.hid hr1
  have HB1 := Lib.hid hb1
  have hz1 := hr1.lt
  clear hr1 hb1
  go_wp2_with fail
  refine (spec_l20Location w.heap.size w.heap.size 0 _ _ HR1.out (by omega) (by omega) (by omega)).mono ?_
  rintro e w2 ⟨A2, c2, l, rfl, ho2, hs2, hn2, hr2, hg2⟩
  have HO2 := Lib.hid ho2
  have HB2 := Lib.hid (below_reader HB1.out hg2)
  have HR2 := Lib.hid hr2
  have HF := Lib.hid (smL_fit hs2 hn2)
  have hq2 : l.qu.length ≤ 100 := hs2.2.2.1
  clear ho2 hs2 hr2 hg2
  go_wp2_with fail
  refine (spec_LocationText l A2 c2 _ (ownS_rd HO2.out) HF.out).mono ?_
  have hll : (locText l).length ≤ 90000 := by
    unfold locText
    split
    · next h =>
      have H := locOk_parts h
      have h3 := loc_lens h
      rw [locBody_eq]
      unfold quT
      split <;> simp <;> omega
    · simp
  generalize locText l = s at *
  rintro e w3 ⟨rfl, hb⟩
  have HB3 := Lib.hid (HB2.out.trans (hb.mono HB2.out.size))
  have HR3 := Lib.hid (HR2.out.keep hb)
  clear hb
  go_wp2_with fail
  refine (spec_odd w.heap.size w.heap.size _ 3 _ HR3.out (by omega) (by omega) (by omega)).mono ?_
  rintro e w4 ⟨bo, rfl, hr, hg⟩
  have HR4 := Lib.hid hr
  have HB4 := Lib.hid (HB3.out.trans (grown_to_below hg HB3.out.size (fun g h => by injection h; omega)))
  have hz4 := hr.lt
  clear hr hg
  cases bo
  · go_wp2
    go_ret
    exact ⟨s, rfl, by omega, HB4.out⟩
  · have hs1 : (9223372036854775807 < s.length + 1) = False := by rw [eq_iff_iff, iff_false]; omega
    have hs4 : (9223372036854775807 < s.length + 1 + 1 + 1 + 1) = False := by rw [eq_iff_iff, iff_false]; omega
    have hs5 : (9223372036854775807 < s.length + 4) = False := by rw [eq_iff_iff, iff_false]; omega
    go_wp2_with fail
    refine (spec_pick w.heap.size w.heap.size _ 12 _ (HR4.out.keep ((Below.refl _ _).alloc (Nat.le_refl _) _)) (by omega) (by omega) (by omega)).mono ?_
    rintro e w5 ⟨k5, rfl, hk5, hr5, hg5⟩
    have hlit : w5.heap[w4.heap.size]? = _ := (hg5.block w4.heap.size (by simp) (by simp; omega)).trans (heap_alloc_new w4 _)
    obtain ⟨x, hxc, hx⟩ := lit_str (k := k5) (B := 100000) (n := 12) hlit (by show okS _ _ _ = true; simp only [okS, Bool.and_eq_true, decide_eq_true_eq]; (repeat' apply And.intro) <;> first | assumption | trivial | decide | (simp [ByteArray.size]; omega)) (by rcases hk5 with hk5 | hk5 <;> omega)
    have HB5 := Lib.hid ((HB4.out.alloc HB4.out.size _).trans (grown_to_below hg5 (by have := HB4.out.size; simp; omega) (fun g h => by injection h; omega)))
    clear hlit hr5 hg5
    go_wp2
    go_ret
    exact ⟨x, rfl, hx, HB5.out⟩
end Go.Proofs.YtmijnkiopmpjdaaDoor

/- FnReadLocation: a walk. -/
namespace Go.Proofs.YtmijnkiopmpjdaaDoor
open Go.RowKit

set_option maxRecDepth 100000 in
set_option maxHeartbeats 4000000 in
theorem readLocation_walk (bs : Tx) (A : Option Addr) (c : Nat) (w : World) (hr : Rd w w.heap.size A (bcells bs)) (hc : bs.length ≤ c) (hm : bs.length ≤ maxLen) (hmx : Hm w) :
    Calls Tryd.prog 11 #[.slice A bs.length c] w fun e w' => e = .returned (.bool true) ∧ Below w.heap.size w w' := by
  unfold maxLen at hm
  by_cases h : 1048576 < bs.length
  · go_enter Tryd.func11, Tryd.ntmps11
    go_wp2
    go_ret
    exact ⟨rfl, Below.refl _ _⟩
  · have HD := Lib.hid (spec_DrawReadLocation bs A c w hr hc (by omega))
    have HM := Lib.hid hmx
    clear hr hmx
    go_enter Tryd.func11, Tryd.ntmps11
    go_wp2_with fail
    refine HD.out.mono ?_
    rintro e w1 ⟨s, rfl, hs1, hb1⟩
    have HB1 := Lib.hid hb1
    clear hb1
    have HI := Lib.hid (fun w hm => impl_ReadLocation s (by omega) w hm)
    have HS := Lib.hid (fun w => spec_ReadLocation s (by omega) w)
    have HQ := Lib.hid (fun w hm => impl_ReadLocation (s ++ [47, 47]) (by simp; omega) w hm)
    rw [readLoc_slashes s] at HQ
    have hsum : (9223372036854775807 < s.length + 2) = False := by rw [eq_iff_iff, iff_false]; omega
    have hsum2 : (9223372036854775807 < s.length + 1 + 1) = False := by rw [eq_iff_iff, iff_false]; omega
    have HC := Lib.hid (readLoc_cases s)
    generalize readLoc s = r at *
    obtain ⟨l, ok⟩ := r
    have h6 : l.path.length ≤ 6 := by
      rcases HC.out with h1 | ⟨l2, h1, h2, _⟩
      · injection h1 with h1 _; subst h1; simp [zeroL]
      · injection h1 with h1 _; subst h1; exact (locOk_parts h2).six
    have HNL : Hid (l.path.length ≤ maxLen) := by show _ ≤ _; unfold maxLen; omega
    go_wp2_with fail
    refine (HI.out _ (HM.out.below HB1.out)).mono ?_
    rintro e w2 ⟨A2, c2, rfl, ho, hb⟩
    have HA2 := Lib.hid ((Below.refl w2.heap.size w2).alloc (Nat.le_refl _) (.cells (lcCells l A2 c2) 43))
    have HB2 := Lib.hid ((HB1.out.trans (hb.mono HB1.out.size)).trans (HA2.out.mono (Nat.le_trans HB1.out.size hb.size)))
    have HO2 := Lib.hid (ownS_keep ho HA2.out)
    have HX2 := Lib.hid (loc_box w2 l A2 c2 43)
    clear ho hb
    dsimp only
    go_wp2_with fail
    refine (HS.out _).mono ?_
    rintro e w3 ⟨A3, c3, rfl, hr3, hc3, hb⟩
    have HA3 := Lib.hid ((Below.refl w3.heap.size w3).alloc (Nat.le_refl _) (.cells (lcCells l A3 c3) 43))
    have HB3 := Lib.hid ((HB2.out.trans (hb.mono HB2.out.size)).trans (HA3.out.mono (Nat.le_trans HB2.out.size hb.size)))
    have HO2 := Lib.hid (ownS_keep (ownS_keep HO2.out hb) HA3.out)
    have HX2 := Lib.hid (bx_keep (bx_keep HX2.out hb) HA3.out)
    have HR3 := Lib.hid ((hr3.below HA3.out).more HA3.out.size)
    obtain ⟨⟨f0, f1, f2, f3⟩, -⟩ := box_four HX2.out
    clear hr3 hb
    dsimp only
    go_wp2_with fail
    refine (laws_sameLocation l A2 A3 c2 c3 _ (ownS_rd HO2.out) HR3.out HNL.out).mono ?_
    rintro e w4 ⟨rfl, hb⟩
    have HB4 := Lib.hid (HB3.out.trans (hb.mono HB3.out.size))
    have HO2 := Lib.hid (ownS_keep HO2.out hb)
    have HX2 := Lib.hid (bx_keep HX2.out hb)
    obtain ⟨⟨f0, f1, f2, f3⟩, -⟩ := box_four HX2.out
    clear hb
    cases ok
    · have hx0 : l = zeroL := by
        rcases HC.out with h1 | ⟨_, h2, _⟩
        · injection h1
        · injection h2 with _ h2; cases h2
      subst hx0
      have hh0 : List.isEmpty zeroL.host = true := rfl
      go_wp2_with fail
      refine (laws_alive _).mono ?_
      rintro e w6 ⟨rfl, hb⟩
      have HB6 := Lib.hid (HB4.out.trans (hb.mono HB4.out.size))
      clear hb
      go_wp2
      go_ret
      exact ⟨rfl, HB6.out⟩
    · obtain ⟨hk, ht⟩ : locOk l = true ∧ locBody l = s := by
        rcases HC.out with h1 | ⟨l2, h2, h3, h4⟩
        · injection h1 with _ h1; cases h1
        · injection h2 with h2 _; subst h2; exact ⟨h3, h4⟩
      have htx : locText l = s := by unfold locText; rw [if_pos hk]; exact ht
      have hfl : FitL l := by
        have h1 := loc_lens hk
        have h2 : l.qu.length ≤ s.length := by
          rw [← ht, locBody_eq]
          unfold quT
          split
          · next h => rw [h]; simp
          · simp; omega
        exact ⟨by omega, by omega, by omega, by omega, fun x hx => by
          have := (locOk_parts hk).path x hx
          simp only [stepOk, Bool.and_eq_true, decide_eq_true_eq] at this
          have := this.1.1.1.2
          omega⟩
      have HT := Lib.hid (fun w hr hc hm => impl_LocationText l A2 c2 w hr hc hfl hm)
      rw [htx] at HT
      clear HC hk ht htx hfl
      go_wp2_with fail
      refine (HQ.out _ (HM.out.below HB4.out)).mono ?_
      rintro e w5 ⟨A5, c5, rfl, ho, hb⟩
      have HA5 := Lib.hid ((Below.refl w5.heap.size w5).alloc (Nat.le_refl _) (.cells (lcCells zeroL A5 c5) 43))
      have HB5 := Lib.hid ((HB4.out.trans (hb.mono HB4.out.size)).trans (HA5.out.mono (Nat.le_trans HB4.out.size hb.size)))
      have HO2 := Lib.hid (ownS_keep (ownS_keep HO2.out hb) HA5.out)
      have HX2 := Lib.hid (bx_keep (bx_keep HX2.out hb) HA5.out)
      obtain ⟨⟨f0, f1, f2, f3⟩, -⟩ := box_four HX2.out
      clear ho hb
      dsimp only
      go_wp2_with fail
      refine (HT.out _ (ownS_rd HO2.out) (ownS_cap HO2.out) (HM.out.below HB5.out)).mono ?_
      rintro e w6 ⟨rfl, hb⟩
      have HB6 := Lib.hid (HB5.out.trans (hb.mono HB5.out.size))
      clear hb
      go_wp2
      go_ret
      exact ⟨rfl, HB6.out⟩
end Go.Proofs.YtmijnkiopmpjdaaDoor

namespace Go.Proofs.YtmijnkiopmpjdaaDoor
open Go.RowKit Go.ChangeShapes Go.WideShapes Go.ChangeAt Go.Joins
set_option maxRecDepth 100000 in
theorem fnReadLocation_lifted (os : Os) (started : os.Started) (H : Type) (enc : TypeId × Value → H) :
    ReturnsInHanded {} Tryd.checked os 11 .any (fun w args => (Rows.fnReadLocationSpec.pre enc Tryd.prog Tryd.f11 Rows.fnReadLocationRow.domain false w args ∧ laidMetH Tryd.prog Rows.fnReadLocationRow.laid w) ∧ sizedMet enc Tryd.prog Tryd.f11 (OpenSpec.ofChange Rows.fnReadLocationSpec) false w args)
      (Rows.fnReadLocationSpec.post enc Tryd.prog Tryd.f11 false true false false) := by
  refine returnsInHanded_of_change_and_shaped (C := Tryd.checked) (X := fun w _ => laidMetH Tryd.prog Rows.fnReadLocationRow.laid w) (fun _ _ _ hh h => h.of_heap hh) Tryd.own started (by kernel_rfl) Tryd.func11
    (ChangeSpec.witness_shaped (enc := enc) (C := Tryd.checked) (os := os) (X := fun w _ => laidMetH Tryd.prog Rows.fnReadLocationRow.laid w) false (World.laidAll Tryd.prog os Rows.fnReadLocationRow.laid) #[.slice none 0 0] 8 (World.laidAll_os _ _ _)
      (World.shaped_of_ZipB (by kernel_rfl) (by kernel_rfl)) (by kernel_rfl) (by kernel_rfl) (by kernel_rfl)
      (by rw [MakeChecks.laidMetH_plain _ _ _ (by kernel_rfl)]; exact laidMet_laidAll _ (by kernel_rfl) (by kernel_rfl))) ?_
  intro W base args ds gs before hval0 hW _ _ _ hsh _
  have hval : ∀ (j : Nat) t v, Tryd.f11.params[j]? = some t → args[j]? = some v → Value.okWide Tryd.prog W .any base t v := hval0
  have hW' := hW
  obtain ⟨p, q, hA0, hV, rfl, _, _⟩ := hW
  have hA : DataW.TrodAll enc Tryd.prog W 0 (fun _ => true) true Tryd.f11.params.toList args.toList ds p := hA0
  rw [Tryd.params11] at hA hval
  obtain ⟨v0, d0, rfl, rfl, h0⟩ := trodAll_one hA
  obtain ⟨rfl, rfl⟩ := trodVars_none hV
  obtain ⟨A, c, bs, rfl, hr, hlc, hcm⟩ := open_bytes Tryd.underlying28 Tryd.underlying5 (by kernel_rfl) (hval 0 _ v0 rfl rfl) h0
  refine (readLocation_walk bs A c W hr hlc (Nat.le_trans hlc hcm) (hm_shaped hsh)).mono fun e W' ⟨he, hw⟩ => ?_
  subst he
  exact ⟨_, rfl, law_post hW' rfl rfl (by kernel_rfl) Tryd.underlying4 Tryd.laidOut (of_decide_eq_true (by kernel_rfl)) hw⟩

theorem fnReadLocation_holds : Rows.FnReadLocationSaid :=
  OpenClaim.holds_of_wide 11 Tryd.f11 rfl rfl rfl rfl rfl rfl rfl ⟨rfl, rfl, rfl, rfl, rfl⟩ rfl rfl rfl rfl rfl (by kernel_rfl) Tryd.func11 (by kernel_rfl)
    (of_decide_eq_true (by kernel_rfl)) (by unfold Func.isWrapper; first | (rw [if_pos (by decide +kernel)]; kernel_rfl) | (rw [if_neg (by decide +kernel)]; exact ⟨rfl, rfl⟩))
    (fun os started H enc _ => fnReadLocation_lifted os started H enc)

theorem fnReadLocation_cardHolds : Rows.FnReadLocationCardSaid :=
  Claim7.holds_tied_plain_at .later [] _ true _ false fnReadLocation_holds (fun _ h => by cases h) (by kernel_rfl) (fun _ h => by cases h) fnReadLocation_row_tie rfl ⟨rfl, rfl⟩ (by kernel_rfl) rfl
    (fun f fn hf hfn => by
      obtain rfl : f = 11 := Option.some.inj ((show Tryd.prog.funcNamed "loop.example/templateescaper/laws.FnReadLocation" = some 11 by kernel_rfl).symm.trans hf) |>.symm
      obtain rfl : fn = Tryd.f11 := (Option.some.inj (Tryd.func11.symm.trans hfn)).symm
      exact ⟨by kernel_rfl, fun j t ht => by
        rw [Tryd.params11] at ht
        have hm : t ∈ [28] := by simpa using Array.mem_of_getElem? ht
        have hall : ([28].all fun u => !Tryd.prog.wantsStandIn u) = true := by kernel_rfl
        exact (show Tryd.prog.wantsStandIn t = false by simpa using List.all_eq_true.1 hall t hm)⟩)
    (by kernel_rfl)

#print axioms fnReadLocation_cardHolds
end Go.Proofs.YtmijnkiopmpjdaaDoor
