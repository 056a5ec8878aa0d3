/- Texts of nodes, of impl: walks. -/
import Derived.Test.YtdmmnjnbjigdeaaDoorNodeWLP
import Derived.Test.YtdmmnjnbjigdeaaDoorNodeEnv
import Derived.Test.YtdmmnjnbjigdeaaDoorNodeValid
import Derived.Test.YtdmmnjnbjigdeaaDoorNodeWalkP
import Derived.Test.YtdmmnjnbjigdeaaDoorJoin
import Derived.Test.YtdmmnjnbjigdeaaDoorDrawS
import Derived.Lib.AppendIntMem
namespace Go.Proofs.YtdmmnjnbjigdeaaDoor
open Go.RowKit

set_option maxRecDepth 100000 in
set_option maxHeartbeats 1000000 in
theorem impl_writeText (t : Tx) (ht : t.length ≤ 1048577) (w : World) (hm : Hm w) :
    Calls Tryd.prog 54 #[.string ⟨t.toArray⟩] w fun e w' => e = .returned (sv (quote t)) ∧ Below w.heap.size w w' := by
  have HM := Lib.hid hm
  have HC1 := Lib.hid (repl_one 92 [92, 92] t (by omega) (by decide) (by decide) w hm)
  have hl1 := repB_len 92 [92, 92] (by decide) t
  have HQ := Lib.hid (escq_eq t)
  have hle := escq_len t
  generalize repB 92 [92, 92] t = t1 at *
  have HC2 := Lib.hid (fun w2 hm => repl_one 34 [92, 34] t1 (by omega) (by decide) (by decide) w2 hm)
  rw [HQ.out] at HC2
  have HQT : Hid (quote t = 34 :: (escq t ++ [34])) := rfl
  generalize escq t = t2 at *
  clear hm
  go_enter Tryd.func54, Tryd.ntmps54
  go_wp2_with fail
  refine HC1.out.mono ?_
  rintro e w1 ⟨rfl, hb⟩
  have HB1 := Lib.hid hb
  clear hb
  go_wp2_with fail
  refine (HC2.out w1 (HM.out.below HB1.out)).mono ?_
  rintro e w2 ⟨rfl, hb⟩
  have HB2 := Lib.hid (HB1.out.trans (hb.mono HB1.out.size))
  clear hb
  go_wp2
  go_ret
  exact ⟨by rw [HQT.out]; exact ret_str (by simp), HB2.out⟩
def WrC (f : FuncId) (x : Nd) : Prop := ∀ (u : Value) (w : World), InN w (All w) x u → (∃ d, Nd.ok x d = true) → Nd.size x ≤ 1048576 → Env w → Calls Tryd.prog f #[u] w fun e w' => e = .returned (sv (Nd.wr x)) ∧ Below w.heap.size w w'
theorem below_of_grow {w w' : World} {m : Nat} {os : Array Obj} (h : w' = «Sort».grow (w.drewN m) os) : Below w.heap.size w w' := h ▸ Lib.below_grow w.heap.size w (Nat.le_refl _) m os
theorem wrs_get? (b : Bool) (ns : List Tx) (xs : List Nd) (j : Nat) (h : j < xs.length) (hn : b = true → ns.length = xs.length) : (Nd.wrs b ns xs)[j]? = some ((if b then quote (ns.getD j []) ++ [58] else []) ++ Nd.wr xs[j]) := by
  rw [List.getElem?_eq_getElem (by rw [Nd.wrs_len]; exact h), Nd.wrs_get b ns xs j h hn]
theorem ssize_mem : ∀ {ns : List Tx} {y : Tx}, y ∈ ns → y.length ≤ ssize ns
  | z :: s, y, h => by
    rcases List.mem_cons.1 h with e | h
    · subst e; simp only [ssize]; omega
    · have := ssize_mem h; simp only [ssize]; omega
set_option maxRecDepth 100000 in
set_option maxHeartbeats 8000000 in
theorem impl_writeNode (a : Nd) : WrC 31 a := by
  induction a using Nd.ind with
  | h k n t ns xs ih =>
  intro u w hu hok hsz henv
  obtain ⟨d0, hok⟩ := hok
  obtain ⟨An, cn, Ai, ci, rfl, hrn, hcn, hci, hri⟩ := hu.parts
  obtain ⟨d, rfl, H⟩ := ok_parts hok
  simp only [Nd.size] at hsz
  have HSZ := Lib.hid hsz
  have hB0 := (Below.refl w.heap.size w).alloc (Nat.le_refl _) (.cells (ndCells k n t An ns.length cn Ai xs.length ci) 26)
  have HB0 := Lib.hid hB0
  have HX0 := Lib.hid (heap_alloc_new w (.cells (ndCells k n t An ns.length cn Ai xs.length ci) 26))
  have HS0 : Hid ((w.alloc (.cells (ndCells k n t An ns.length cn Ai xs.length ci) 26)).heap.size = w.heap.size + 1) := by show _ = _; simp
  have HRI := Lib.hid (hri.now hB0)
  have HRN := Lib.hid (hrn.now hB0)
  have HENV := Lib.hid (henv.below hB0)
  have HOKS : Hid (∀ x ∈ xs, Nd.ok x d = true) := fun x hx => oks_get H.ins hx
  have hxl : xs.length ≤ 5 := H.five
  have hnl : ns.length ≤ 1048576 := by omega
  have IH := Lib.hid ih
  have htl : t.length ≤ 1048576 := by omega
  clear hu hrn hri hB0 ih henv
  obtain ⟨⟨x0, x1, x2, x3, x4⟩, -⟩ := box_five HX0.out
  by_cases k1 : k = 1
  · subst k1
    go_enter Tryd.func31, Tryd.ntmps31
    go_wp2
    go_ret
    exact ⟨rfl, HB0.out⟩
  by_cases k2 : k = 2
  · subst k2
    by_cases n1 : n = 1
    · subst n1
      go_enter Tryd.func31, Tryd.ntmps31
      go_wp2
      go_ret
      exact ⟨rfl, HB0.out⟩
    · have HW : Hid (Nd.wr (.mk 2 n t ns xs) = wFalse) := by show _ = _; rw [Nd.wr, if_neg (by decide), if_pos rfl, if_neg n1]
      go_enter Tryd.func31, Tryd.ntmps31
      go_wp2
      go_ret
      exact ⟨by rw [HW.out]; rfl, HB0.out⟩
  by_cases k3 : k = 3
  · subst k3
    have hn := H.num
    unfold numOk at hn
    rw [if_neg (by decide), if_pos rfl] at hn
    obtain ⟨hn0, hn1⟩ := of_decide_eq_true hn
    have HC := Lib.hid (Tryd.strconv_Itoa n (by omega) (by omega) _ HENV.out.tab)
    clear hn
    go_enter Tryd.func31, Tryd.ntmps31
    go_wp2_with fail
    refine HC.out.mono ?_
    rintro e w1 ⟨rfl, m, os, hw⟩
    have HBI := Lib.hid (below_of_grow hw)
    clear hw
    go_wp2
    go_ret
    exact ⟨rfl, HB0.out.trans (HBI.out.mono HB0.out.size)⟩
  by_cases k4 : k = 4
  · subst k4
    have HC := Lib.hid (impl_writeText t (by omega) _ HENV.out.hm)
    go_enter Tryd.func31, Tryd.ntmps31
    go_wp2_with fail
    refine HC.out.mono ?_
    rintro e w1 ⟨rfl, hb⟩
    have HB1 := Lib.hid (HB0.out.trans (hb.mono HB0.out.size))
    clear hb
    go_wp2
    go_ret
    exact ⟨rfl, HB1.out⟩
  by_cases k6 : k = 6
  · subst k6
    have HNL : Hid (ns.length = xs.length) := by have := H.names; rw [if_pos rfl] at this; exact this
    clear k1 k2 k3 k4
    have HW : Hid (Nd.wr (.mk 6 n t ns xs) = 123 :: (Lib.join (Nd.wrs true ns xs) [44] ++ [125])) := rfl
    have hjl := jn_len (Nd.wrs true ns xs)
    have hwl := Nd.wr_len (.mk 6 n t ns xs) _ hok
    rw [HW.out] at hwl
    simp only [List.length_cons, List.length_append, List.length_nil, Nd.size] at hwl
    have HGET := Lib.hid (fun j h => wrs_get? true ns xs j h (fun e => by first | exact HNL.out | cases e))
    have hwsl : (Nd.wrs true ns xs).length = xs.length := Nd.wrs_len true ns xs
    generalize hps : Nd.wrs true ns xs = ps at *
    clear hps
    clear hok
    have HWSL := Lib.hid hwsl
    clear hwsl
    have hs0 := HS0.out
    go_enter Tryd.func31, Tryd.ntmps31
    go_wp2
    generalize w.alloc (.cells (ndCells 6 n t An ns.length cn Ai xs.length ci) 26) = w0 at *
    go_loopw [30, 3] (fun i s wr => ∃ (j : Nat) (A : Option Addr) (c : Nat), j ≤ xs.length ∧ i = .int .i64 j ∧ s = .slice A (ps.take j).length c ∧ OwnS wr w0.heap.size A c (ps.take j) ∧ Below w0.heap.size w0 wr) (fun i _ _ => xs.length - (intOf i).toNat)
    case atStart =>
      refine ⟨0, some ⟨w0.heap.size, 0, none⟩, 0, Nat.zero_le _, rfl, by rw [HS0.out]; rfl, ownS_empty w0 w0.heap.size (Nat.le_refl _), (Below.refl _ _).alloc (Nat.le_refl _) _⟩
    case round =>
      obtain ⟨j, A, c, hj, rfl, rfl, ho, hb⟩ := hrel
      have HO := Lib.hid ho
      have HB := Lib.hid hb
      clear ho hb
      by_cases hlt : j < xs.length
      · obtain ⟨b1, o1, hA1, hb1, kd, nn, tt, An1, ln1, cn1, Ai1, li1, ci1, hin, c0, c1, c2, c3, c4⟩ := (HRI.out.now HB.out).at hlt
        have hpj0 : j < ps.length := by have := HWSL.out; omega
        have HPL : Hid ((ps.take j).length = j) := by show _ = _; rw [List.length_take]; omega
        have hpl2 : (ps.take j).length ≤ 5 := by have := HPL.out; omega
        have HX5 := Lib.hid (heap_alloc_new wr (.cells (ndCells kd nn tt An1 ln1 cn1 Ai1 li1 ci1) 26))
        have HA1 := Lib.hid ((Below.refl wr.heap.size wr).alloc (Nat.le_refl _) (.cells (ndCells kd nn tt An1 ln1 cn1 Ai1 li1 ci1) 26))
        have HBA := Lib.hid (HB.out.trans (HA1.out.mono HB.out.size))
        have HCALL := Lib.hid (IH.out xs[j] (List.getElem_mem hlt) _ _ (hin.now HA1.out) ⟨_, HOKS.out _ (List.getElem_mem hlt)⟩ (by have := Nd.size_mem (List.getElem_mem hlt); have := HSZ.out; omega) (HENV.out.below HBA.out))
        have hwx := Nd.wr_len xs[j] _ (HOKS.out _ (List.getElem_mem hlt))
        have hsx := Nd.size_mem (List.getElem_mem hlt)
        have HTK : Hid (ps.take (j + 1) = ps.take j ++ [ps[j]]) := take_snoc ps j hpj0
        have hG := HGET.out j hlt
        rw [List.getElem?_eq_getElem hpj0] at hG
        injection hG with hG
        have HG := Lib.hid hG
        clear hG
        generalize hpj : ps[j] = pj at *
        clear hpj hpj0
        generalize Nd.wr xs[j] = wx at *
        generalize Nd.size xs[j] = sx at *
        generalize ps.take j = pt at *
        have HOA := Lib.hid (own_below HO.out HA1.out)
        subst hA1
        clear hin
        obtain ⟨⟨q0, q1, q2, q3, q4⟩, -⟩ := box_five HX5.out
        go_wp2_with fail
        generalize wr.alloc (.cells (ndCells kd nn tt An1 ln1 cn1 Ai1 li1 ci1) 26) = wa at *
        refine HCALL.out.mono ?_
        rintro e w2 ⟨rfl, hb⟩
        have HB2 := Lib.hid (HBA.out.trans (hb.mono HBA.out.size))
        have HO2 := Lib.hid (own_below HOA.out hb)
        have hsz2 := HB2.out.size
        obtain ⟨⟨y0, y1, y2, y3, y4⟩, -⟩ := box_five (bx_keep HX0.out HB2.out)
        clear hb c0 c1 c2 c3 c4 q0 q1 q2 q3 q4
        have hln : j < ns.length := by have := HNL.out; omega
        obtain ⟨b2, o2, hAn, hab, hc0⟩ := ((HRN.out.now HB2.out).rd (fun _ h => h)).str hln
        subst hAn
        have HGJ : Hid (pj = quote ns[j] ++ [58] ++ wx) := by
          show _ = _
          rw [HG.out]
          simp [hln]
        have hnj : (ns[j]).length ≤ ssize ns := ssize_mem (List.getElem_mem hln)
        have HWT := Lib.hid (impl_writeText ns[j] (by omega) w2 (HENV.out.below HB2.out).hm)
        have hql := quote_len ns[j]
        generalize quote ns[j] = qn at *
        go_wp2_with fail
        refine HWT.out.mono ?_
        rintro e w3 ⟨rfl, hb⟩
        have HB3 := Lib.hid (HB2.out.trans (hb.mono HB2.out.size))
        have HO3 := Lib.hid (own_below HO2.out hb)
        clear hb y0 y1 y2 y3 y4
        obtain ⟨rfl⟩ : pj = qn ++ 58 :: wx := by rw [HGJ.out]; simp
        clear HGJ HG
        have HA3 := Lib.hid ((Below.refl w3.heap.size w3).alloc (Nat.le_refl _) (.cells #[sv (qn ++ 58 :: wx)] 9))
        have HO4 := Lib.hid (own_below HO3.out HA3.out)
        have HB4 := Lib.hid (HB3.out.trans (HA3.out.mono HB3.out.size))
        have hsz4 := HB4.out.size
        go_wp2_with (at_builtin; refine app_str_at rfl _ _ rfl w0.heap.size A c pt (qn ++ 58 :: wx) (by rfl) HO4.out w3.heap.size (by rfl) (heap_alloc_new w3 _) ?_ ?_ ?_; (focus omega); (focus omega); intro A6 c6 w6 ho6 hg6)
        go_roundw
        case rel => exact ⟨j + 1, A6, c6, by omega, by go_num, by rw [HTK.out]; simp, by rw [HTK.out]; exact ho6, HB4.out.trans (grown_to_below hg6 (by omega) (ownS_row HO4.out))⟩
        case measure => simp [intOf]; omega
      · have hjx : ps.take j = ps := List.take_of_length_le (by have := HWSL.out; omega)
        have HO2 := HO.out
        rw [hjx] at HO2 ⊢
        have hpl5 : ps.length ≤ 5 := by have := HWSL.out; omega
        have HJ := Lib.hid (join_tx ps [44] A c wr (ownS_rd HO2) (by omega) (ownS_cap HO2) (by omega))
        obtain ⟨⟨y0, y1, y2, y3, y4⟩, -⟩ := box_five (bx_keep HX0.out HB.out)
        clear HO2 HO hjx
        generalize Lib.join ps [44] = jn at *
        go_wp2_with fail
        refine HJ.out.mono ?_
        rintro e w5 ⟨rfl, hb⟩
        have HB5 := Lib.hid (HB0.out.trans ((HB.out.trans (hb.mono HB.out.size)).mono HB0.out.size))
        clear hb
        go_wp2
        go_ret
        exact ⟨by rw [HW.out]; exact ret_str (by simp), HB5.out⟩
  · have k5 : k = 5 := by have := H.lo; have := H.hi; omega
    subst k5
    have HNL : Hid (ns.length = ns.length) := rfl
    clear k1 k2 k3 k4 k6
    have HW : Hid (Nd.wr (.mk 5 n t ns xs) = 91 :: (Lib.join (Nd.wrs false ns xs) [44] ++ [93])) := rfl
    have hjl := jn_len (Nd.wrs false ns xs)
    have hwl := Nd.wr_len (.mk 5 n t ns xs) _ hok
    rw [HW.out] at hwl
    simp only [List.length_cons, List.length_append, List.length_nil, Nd.size] at hwl
    have HGET := Lib.hid (fun j h => wrs_get? false ns xs j h (fun e => by first | exact HNL.out | cases e))
    have hwsl : (Nd.wrs false ns xs).length = xs.length := Nd.wrs_len false ns xs
    generalize hps : Nd.wrs false ns xs = ps at *
    clear hps
    clear hok
    have HWSL := Lib.hid hwsl
    clear hwsl
    have hs0 := HS0.out
    go_enter Tryd.func31, Tryd.ntmps31
    go_wp2
    generalize w.alloc (.cells (ndCells 5 n t An ns.length cn Ai xs.length ci) 26) = w0 at *
    go_loopw [30, 3] (fun i s wr => ∃ (j : Nat) (A : Option Addr) (c : Nat), j ≤ xs.length ∧ i = .int .i64 j ∧ s = .slice A (ps.take j).length c ∧ OwnS wr w0.heap.size A c (ps.take j) ∧ Below w0.heap.size w0 wr) (fun i _ _ => xs.length - (intOf i).toNat)
    case atStart =>
      refine ⟨0, some ⟨w0.heap.size, 0, none⟩, 0, Nat.zero_le _, rfl, by rw [HS0.out]; rfl, ownS_empty w0 w0.heap.size (Nat.le_refl _), (Below.refl _ _).alloc (Nat.le_refl _) _⟩
    case round =>
      obtain ⟨j, A, c, hj, rfl, rfl, ho, hb⟩ := hrel
      have HO := Lib.hid ho
      have HB := Lib.hid hb
      clear ho hb
      by_cases hlt : j < xs.length
      · obtain ⟨b1, o1, hA1, hb1, kd, nn, tt, An1, ln1, cn1, Ai1, li1, ci1, hin, c0, c1, c2, c3, c4⟩ := (HRI.out.now HB.out).at hlt
        have hpj0 : j < ps.length := by have := HWSL.out; omega
        have HPL : Hid ((ps.take j).length = j) := by show _ = _; rw [List.length_take]; omega
        have hpl2 : (ps.take j).length ≤ 5 := by have := HPL.out; omega
        have HX5 := Lib.hid (heap_alloc_new wr (.cells (ndCells kd nn tt An1 ln1 cn1 Ai1 li1 ci1) 26))
        have HA1 := Lib.hid ((Below.refl wr.heap.size wr).alloc (Nat.le_refl _) (.cells (ndCells kd nn tt An1 ln1 cn1 Ai1 li1 ci1) 26))
        have HBA := Lib.hid (HB.out.trans (HA1.out.mono HB.out.size))
        have HCALL := Lib.hid (IH.out xs[j] (List.getElem_mem hlt) _ _ (hin.now HA1.out) ⟨_, HOKS.out _ (List.getElem_mem hlt)⟩ (by have := Nd.size_mem (List.getElem_mem hlt); have := HSZ.out; omega) (HENV.out.below HBA.out))
        have hwx := Nd.wr_len xs[j] _ (HOKS.out _ (List.getElem_mem hlt))
        have hsx := Nd.size_mem (List.getElem_mem hlt)
        have HTK : Hid (ps.take (j + 1) = ps.take j ++ [ps[j]]) := take_snoc ps j hpj0
        have hG := HGET.out j hlt
        rw [List.getElem?_eq_getElem hpj0] at hG
        injection hG with hG
        have HG := Lib.hid hG
        clear hG
        generalize hpj : ps[j] = pj at *
        clear hpj hpj0
        generalize Nd.wr xs[j] = wx at *
        generalize Nd.size xs[j] = sx at *
        generalize ps.take j = pt at *
        have HOA := Lib.hid (own_below HO.out HA1.out)
        subst hA1
        clear hin
        obtain ⟨⟨q0, q1, q2, q3, q4⟩, -⟩ := box_five HX5.out
        go_wp2_with fail
        generalize wr.alloc (.cells (ndCells kd nn tt An1 ln1 cn1 Ai1 li1 ci1) 26) = wa at *
        refine HCALL.out.mono ?_
        rintro e w2 ⟨rfl, hb⟩
        have HB2 := Lib.hid (HBA.out.trans (hb.mono HBA.out.size))
        have HO2 := Lib.hid (own_below HOA.out hb)
        have hsz2 := HB2.out.size
        obtain ⟨⟨y0, y1, y2, y3, y4⟩, -⟩ := box_five (bx_keep HX0.out HB2.out)
        clear hb c0 c1 c2 c3 c4 q0 q1 q2 q3 q4
        have HGJ : Hid (pj = wx) := by
          show _ = _
          rw [HG.out]
          simp
        obtain ⟨rfl⟩ : pj = wx := HGJ.out
        obtain ⟨w3, rfl⟩ : ∃ w3 : World, w3 = w2 := ⟨_, rfl⟩
        have HB3 := HB2
        have HO3 := HO2
        have HA3 := Lib.hid ((Below.refl w3.heap.size w3).alloc (Nat.le_refl _) (.cells #[sv pj] 9))
        have HO4 := Lib.hid (own_below HO3.out HA3.out)
        have HB4 := Lib.hid (HB3.out.trans (HA3.out.mono HB3.out.size))
        have hsz4 := HB4.out.size
        go_wp2_with (at_builtin; refine app_str_at rfl _ _ rfl w0.heap.size A c pt pj (by rfl) HO4.out w3.heap.size (by rfl) (heap_alloc_new w3 _) ?_ ?_ ?_; (focus omega); (focus omega); intro A6 c6 w6 ho6 hg6)
        go_roundw
        case rel => exact ⟨j + 1, A6, c6, by omega, by go_num, by rw [HTK.out]; simp, by rw [HTK.out]; exact ho6, HB4.out.trans (grown_to_below hg6 (by omega) (ownS_row HO4.out))⟩
        case measure => simp [intOf]; omega
      · have hjx : ps.take j = ps := List.take_of_length_le (by have := HWSL.out; omega)
        have HO2 := HO.out
        rw [hjx] at HO2 ⊢
        have hpl5 : ps.length ≤ 5 := by have := HWSL.out; omega
        have HJ := Lib.hid (join_tx ps [44] A c wr (ownS_rd HO2) (by omega) (ownS_cap HO2) (by omega))
        obtain ⟨⟨y0, y1, y2, y3, y4⟩, -⟩ := box_five (bx_keep HX0.out HB.out)
        clear HO2 HO hjx
        generalize Lib.join ps [44] = jn at *
        go_wp2_with fail
        refine HJ.out.mono ?_
        rintro e w5 ⟨rfl, hb⟩
        have HB5 := Lib.hid (HB0.out.trans ((HB.out.trans (hb.mono HB.out.size)).mono HB0.out.size))
        clear hb
        go_wp2
        go_ret
        exact ⟨by rw [HW.out]; exact ret_str (by simp), HB5.out⟩
set_option maxRecDepth 100000 in
set_option maxHeartbeats 2000000 in
theorem impl_NodeWritten (a : Nd) (u : Value) (w : World) (hu : InN w (All w) a u) (hsz : Nd.size a ≤ 1048576) (henv : Env w) :
    Calls Tryd.prog 12 #[u] w fun e w' => e = .returned (sv (nodeWritten a)) ∧ Below w.heap.size w w' := by
  obtain ⟨k, n, t, An, ln, cn, Ai, li, ci, rfl⟩ := nd_value hu
  have hB0 := (Below.refl w.heap.size w).alloc (Nat.le_refl _) (.cells (ndCells k n t An ln cn Ai li ci) 26)
  have HB0 := Lib.hid hB0
  have HX0 := Lib.hid (heap_alloc_new w (.cells (ndCells k n t An ln cn Ai li ci) 26))
  have HV := Lib.hid (impl_NodeValid a _ _ (hu.now hB0) hsz)
  have HW := Lib.hid (fun (hv : Nd.valid a = true) w2 (hb : Below _ _ w2) => impl_writeNode a _ w2 ((hu.now hB0).now hb) ⟨4, valid_ok hv⟩ hsz ((henv.below hB0).below hb))
  have HN : Hid (nodeWritten a = if Nd.valid a then Nd.wr a else []) := rfl
  generalize Nd.valid a = r at *
  clear hu hB0
  go_enter Tryd.func12, Tryd.ntmps12
  obtain ⟨⟨x0, x1, x2, x3, x4⟩, -⟩ := box_five HX0.out
  go_wp2_with fail
  refine HV.out.mono ?_
  rintro e w1 ⟨rfl, hb⟩
  have HB1 := Lib.hid (HB0.out.trans (hb.mono HB0.out.size))
  obtain ⟨⟨y0, y1, y2, y3, y4⟩, -⟩ := box_five (bx_keep HX0.out hb)
  cases r
  · clear hb
    go_wp2
    go_ret
    exact ⟨by rw [HN.out]; rfl, HB1.out⟩
  · have HC := Lib.hid (HW.out rfl w1 hb)
    clear hb
    go_wp2_with fail
    refine HC.out.mono ?_
    rintro e w2 ⟨rfl, hb⟩
    have HB2 := Lib.hid (HB1.out.trans (hb.mono HB1.out.size))
    clear hb
    go_wp2
    go_ret
    exact ⟨by rw [HN.out]; rfl, HB2.out⟩
end Go.Proofs.YtdmmnjnbjigdeaaDoor
