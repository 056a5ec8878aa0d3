/- Queries: SetAsked of impl and of spec: walks. -/
import Derived.Test.YtaipignkkbknfaaAsked
namespace Go.Proofs.Ytaipignkkbknfaa
open Go.RowKit

def setStep (n t : Tx) (st : List Pr × Bool) (p : Pr) : List Pr × Bool :=
  if p.1 == n then (if st.2 then st else (st.1 ++ [(n, t)], true)) else (st.1 ++ [p], st.2)
def setFold (n t : Tx) (ps : List Pr) (k : Nat) : List Pr × Bool := (ps.take k).foldl (setStep n t) ([], false)
def setList (n t : Tx) (ps : List Pr) : List Pr :=
  if (setFold n t ps ps.length).2 then (setFold n t ps ps.length).1 else (setFold n t ps ps.length).1 ++ [(n, t)]
def setAsked (ps : List Pr) (n t : Tx) : List Pr × Bool :=
  if askedOk ps then (if askedOk (setList n t ps) then (setList n t ps, true) else (ps, false)) else ([], false)

theorem setFold_succ (n t : Tx) (ps : List Pr) (k : Nat) (h : k < ps.length) : setFold n t ps (k + 1) = setStep n t (setFold n t ps k) ps[k] := by
  unfold setFold
  rw [take_snoc ps k h, List.foldl_append]
  rfl
theorem setFold_len (n t : Tx) (ps : List Pr) : ∀ k, k ≤ ps.length → (setFold n t ps k).1.length ≤ k
  | 0, _ => by simp [setFold]
  | k + 1, h => by
    have := setFold_len n t ps k (by omega)
    rw [setFold_succ n t ps k (by omega)]
    unfold setStep
    split
    · split
      · omega
      · simp; omega
    · simp; omega
theorem setFold_fit (n t : Tx) (hn : n.length ≤ maxLen) (ht : t.length ≤ maxLen) (ps : List Pr) (hf : Fit ps) : ∀ k, k ≤ ps.length → Fit (setFold n t ps k).1
  | 0, _ => fun p hp => by simp [setFold] at hp
  | k + 1, h => by
    have ih := setFold_fit n t hn ht ps hf k (by omega)
    rw [setFold_succ n t ps k (by omega)]
    unfold setStep
    split
    · split
      · exact ih
      · intro p hp
        simp only [List.mem_append, List.mem_singleton] at hp
        rcases hp with hp | rfl
        · exact ih p hp
        · exact ⟨hn, ht⟩
    · intro p hp
      simp only [List.mem_append, List.mem_singleton] at hp
      rcases hp with hp | rfl
      · exact ih p hp
      · exact hf _ (List.getElem_mem (by omega))
theorem setAsked_len (ps : List Pr) (n t : Tx) {m : Nat} (h : ps.length ≤ m) : (setAsked ps n t).1.length ≤ m + 1 := by
  unfold setAsked
  split
  · split
    · have := setFold_len n t ps ps.length (Nat.le_refl _)
      simp only [setList]
      split
      · omega
      · simp; omega
    · simp; omega
  · simp
theorem asked_len {ps : List Pr} (h : askedOk ps = true) : ps.length ≤ 6 := by
  simp [askedOk] at h; exact h.1

set_option maxHeartbeats 4000000 in
theorem impl_SetAsked (ps : List Pr) (n t : Tx) (A : Option Addr) (c : Nat) (w : World) (hr : Rd w w.heap.size A (pcells ps)) (hA : A = none → c = 0) (hf : Fit ps) (hl : ps.length ≤ maxLen) (hn : n.length ≤ maxLen) (ht : t.length ≤ maxLen) :
    Calls Try.prog 19 #[.slice A ps.length c, .string ⟨n.toArray⟩, .string ⟨t.toArray⟩] w (NewPB w (setAsked ps n t)) := by
  have HV := Lib.hid (impl_AskedValid ps A c w hr hf hl)
  have HA := Lib.hid hA
  clear hA
  cases hok : askedOk ps
  · have T6 : Hid (setAsked ps n t = ([], false)) := by show _ = _; simp [setAsked, hok]
    have HO := Lib.hid hok
    clear hok
    go_enter Try.func19, Try.ntmps19
    go_wp2_with fail
    refine HV.out.mono ?_
    rintro e w1 ⟨rfl, hb1⟩
    have HB1 := Lib.hid hb1
    clear hb1
    rw [HO.out]
    go_wp2
    go_ret2
    rw [T6.out]
    exact ⟨none, 0, rfl, ownP_nil _ _, HB1.out⟩
  · have h6 := asked_len hok
    have HO := Lib.hid hok
    clear hok
    go_enter Try.func19, Try.ntmps19
    go_wp2_with fail
    refine HV.out.mono ?_
    rintro e w1 ⟨rfl, hb1⟩
    have HB1 := Lib.hid hb1
    clear hb1
    rw [HO.out]
    go_wp2
    go_loopw [8, 9, 18] (fun v s i wr => ∃ (k : Nat) (A' : Option Addr) (c' : Nat), k ≤ ps.length ∧ i = .int .i64 k ∧ v = .slice A' (setFold n t ps k).1.length c' ∧ s = .bool (setFold n t ps k).2 ∧ OwnP wr w.heap.size A' c' (setFold n t ps k).1 ∧ Below w.heap.size w wr) (fun _ _ i _ => ps.length - (intOf i).toNat)
    case atStart => exact ⟨0, _, 0, Nat.zero_le _, rfl, rfl, rfl, own_base (ownP_empty w1 w1.heap.size (Nat.le_refl _)) HB1.out.size, HB1.out.alloc HB1.out.size _⟩
    case round =>
      obtain ⟨k, A', c', hk, rfl, rfl, rfl, ho, hb⟩ := hrel
      have HB := Lib.hid hb
      by_cases hlt : k < ps.length
      · obtain ⟨b, o, rfl, hab, hc0, hc1⟩ := (hr.below hb).pair hlt
        have hsz := hb.size
        have hlen := setFold_len n t ps k hk
        have HF := Lib.hid (setFold_succ n t ps k hlt)
        generalize hst : setFold n t ps k = st at *
        obtain ⟨out, sb⟩ := st
        dsimp only at hlen ho
        have HO' := Lib.hid ho
        clear hb ho hst
        cases he : (ps[k].1 == n)
        · have HS : Hid (setFold n t ps (k + 1) = (out ++ [ps[k]], sb)) := by show _ = _; rw [HF.out]; simp [setStep, he]
          go_wp2_with (at_builtin; refine app_pair rfl _ _ rfl w.heap.size A' c' _ (out) ps[k] rfl rfl ?_ _ rfl ?_ ?_ ?_ ?_; (focus (refine ownP_keep HO'.out ?_; go_grown)); (focus (first | rfl | simp)); (focus omega); (focus (first | omega | (simp; omega))); intro A2 c2 w2 ho2 hg2)
          go_roundw
          case rel =>
            refine ⟨k + 1, A2, c2, by omega, by go_num, by rw [HS.out]; simp, by rw [HS.out], by rw [HS.out]; exact ho2, ?_⟩
            exact (HB.out.alloc HB.out.size _).trans (grown_to_below hg2 (by simp; omega) (ownP_row HO'.out))
          case measure => simp [intOf]; omega
        · have HS : Hid (setFold n t ps (k + 1) = (if sb then (out, sb) else (out ++ [(n, t)], true))) := by show _ = _; rw [HF.out]; simp only [setStep, he, if_true]
          cases sb
          · go_wp2_with (at_builtin; refine app_pair rfl _ _ rfl w.heap.size A' c' _ (out) (n, t) rfl rfl ?_ _ rfl ?_ ?_ ?_ ?_; (focus (refine ownP_keep HO'.out ?_; go_grown)); (focus (first | rfl | simp)); (focus omega); (focus (first | omega | (simp; omega))); intro A2 c2 w2 ho2 hg2)
            go_roundw
            case rel =>
              refine ⟨k + 1, A2, c2, by omega, by go_num, by rw [HS.out]; simp, by rw [HS.out]; rfl, by rw [HS.out]; exact ho2, ?_⟩
              exact (HB.out.alloc HB.out.size _).trans (grown_to_below hg2 (by simp; omega) (ownP_row HO'.out))
            case measure => simp [intOf]; omega
          · go_wp2
            go_roundw
            case rel =>
              refine ⟨k + 1, A', c', by omega, by go_num, by rw [HS.out]; rfl, by rw [HS.out]; rfl, by rw [HS.out]; exact ownP_keep HO'.out (by go_grown), HB.out.alloc HB.out.size _⟩
            case measure => simp [intOf]; omega
      · have hkn : k = ps.length := by omega
        subst hkn
        have hsz := hb.size
        have hlen := setFold_len n t ps ps.length (Nat.le_refl _)
        have hft := setFold_fit n t hn ht ps hf ps.length (Nat.le_refl _)
        have hfn : Fit [(n, t)] := fun p hp => by simp at hp; subst hp; exact ⟨hn, ht⟩
        have HL : Hid (setList n t ps = if (setFold n t ps ps.length).2 then (setFold n t ps ps.length).1 else (setFold n t ps ps.length).1 ++ [(n, t)]) := rfl
        have HX : Hid (setAsked ps n t = (if askedOk (setList n t ps) then (setList n t ps, true) else (ps, false))) := by show _ = _; simp [setAsked, HO.out]
        generalize setFold n t ps ps.length = st at *
        obtain ⟨out, sb⟩ := st
        dsimp only at hlen ho hft
        have HO' := Lib.hid ho
        have HFT := Lib.hid hft
        have HFN := Lib.hid hfn
        have HR := Lib.hid hr
        clear hb ho hft hfn hr hf hn ht
        have hfin : ∃ l, setList n t ps = l ∧ l.length ≤ ps.length + 1 ∧ Fit l := by
          refine ⟨_, rfl, ?_, ?_⟩
          · rw [HL.out]; cases sb <;> simp <;> omega
          · rw [HL.out]
            intro p hp
            cases sb
            · simp at hp
              rcases hp with hp | rfl
              · exact HFT.out p hp
              · exact HFN.out _ (by simp)
            · exact HFT.out p hp
        obtain ⟨l, hl1, hl2, hl3⟩ := hfin
        have HL1 := Lib.hid hl1
        have HL3 := Lib.hid hl3
        have hlm : l.length ≤ maxLen := by unfold maxLen; omega
        have HLM := Lib.hid hlm
        clear hl1 hl3 hlm
        cases sb
        · have HL2 : Hid (l = out ++ [(n, t)]) := by show _ = _; rw [← HL1.out, HL.out]; rfl
          go_wp2_with (at_builtin; refine app_pair rfl _ _ rfl w.heap.size A' c' _ (out) (n, t) rfl rfl ?_ _ rfl ?_ ?_ ?_ ?_; (focus (refine ownP_keep HO'.out ?_; go_grown)); (focus (first | rfl | simp)); (focus omega); (focus (first | omega | (simp; omega))); intro A2 c2 w2 ho2 hg2)
          rw [← HL2.out] at ho2
          have HB2 := Lib.hid (HB.out.trans (grown_to_below hg2 HB.out.size (ownP_row HO'.out)))
          have HL4 : Hid (out.length + 1 = l.length) := by show _ = _; rw [HL2.out]; simp
          have HO2 := Lib.hid ho2
          clear hg2 ho2
          go_wp2_with fail
          rw [HL4.out]
          refine (impl_AskedValid l A2 c2 _ (ownP_rd HO2.out) HL3.out HLM.out).mono ?_
          rintro e w3 ⟨rfl, hb3⟩
          have HB3 := Lib.hid (HB2.out.trans (hb3.mono HB2.out.size))
          have HO3 := Lib.hid (ownP_keep HO2.out hb3)
          clear hb3
          have HX2 : Hid (setAsked ps n t = (if askedOk l then (l, true) else (ps, false))) := by show _ = _; rw [HX.out, HL1.out]
          cases hq : askedOk l
          · have HX3 : Hid (setAsked ps n t = (ps, false)) := by show _ = _; rw [HX2.out, hq]; rfl
            clear hq
            have hsz3 := HB3.out.size
            go_wp2_with (at_builtin; refine app_pairs rfl _ _ rfl w.heap.size _ 0 0 [] ps A ps.length c w.heap.size rfl rfl ?_ rfl rfl HA.out ?_ ?_ ?_ ?_; (focus exact own_base (ownP_empty w3 w3.heap.size (Nat.le_refl _)) HB3.out.size); (focus exact HR.out.below (HB3.out.alloc HB3.out.size _)); (focus (simp; omega)); (focus (simp; omega)); intro A4 c4 w4 ho4 hg4)
            go_ret2
            rw [HX3.out]
            refine ⟨A4, c4, by simp, ho4, (HB3.out.alloc HB3.out.size _).trans (grown_to_below hg4 (by simp; omega) ?_)⟩
            intro g hg
            simp [Value.ownBlock] at hg
            omega
          · have HX3 : Hid (setAsked ps n t = (l, true)) := by show _ = _; rw [HX2.out, hq]; rfl
            clear hq
            go_wp2
            go_ret2
            rw [HX3.out]
            exact ⟨A2, c2, rfl, HO3.out, HB3.out⟩
        · have HL2 : Hid (l = out) := by show _ = _; rw [← HL1.out, HL.out]; rfl
          have HB2 := HB
          have HO2 : Hid (OwnP wr w.heap.size A' c' l) := by rw [HL2.out]; exact HO'.out
          have HL4 : Hid (out.length = l.length) := by rw [HL2.out]; rfl
          go_wp2_with fail
          rw [HL4.out]
          refine (impl_AskedValid l A' c' _ (ownP_rd HO2.out) HL3.out HLM.out).mono ?_
          rintro e w3 ⟨rfl, hb3⟩
          have HB3 := Lib.hid (HB2.out.trans (hb3.mono HB2.out.size))
          have HO3 := Lib.hid (ownP_keep HO2.out hb3)
          clear hb3
          have HX2 : Hid (setAsked ps n t = (if askedOk l then (l, true) else (ps, false))) := by show _ = _; rw [HX.out, HL1.out]
          cases hq : askedOk l
          · have HX3 : Hid (setAsked ps n t = (ps, false)) := by show _ = _; rw [HX2.out, hq]; rfl
            clear hq
            have hsz3 := HB3.out.size
            go_wp2_with (at_builtin; refine app_pairs rfl _ _ rfl w.heap.size _ 0 0 [] ps A ps.length c w.heap.size rfl rfl ?_ rfl rfl HA.out ?_ ?_ ?_ ?_; (focus exact own_base (ownP_empty w3 w3.heap.size (Nat.le_refl _)) HB3.out.size); (focus exact HR.out.below (HB3.out.alloc HB3.out.size _)); (focus (simp; omega)); (focus (simp; omega)); intro A4 c4 w4 ho4 hg4)
            go_ret2
            rw [HX3.out]
            refine ⟨A4, c4, by simp, ho4, (HB3.out.alloc HB3.out.size _).trans (grown_to_below hg4 (by simp; omega) ?_)⟩
            intro g hg
            simp [Value.ownBlock] at hg
            omega
          · have HX3 : Hid (setAsked ps n t = (l, true)) := by show _ = _; rw [HX2.out, hq]; rfl
            clear hq
            go_wp2
            go_ret2
            rw [HX3.out]
            exact ⟨A', c', rfl, HO3.out, HB3.out⟩

set_option maxHeartbeats 4000000 in
theorem spec_SetAsked (ps : List Pr) (n t : Tx) (A : Option Addr) (c : Nat) (w : World) (hr : Rd w w.heap.size A (pcells ps)) (hA : A = none → c = 0) (hf : Fit ps) (hl : ps.length ≤ maxLen) (hn : n.length ≤ maxLen) (ht : t.length ≤ maxLen) :
    Calls Try.prog 20 #[.slice A ps.length c, .string ⟨n.toArray⟩, .string ⟨t.toArray⟩] w (NewPB w (setAsked ps n t)) := by
  have HV := Lib.hid (spec_AskedValid ps A c w hr hf hl)
  have HA := Lib.hid hA
  clear hA
  cases hok : askedOk ps
  · have T6 : Hid (setAsked ps n t = ([], false)) := by show _ = _; simp [setAsked, hok]
    have HO := Lib.hid hok
    clear hok
    go_enter Try.func20, Try.ntmps20
    go_wp2_with fail
    refine HV.out.mono ?_
    rintro e w1 ⟨rfl, hb1⟩
    have HB1 := Lib.hid hb1
    clear hb1
    rw [HO.out]
    go_wp2
    go_ret2
    rw [T6.out]
    exact ⟨_, 0, rfl, own_base (ownP_empty w1 w1.heap.size (Nat.le_refl _)) HB1.out.size, HB1.out.alloc HB1.out.size _⟩
  · have h6 := asked_len hok
    have HO := Lib.hid hok
    clear hok
    go_enter Try.func20, Try.ntmps20
    go_wp2_with fail
    refine HV.out.mono ?_
    rintro e w1 ⟨rfl, hb1⟩
    have HB1 := Lib.hid hb1
    clear hb1
    rw [HO.out]
    go_wp2
    go_loopw [8, 9, 10] (fun v s i wr => ∃ (k : Nat) (A' : Option Addr) (c' : Nat), k ≤ ps.length ∧ i = .int .i64 k ∧ v = .slice A' (setFold n t ps k).1.length c' ∧ s = .bool (setFold n t ps k).2 ∧ OwnP wr w.heap.size A' c' (setFold n t ps k).1 ∧ Below w.heap.size w wr) (fun _ _ i _ => ps.length - (intOf i).toNat)
    case atStart => exact ⟨0, _, 0, Nat.zero_le _, rfl, rfl, rfl, own_base (ownP_empty w1 w1.heap.size (Nat.le_refl _)) HB1.out.size, HB1.out.alloc HB1.out.size _⟩
    case round =>
      obtain ⟨k, A', c', hk, rfl, rfl, rfl, ho, hb⟩ := hrel
      have HB := Lib.hid hb
      by_cases hlt : k < ps.length
      · obtain ⟨b, o, rfl, hab, hc0, hc1⟩ := (hr.below hb).pair hlt
        have hsz := hb.size
        have hlen := setFold_len n t ps k hk
        have HF := Lib.hid (setFold_succ n t ps k hlt)
        generalize hst : setFold n t ps k = st at *
        obtain ⟨out, sb⟩ := st
        dsimp only at hlen ho
        have HO' := Lib.hid ho
        clear hb ho hst
        cases he : (ps[k].1 == n)
        · have HS : Hid (setFold n t ps (k + 1) = (out ++ [ps[k]], sb)) := by show _ = _; rw [HF.out]; simp [setStep, he]
          go_wp2_with (at_builtin; refine app_pair rfl _ _ rfl w.heap.size A' c' _ (out) ps[k] rfl rfl ?_ _ rfl ?_ ?_ ?_ ?_; (focus (refine ownP_keep HO'.out ?_; go_grown)); (focus (first | rfl | simp)); (focus omega); (focus (first | omega | (simp; omega))); intro A2 c2 w2 ho2 hg2)
          go_roundw
          case rel =>
            refine ⟨k + 1, A2, c2, by omega, by go_num, by rw [HS.out]; simp, by rw [HS.out], by rw [HS.out]; exact ho2, ?_⟩
            exact HB.out.trans (grown_to_below hg2 (by omega) (ownP_row HO'.out))
          case measure => simp [intOf]; omega
        · have HS : Hid (setFold n t ps (k + 1) = (if sb then (out, sb) else (out ++ [(n, t)], true))) := by show _ = _; rw [HF.out]; simp only [setStep, he, if_true]
          cases sb
          · go_wp2_with (at_builtin; refine app_pair rfl _ _ rfl w.heap.size A' c' _ (out) (n, t) rfl rfl ?_ _ rfl ?_ ?_ ?_ ?_; (focus (refine ownP_keep HO'.out ?_; go_grown)); (focus (first | rfl | simp)); (focus omega); (focus (first | omega | (simp; omega))); intro A2 c2 w2 ho2 hg2)
            go_roundw
            case rel =>
              refine ⟨k + 1, A2, c2, by omega, by go_num, by rw [HS.out]; simp, by rw [HS.out]; rfl, by rw [HS.out]; exact ho2, ?_⟩
              exact HB.out.trans (grown_to_below hg2 (by omega) (ownP_row HO'.out))
            case measure => simp [intOf]; omega
          · go_wp2
            go_roundw
            case rel =>
              refine ⟨k + 1, A', c', by omega, by go_num, by rw [HS.out]; rfl, by rw [HS.out]; rfl, by rw [HS.out]; exact HO'.out, HB.out⟩
            case measure => simp [intOf]; omega
      · have hkn : k = ps.length := by omega
        subst hkn
        have hsz := hb.size
        have hlen := setFold_len n t ps ps.length (Nat.le_refl _)
        have hft := setFold_fit n t hn ht ps hf ps.length (Nat.le_refl _)
        have hfn : Fit [(n, t)] := fun p hp => by simp at hp; subst hp; exact ⟨hn, ht⟩
        have HL : Hid (setList n t ps = if (setFold n t ps ps.length).2 then (setFold n t ps ps.length).1 else (setFold n t ps ps.length).1 ++ [(n, t)]) := rfl
        have HX : Hid (setAsked ps n t = (if askedOk (setList n t ps) then (setList n t ps, true) else (ps, false))) := by show _ = _; simp [setAsked, HO.out]
        generalize setFold n t ps ps.length = st at *
        obtain ⟨out, sb⟩ := st
        dsimp only at hlen ho hft
        have HO' := Lib.hid ho
        have HFT := Lib.hid hft
        have HFN := Lib.hid hfn
        have HR := Lib.hid hr
        clear hb ho hft hfn hr hf hn ht
        have hfin : ∃ l, setList n t ps = l ∧ l.length ≤ ps.length + 1 ∧ Fit l := by
          refine ⟨_, rfl, ?_, ?_⟩
          · rw [HL.out]; cases sb <;> simp <;> omega
          · rw [HL.out]
            intro p hp
            cases sb
            · simp at hp
              rcases hp with hp | rfl
              · exact HFT.out p hp
              · exact HFN.out _ (by simp)
            · exact HFT.out p hp
        obtain ⟨l, hl1, hl2, hl3⟩ := hfin
        have HL1 := Lib.hid hl1
        have HL3 := Lib.hid hl3
        have hlm : l.length ≤ maxLen := by unfold maxLen; omega
        have HLM := Lib.hid hlm
        clear hl1 hl3 hlm
        cases sb
        · have HL2 : Hid (l = out ++ [(n, t)]) := by show _ = _; rw [← HL1.out, HL.out]; rfl
          go_wp2_with (at_builtin; refine app_pair rfl _ _ rfl w.heap.size A' c' _ (out) (n, t) rfl rfl ?_ _ rfl ?_ ?_ ?_ ?_; (focus (refine ownP_keep HO'.out ?_; go_grown)); (focus (first | rfl | simp)); (focus omega); (focus (first | omega | (simp; omega))); intro A2 c2 w2 ho2 hg2)
          rw [← HL2.out] at ho2
          have HB2 := Lib.hid (HB.out.trans (grown_to_below hg2 HB.out.size (ownP_row HO'.out)))
          have HL4 : Hid (out.length + 1 = l.length) := by show _ = _; rw [HL2.out]; simp
          have HO2 := Lib.hid ho2
          clear hg2 ho2
          go_wp2_with fail
          rw [HL4.out]
          refine (spec_AskedValid l A2 c2 _ (ownP_rd HO2.out) HL3.out HLM.out).mono ?_
          rintro e w3 ⟨rfl, hb3⟩
          have HB3 := Lib.hid (HB2.out.trans (hb3.mono HB2.out.size))
          have HO3 := Lib.hid (ownP_keep HO2.out hb3)
          clear hb3
          have HX2 : Hid (setAsked ps n t = (if askedOk l then (l, true) else (ps, false))) := by show _ = _; rw [HX.out, HL1.out]
          cases hq : askedOk l
          · have HX3 : Hid (setAsked ps n t = (ps, false)) := by show _ = _; rw [HX2.out, hq]; rfl
            clear hq
            have hsz3 := HB3.out.size
            go_wp2_with (at_builtin; refine app_pairs rfl _ _ rfl w.heap.size _ 0 0 [] ps A ps.length c w.heap.size rfl rfl ?_ rfl rfl HA.out ?_ ?_ ?_ ?_; (focus exact own_base (ownP_empty w3 w3.heap.size (Nat.le_refl _)) HB3.out.size); (focus exact HR.out.below (HB3.out.alloc HB3.out.size _)); (focus (simp; omega)); (focus (simp; omega)); intro A4 c4 w4 ho4 hg4)
            go_ret2
            rw [HX3.out]
            refine ⟨A4, c4, by simp, ho4, (HB3.out.alloc HB3.out.size _).trans (grown_to_below hg4 (by simp; omega) ?_)⟩
            intro g hg
            simp [Value.ownBlock] at hg
            omega
          · have HX3 : Hid (setAsked ps n t = (l, true)) := by show _ = _; rw [HX2.out, hq]; rfl
            clear hq
            go_wp2
            go_ret2
            rw [HX3.out]
            exact ⟨A2, c2, rfl, HO3.out, HB3.out⟩
        · have HL2 : Hid (l = out) := by show _ = _; rw [← HL1.out, HL.out]; rfl
          have HB2 := HB
          have HO2 : Hid (OwnP wr w.heap.size A' c' l) := by rw [HL2.out]; exact HO'.out
          have HL4 : Hid (out.length = l.length) := by rw [HL2.out]; rfl
          go_wp2_with fail
          rw [HL4.out]
          refine (spec_AskedValid l A' c' _ (ownP_rd HO2.out) HL3.out HLM.out).mono ?_
          rintro e w3 ⟨rfl, hb3⟩
          have HB3 := Lib.hid (HB2.out.trans (hb3.mono HB2.out.size))
          have HO3 := Lib.hid (ownP_keep HO2.out hb3)
          clear hb3
          have HX2 : Hid (setAsked ps n t = (if askedOk l then (l, true) else (ps, false))) := by show _ = _; rw [HX.out, HL1.out]
          cases hq : askedOk l
          · have HX3 : Hid (setAsked ps n t = (ps, false)) := by show _ = _; rw [HX2.out, hq]; rfl
            clear hq
            have hsz3 := HB3.out.size
            go_wp2_with (at_builtin; refine app_pairs rfl _ _ rfl w.heap.size _ 0 0 [] ps A ps.length c w.heap.size rfl rfl ?_ rfl rfl HA.out ?_ ?_ ?_ ?_; (focus exact own_base (ownP_empty w3 w3.heap.size (Nat.le_refl _)) HB3.out.size); (focus exact HR.out.below (HB3.out.alloc HB3.out.size _)); (focus (simp; omega)); (focus (simp; omega)); intro A4 c4 w4 ho4 hg4)
            go_ret2
            rw [HX3.out]
            refine ⟨A4, c4, by simp, ho4, (HB3.out.alloc HB3.out.size _).trans (grown_to_below hg4 (by simp; omega) ?_)⟩
            intro g hg
            simp [Value.ownBlock] at hg
            omega
          · have HX3 : Hid (setAsked ps n t = (l, true)) := by show _ = _; rw [HX2.out, hq]; rfl
            clear hq
            go_wp2
            go_ret2
            rw [HX3.out]
            exact ⟨A', c', rfl, HO3.out, HB3.out⟩

end Go.Proofs.Ytaipignkkbknfaa
