/- Headers: ReadHeads of impl and of spec: walks. -/
import Derived.Test.YtaipignkkbknfaaDoorHeads
import Derived.Test.YtaipignkkbknfaaDoorStrS
import Derived.Test.YtaipignkkbknfaaDoorCut
import Derived.Test.YtaipignkkbknfaaDoorBytes
import Derived.Test.YtaipignkkbknfaaDoorDrawT
import Derived.Deep.RegionHeld3
import Derived.Deep.AppendLies
namespace Go.Proofs.YtaipignkkbknfaaDoor
open Go.RowKit

def readLine (l : Tx) : Pr := (lower (l.take (at_ 58 l)), trimSp (l.drop (at_ 58 l + 1)))
def readLines (xs : List Tx) (k : Nat) : List Pr := (xs.take k).map readLine
def readHeads (xs : List Tx) : List Pr × Bool :=
  if decide (xs.length ≤ 6) && xs.all (has 58) then (if headsOk (readLines xs xs.length) then (readLines xs xs.length, true) else ([], false)) else ([], false)
theorem readLines_succ (xs : List Tx) (k : Nat) (h : k < xs.length) : readLines xs (k + 1) = readLines xs k ++ [readLine xs[k]] := by
  unfold readLines
  rw [take_snoc xs k h, List.map_append]
  rfl
theorem readLines_len (xs : List Tx) (k : Nat) : (readLines xs k).length ≤ xs.length := by
  unfold readLines
  rw [List.length_map, List.length_take]
  omega
theorem readHeads_len (xs : List Tx) {m : Nat} (h : xs.length ≤ m) : (readHeads xs).1.length ≤ m + 1 := by
  unfold readHeads
  split
  · split
    · have := readLines_len xs xs.length; simp only; omega
    · simp
  · simp
theorem ssize_get : ∀ (xs : List Tx) (k : Nat) (h : k < xs.length), xs[k].length ≤ ssize xs
  | x :: t, 0, _ => by simp [ssize]
  | x :: t, k + 1, h => by have := ssize_get t k (by simpa using h); simp [ssize]; omega
theorem readLine_fit {l : Tx} {m : Nat} (h : l.length ≤ m) : (readLine l).1.length ≤ m ∧ (readLine l).2.length ≤ m := by
  unfold readLine
  refine ⟨?_, ?_⟩
  · rw [lower_len, List.length_take]; omega
  · have h2 := trimSp_len (l.drop (at_ 58 l + 1))
    have h3 : (l.drop (at_ 58 l + 1)).length ≤ l.length := by rw [List.length_drop]; omega
    simp only
    omega
theorem readLines_fit {xs : List Tx} (h : xs.length + ssize xs ≤ 1048576) (k : Nat) : Fit (readLines xs k) := by
  intro p hp
  unfold readLines at hp
  obtain ⟨x, hx, rfl⟩ := List.mem_map.1 hp
  obtain ⟨i, hi, rfl⟩ := List.getElem_of_mem (List.mem_of_mem_take hx)
  have := ssize_get xs i hi
  have := readLine_fit (l := xs[i]) (m := 1048576) (by omega)
  unfold maxLen
  omega

section
variable {α : Type} {p : α → Bool} {l : List α} {k : Nat} {r : Bool}
theorem allq_yes (h : (l.drop k).all p = r) (hk : k < l.length) (hp : p l[k] = true) : (l.drop (k + 1)).all p = r := by
  rw [drop_cons l k hk, List.all_cons, hp, Bool.true_and] at h; exact h
theorem allq_no (h : (l.drop k).all p = r) (hk : k < l.length) (hp : p l[k] = false) : false = r := by
  rw [drop_cons l k hk, List.all_cons, hp, Bool.false_and] at h; exact h
theorem allq_end (h : (l.drop k).all p = r) (hk : ¬ k < l.length) : true = r := by
  rw [drop_nil l k (by omega)] at h; exact h
end

theorem cell1b {w w' : World} {b o1 : Nat} {x : Value} (h : w.cell? ⟨b, o1, none⟩ = some x) (hb : Below w.heap.size w w') (hn : b < w.heap.size) : w'.cell? ⟨b, o1, none⟩ = some x := (hb.cell (p := ⟨b, o1, none⟩) hn).trans h
theorem cell1c {w w' : World} {b o1 : Nat} {x : Value} {row : Option Nat} (h : w.cell? ⟨b, o1, none⟩ = some x) (hg : w.grownBy w' row) (hn : b < w.heap.size) (hr : row ≠ some b) : w'.cell? ⟨b, o1, none⟩ = some x := (hg.cell_far ⟨b, o1, none⟩ hn (Ne.symm hr)).trans h
theorem ownP_far {w : World} {base c b : Nat} {A : Option Addr} {ps : List Pr} (h : OwnP w base A c ps) (hb : b < base) : Value.ownBlock (.slice A ps.length c) ≠ some b := by
  intro e
  have := (h.lt _ e).1
  omega
/-- one pair appended, at a step of a region that draws its order -/
theorem step_app_pair {ops : Array Oper} {o : Oper} {a : Act} {K : Act → World → Prop} {Q : Exit → Act → World → Prop} {E : Prop} {w : World} (hgd : o.guard = none) (s x : Operand)
    (ho : o.op = .call { callee := .builtin .append, args := #[s, x], argTypes := #[23, 23] }) (base : Nat) (A : Option Addr) (c n : Nat) (ps : List Pr) (u v : Tx)
    (hs : a.eval s = .slice A n c) (hn : n = ps.length) (hown : OwnP w base A c ps) (g : Nat) (hx : a.eval x = .slice (some ⟨g, 0, none⟩) 1 1) (hg : w.heap[g]? = some (.cells #[sv u, sv v] 27 (0, 0))) (hlen : ps.length ≤ 4294967296) (hbase : base ≤ w.heap.size)
    (h : ∀ A' c' w', OwnP w' base A' c' (ps ++ [(u, v)]) → w.grownBy w' (Value.ownBlock (.slice A ps.length c)) → K (a.put o.dst (.slice A' (ps.length + 1) c')) w') :
    if Region.wanted o (yielded ops a.tmps) = true then Oper.wp Tryd.prog o a w K Q else E := by
  subst hn
  obtain ⟨i0, hi, hz0, hz1, hz2⟩ := info_parts Tryd.info_Pair
  refine step_append_lies w hgd s x _ ho base _ i0 _ 2 32 Tryd.underlying23 hi hz0 hz1 hz2 rfl (by decide) _ ps.length (pcells ps) hs hown ⟨g, 0, none⟩ 1 1 [sv u, sv v] hx rfl (World.news_of_block (cs := #[sv u, sv v]) hg) ?_ (by omega) (by unfold maxLen; omega) (by omega) hbase _ rfl ?_
  · intro y hy
    simp at hy
    rcases hy with rfl | rfl <;> rfl
  · intro g' cap w' ho' hg' _ _
    refine h _ _ w' ?_ hg'
    unfold OwnP
    rw [List.length_append, pcells_append]
    exact ho'

set_option maxHeartbeats 1000000 in
theorem impl_ReadHeads (ps : List Tx) (A : Option Addr) (c : Nat) (w : World) (hr : Rd w w.heap.size A (scells ps)) (_ : A = none → c = 0) (_ : FitS ps) (hl : ps.length ≤ maxLen) (hsz : ps.length + ssize ps ≤ 1048576) :
    Calls Tryd.prog 25 #[.slice A ps.length c] w (NewPB w (readHeads ps)) := by
  unfold maxLen at hl
  by_cases h6 : ps.length ≤ 6
  · have d6 : decide (6 < (ps.length : Int)) = false := by simp; omega
    have T6 : Hid (readHeads ps = if ps.all (has 58) then (if headsOk (readLines ps ps.length) then (readLines ps ps.length, true) else ([], false)) else ([], false)) := by show _ = _; rw [readHeads, decide_eq_true h6, Bool.true_and]
    go_enter Tryd.func25, Tryd.ntmps25
    go_wp2
    go_loopw [4, 16] (fun v i wr => ∃ (k : Nat) (A' : Option Addr) (c' : Nat), k ≤ ps.length ∧ i = .int .i64 k ∧ (ps.drop k).all (has 58) = ps.all (has 58) ∧ v = .slice A' (readLines ps k).length c' ∧ OwnP wr w.heap.size A' c' (readLines ps k) ∧ Below w.heap.size w wr) (fun _ i _ => ps.length - (intOf i).toNat)
    case atStart => exact ⟨0, _, 0, Nat.zero_le _, rfl, rfl, rfl, ownP_empty w w.heap.size (Nat.le_refl _), (Below.refl _ _).alloc (Nat.le_refl _) _⟩
    case round =>
      obtain ⟨k, A', c', hk, rfl, hall, rfl, ho, hb⟩ := hrel
      have HB := Lib.hid hb
      have HALL := Lib.hid hall
      clear hall
      have hpl := readLines_len ps k
      by_cases hlt : k < ps.length
      · obtain ⟨b, o, rfl, hab, hc0⟩ := (hr.below hb).str hlt
        have hsz2 := hb.size
        have hgl := ssize_get ps k hlt
        have HS := Lib.hid (readLines_succ ps k hlt)
        generalize readLines ps k = hp at *
        have HO' := Lib.hid ho
        clear hb ho
        have HCU := Lib.hid (fun w => strings_Cut ps[k] 58 (by omega) w)
        have HRL : Hid (readLine ps[k] = (lower (ps[k].take (at_ 58 ps[k])), trimSp (ps[k].drop (at_ 58 ps[k] + 1)))) := rfl
        cases hh : has 58 ps[k]
        · have HH := Lib.hid hh
          simp only [hh, Bool.false_eq_true, if_false] at HCU
          clear hh
          go_wp2_with fail
          refine (HCU.out _).mono ?_
          rintro e w2 ⟨rfl, nd, rfl⟩
          go_wp2
          go_ret2
          rw [T6.out, ← allq_no HALL.out hlt HH.out]
          exact ⟨none, 0, rfl, ownP_nil _ _, below_drewN HB.out _⟩
        · have HH := Lib.hid hh
          simp only [hh, if_true] at HCU
          have hl1 : (ps[k].take (at_ 58 ps[k])).length ≤ 1048576 := by rw [List.length_take]; omega
          have hl2 : (ps[k].drop (at_ 58 ps[k] + 1)).length ≤ 1048576 := by rw [List.length_drop]; omega
          have HLO := Lib.hid (fun w => impl_LowerText (ps[k].take (at_ 58 ps[k])) (by omega) w)
          have HTR := Lib.hid (fun w => strings_Trim (ps[k].drop (at_ 58 ps[k] + 1)) (by unfold maxLen; omega) w)
          clear hh
          generalize ps[k].take (at_ 58 ps[k]) = x1 at *
          generalize ps[k].drop (at_ 58 ps[k] + 1) = x2 at *
          have HS2 : Hid (readLines ps (k + 1) = hp ++ [(lower x1, trimSp x2)]) := by show _ = _; rw [HS.out, HRL.out]
          generalize lower x1 = y1 at *
          generalize trimSp x2 = y2 at *
          go_wp2_with fail
          refine (HCU.out _).mono ?_
          rintro e w2 ⟨rfl, nd, rfl⟩
          go_wp2_with fail
          refine (HLO.out _).mono ?_
          rintro e w3 ⟨rfl, hb3⟩
          have HB3 : Hid (Below wr.heap.size wr w3) := (below_drewN (Below.refl _ wr) nd).trans hb3
          have HBB := Lib.hid (HB.out.trans (HB3.out.mono hsz2))
          have hsz3 := HBB.out.size
          clear hb3
          go_wp2_with fail
          refine (HTR.out _).mono ?_
          rintro e w4 ⟨rfl, nd2, rfl⟩
          go_wp2_with (at_builtin; refine app_pair rfl _ _ rfl w.heap.size A' c' _ hp (y1, y2) (by rfl) rfl (ownP_keep HO'.out (below_drewN HB3.out nd2)) _ (by rfl) rfl ?_ ?_ ?_; (focus omega); (focus (simp; omega)); intro A5 c5 w5 ho5 hg5)
          go_roundw
          case rel =>
            refine ⟨k + 1, A5, c5, by omega, by go_num, allq_yes HALL.out hlt HH.out, by rw [HS2.out]; simp, by rw [HS2.out]; exact ho5, ?_⟩
            exact (below_drewN HBB.out nd2).trans (grown_to_below hg5 (by simp; omega) (ownP_row HO'.out))
          case measure => simp [intOf]; omega
      · have hkn : k = ps.length := by omega
        subst hkn
        have T7 : Hid (readHeads ps = if headsOk (readLines ps ps.length) then (readLines ps ps.length, true) else ([], false)) := by show _ = _; rw [T6.out, ← allq_end HALL.out hlt]; rfl
        have HV := Lib.hid (fun w hr => impl_HeadsValid (readLines ps ps.length) A' c' w hr (readLines_fit hsz _) (by unfold maxLen; omega))
        generalize readLines ps ps.length = hp at *
        have HO' := Lib.hid ho
        clear ho hb
        cases hok : headsOk hp
        · rw [hok] at T7 HV
          clear hok
          go_wp2_with fail
          refine (HV.out _ (ownP_rd HO'.out)).mono ?_
          rintro e w2 ⟨rfl, hb2⟩
          have HB2 := Lib.hid (HB.out.trans (hb2.mono HB.out.size))
          clear hb2
          go_wp2
          go_ret2
          rw [T7.out]
          exact ⟨none, 0, rfl, ownP_nil _ _, HB2.out⟩
        · rw [hok] at T7 HV
          clear hok
          go_wp2_with fail
          refine (HV.out _ (ownP_rd HO'.out)).mono ?_
          rintro e w2 ⟨rfl, hb2⟩
          have HB2 := Lib.hid (HB.out.trans (hb2.mono HB.out.size))
          have HO2 := Lib.hid (ownP_keep HO'.out hb2)
          clear hb2
          go_wp2
          go_ret2
          rw [T7.out]
          exact ⟨A', c', rfl, HO2.out, HB2.out⟩
  · have T6 : Hid (readHeads ps = ([], false)) := by show _ = _; rw [readHeads, decide_eq_false h6]; rfl
    go_enter Tryd.func25, Tryd.ntmps25
    go_wp2
    go_ret2
    rw [T6.out]
    exact ⟨none, 0, rfl, ownP_nil _ _, Below.refl _ _⟩

set_option maxHeartbeats 2000000 in
theorem spec_ReadHeads (ps : List Tx) (A : Option Addr) (c : Nat) (w : World) (hr : Rd w w.heap.size A (scells ps)) (_ : A = none → c = 0) (_ : FitS ps) (hl : ps.length ≤ maxLen) (hsz : ps.length + ssize ps ≤ 1048576) :
    Calls Tryd.prog 28 #[.slice A ps.length c] w (NewPB w (readHeads ps)) := by
  unfold maxLen at hl
  have T6 : Hid (readHeads ps = if decide (ps.length ≤ 6) && ps.all (has 58) then (if headsOk (readLines ps ps.length) then (readLines ps ps.length, true) else ([], false)) else ([], false)) := rfl
  go_enter Tryd.func28, Tryd.ntmps28
  go_wp2
  go_loopw [4, 5] (fun v i wr => ∃ (k : Nat) (A' : Option Addr) (c' : Nat), k ≤ ps.length ∧ i = .int .i64 k ∧ (0 < k → ps.length ≤ 6) ∧ (ps.drop k).all (has 58) = ps.all (has 58) ∧ v = .slice A' (readLines ps k).length c' ∧ OwnP wr w.heap.size A' c' (readLines ps k) ∧ Below w.heap.size w wr) (fun _ i _ => ps.length - (intOf i).toNat)
  case atStart => exact ⟨0, _, 0, Nat.zero_le _, rfl, by simp, rfl, rfl, ownP_empty w w.heap.size (Nat.le_refl _), (Below.refl _ _).alloc (Nat.le_refl _) _⟩
  case round =>
    obtain ⟨k, A', c', hk, rfl, hpos, hall, rfl, ho, hb⟩ := hrel
    have HB := Lib.hid hb
    have HALL := Lib.hid hall
    have HPOS := Lib.hid hpos
    clear hall hpos
    have hpl := readLines_len ps k
    by_cases hlt : k < ps.length
    · obtain ⟨b, o, rfl, hab, hc0⟩ := (hr.below hb).str hlt
      have hsz2 := hb.size
      have hgl := ssize_get ps k hlt
      have HS := Lib.hid (readLines_succ ps k hlt)
      have HRL : Hid (readLine ps[k] = (lower (ps[k].take (at_ 58 ps[k])), trimSp (ps[k].drop (at_ 58 ps[k] + 1)))) := rfl
      have HDH : Hid (has 58 ps[k] = decide (at_ 58 ps[k] < ps[k].length)) := rfl
      generalize readLines ps k = hp at *
      have HO' := Lib.hid ho
      clear hb ho
      generalize hl0 : ps[k] = l at *
      have HL0 := Lib.hid hl0
      clear hl0
      go_wp2
      go_loop [6] (fun i => ∃ (j : Nat), j ≤ l.length ∧ i = .int .i64 j ∧ j ≤ at_ 58 l) (fun i => l.length - (intOf i).toNat)
      case atStart => exact ⟨0, Nat.zero_le _, rfl, Nat.zero_le _⟩
      case round =>
        obtain ⟨j, hj, rfl, hja⟩ := hrel
        by_cases hjl : j < l.length
        · by_cases hc : (l[j].toNat : Int) = 58
          · have hcb : (l[j] == 58) = true := by
              have : l[j] = 58 := UInt8.toNat_inj.1 (by have : (58 : UInt8).toNat = 58 := rfl; omega)
              simp [this]
            have HAT : Hid (at_ 58 l = j) := at_found hja hjl hcb
            have HH : Hid (has 58 l = true) := by show _ = _; rw [HDH.out, HAT.out]; exact decide_eq_true hjl
            have b1 : ((l[j].toNat : Int) != 58) = false := by simp [hc]
            have b2 : ((j : Int) == (l.length : Int)) = false := by simp; omega
            clear hc hcb hja
            by_cases h6 : ps.length ≤ 6
            · have hl1 : (l.take j).length ≤ 1048576 := by rw [List.length_take]; omega
              have hl2 : (l.drop (j + 1)).length ≤ 1048576 := by rw [List.length_drop]; omega
              have HLO := Lib.hid (fun w => spec_LowerText (l.take j) (by omega) w)
              have HTR := Lib.hid (fun w => spec_l29Trim (l.drop (j + 1)) (by unfold maxLen; omega) w)
              have HS2 : Hid (readLines ps (k + 1) = hp ++ [(lower (l.take j), trimSp (l.drop (j + 1)))]) := by show _ = _; rw [HS.out, HRL.out, HAT.out]
              have hw : IntKind.i64.wrap ((j : Int) + 1) = (j : Int) + 1 := IntWalk.i64_in _ (by omega)
              have q0 : (0 : Int) ≤ (j : Int) := by omega
              have q1 : (j : Int) ≤ (l.length : Int) := by omega
              have q2 : (j : Int) + 1 ≤ (l.length : Int) := by omega
              have q3 : ((j : Int) + 1).toNat = j + 1 := by omega
              have q4 : (0 : Int) ≤ (j : Int) + 1 := by omega
              generalize lower (l.take j) = y1 at *
              generalize trimSp (l.drop (j + 1)) = y2 at *
              have HC := Lib.hid hc0
              have hbw : b < wr.heap.size := by omega
              go_wp2_with fail
              go_region_held3 (fun W => W.cell? ⟨b, o + k, none⟩ = some (sv l))
                (first | exact HC.out | exact cell1b (w := wr.drew) HC.out hb2 hbw | exact cell1b (cell1b (w := wr.drew) HC.out hb2 hbw) ((Below.refl _ _).alloc (Nat.le_refl _) _) (Nat.lt_of_lt_of_le hbw hb2.size) | exact cell1c (cell1b (cell1b (w := wr.drew) HC.out hb2 hbw) ((Below.refl _ _).alloc (Nat.le_refl _) _) (Nat.lt_of_lt_of_le hbw hb2.size)) hg5 (Nat.lt_of_lt_of_le (Nat.lt_of_lt_of_le hbw hb2.size) (by simp)) (ownP_far HO'.out hab) | go_keep)
                (first | (go_at_call 46; refine (HLO.out _).mono ?_; rintro e w2 ⟨rfl, hb2⟩) | (go_at_call 39; refine (HTR.out _).mono ?_; rintro e w3 ⟨rfl, rfl⟩) | (refine step_app_pair rfl _ _ rfl w.heap.size A' c' _ hp y1 y2 (by rfl) rfl (World.ownsRow.alloc (ownP_keep HO'.out ((Below.refl _ wr).drew.trans hb2)) _) w2.heap.size (by rfl) (heap_alloc_new w2 _) (by omega) (Nat.le_trans (Nat.le_trans hsz2 hb2.size) (by simp)) ?_; intro A5 c5 w5 ho5 hg5))
              have HB5 := Lib.hid (((HB.out.drew.trans (hb2.mono hsz2)).alloc (Nat.le_trans hsz2 hb2.size) (.cells #[sv y1, sv y2] 27)).trans (grown_to_below hg5 (Nat.le_trans (Nat.le_trans hsz2 hb2.size) (by simp)) (ownP_row HO'.out)))
              clear hb2 hg5
              go_wp2
              go_roundw
              case rel => exact ⟨k + 1, A5, c5, by omega, by go_num, by intro _; exact h6, allq_yes HALL.out hlt (by rw [HL0.out]; exact HH.out), by rw [HS2.out]; simp, by rw [HS2.out]; exact ho5, HB5.out⟩
              case measure => simp [intOf]; omega
            · have T7 : Hid (readHeads ps = ([], false)) := by show _ = _; rw [T6.out, decide_eq_false h6]; rfl
              go_wp2
              go_ret2
              rw [T7.out]
              exact ⟨_, 0, rfl, ownP_empty wr w.heap.size hsz2, HB.out.alloc hsz2 _⟩
          · have hcb : (l[j] == 58) = false := by
              rw [beq_eq_false_iff_ne]; intro e; rw [e] at hc; exact hc rfl
            have HAT : Hid (j + 1 ≤ at_ 58 l) := at_step hja hjl hcb
            have b1 : ((l[j].toNat : Int) != 58) = true := by simp [hc]
            clear hc hcb
            go_wp2
            go_round
            case rel => exact ⟨j + 1, by omega, by go_num, HAT.out⟩
            case measure => simp [intOf]; omega
        · have hjn : j = l.length := by omega
          subst hjn
          have HH : Hid (has 58 l = false) := by show _ = _; rw [HDH.out]; exact decide_eq_false (by omega)
          have T7 : Hid (readHeads ps = ([], false)) := by show _ = _; rw [T6.out, ← allq_no HALL.out hlt (by rw [HL0.out]; exact HH.out), Bool.and_false]; rfl
          go_wp2
          go_ret2
          rw [T7.out]
          exact ⟨_, 0, rfl, ownP_empty wr w.heap.size hsz2, HB.out.alloc hsz2 _⟩
    · have hkn : k = ps.length := by omega
      subst hkn
      have T7 : Hid (readHeads ps = if headsOk (readLines ps ps.length) then (readLines ps ps.length, true) else ([], false)) := by
        show _ = _
        rw [T6.out, ← allq_end HALL.out hlt, Bool.and_true]
        rcases Nat.eq_zero_or_pos ps.length with h | h
        · rw [decide_eq_true (by omega)]; rfl
        · rw [decide_eq_true (HPOS.out h)]; rfl
      have HV := Lib.hid (fun w hr => spec_HeadsValid (readLines ps ps.length) A' c' w hr (readLines_fit hsz _) (by unfold maxLen; omega))
      generalize readLines ps ps.length = hp at *
      have HO' := Lib.hid ho
      clear ho hb
      cases hok : headsOk hp
      · rw [hok] at T7 HV
        clear hok
        go_wp2_with fail
        refine (HV.out _ (ownP_rd HO'.out)).mono ?_
        rintro e w2 ⟨rfl, hb2⟩
        have HB2 := Lib.hid (HB.out.trans (hb2.mono HB.out.size))
        clear hb2
        go_wp2
        go_ret2
        rw [T7.out]
        exact ⟨_, 0, rfl, ownP_empty w2 w.heap.size HB2.out.size, HB2.out.alloc HB2.out.size _⟩
      · rw [hok] at T7 HV
        clear hok
        go_wp2_with fail
        refine (HV.out _ (ownP_rd HO'.out)).mono ?_
        rintro e w2 ⟨rfl, hb2⟩
        have HB2 := Lib.hid (HB.out.trans (hb2.mono HB.out.size))
        have HO2 := Lib.hid (ownP_keep HO'.out hb2)
        clear hb2
        go_wp2
        go_ret2
        rw [T7.out]
        exact ⟨A', c', rfl, HO2.out, HB2.out⟩
end Go.Proofs.YtaipignkkbknfaaDoor
