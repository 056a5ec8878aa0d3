/- UnescapePart of spec: a walk. -/
import Derived.Test.YtjlaelkdmgcniaaDoorUnescP
import Derived.Test.YtjlaelkdmgcniaaDoorEscS
import Derived.Test.YtjlaelkdmgcniaaDoorBytes
import Derived.Deep.RegionHeld3
import Derived.Deep.QuietTactic
import Derived.BigQuiet
import Derived.IntWalk
namespace Go.Proofs.YtjlaelkdmgcniaaDoor
open Go.RowKit

/-- what the bytes from here on are found to stand for -/
def tgt (r : Tx) : Option Nat := match r with
  | _ :: d :: e :: _ => if isHex d && isHex e then some (hexV d * 16 + hexV e) else none
  | _ => none
theorem tgt_test {r : Tx} (h3 : 3 ≤ r.length) (h37 : r.head? = some 37) (c : Nat) (hc : c < 256) : (r.take 3 == hex3 (UInt8.ofNat c)) = decide (tgt r = some c) := by
  match r, h3, h37 with
  | b :: d :: e :: u, _, h37 =>
    have hb : b = 37 := by simpa using h37
    subst hb
    have hcn : (UInt8.ofNat c).toNat = c := by rw [UInt8.toNat_ofNat']; omega
    rw [Bool.eq_iff_iff, beq_iff_eq, decide_eq_true_iff]
    show [37, d, e] = hex3 (UInt8.ofNat c) ↔ _
    rw [eq_comm, hex3_iff]
    unfold tgt
    constructor
    · rintro ⟨h, hv⟩
      simp only [h, if_true]
      rw [← hcn, hv, (val3_lt h).2]
    · intro h
      cases hh : isHex d && isHex e
      · simp [hh] at h
      · simp only [hh, if_true, Option.some.injEq] at h
        refine ⟨rfl, UInt8.toNat_inj.1 ?_⟩
        rw [hcn, (val3_lt hh).2, h]
def fnd (T : Option Nat) (c : Nat) : Bool := match T with
  | some t => decide (t < c)
  | none => false
def bv (T : Option Nat) (c : Nat) : Int := match T with
  | some t => if t < c then (t : Int) else 37
  | none => 37
theorem fnd_zero (T : Option Nat) : fnd T 0 = false := by cases T <;> simp [fnd]
theorem bv_zero (T : Option Nat) : bv T 0 = 37 := by cases T <;> simp [bv]
theorem fnd_yes (c : Nat) : fnd (some c) (c + 1) = true ∧ bv (some c) (c + 1) = (c : Int) := by simp [fnd, bv]
theorem fnd_no {T : Option Nat} {c : Nat} (h : T ≠ some c) : fnd T (c + 1) = fnd T c ∧ bv T (c + 1) = bv T c := by
  cases T with
  | none => exact ⟨rfl, rfl⟩
  | some t =>
    have hne : t ≠ c := fun e => h (by rw [e])
    have e : (t < c + 1) ↔ (t < c) := by omega
    simp [fnd, bv, e]
theorem spec_l3HexN (c : Nat) (hc : c < 256) (w : World) :
    Calls Tryd.prog 69 #[.int .u8 (c : Int)] w fun e w' => e = .returned (.string ⟨(hex3 (UInt8.ofNat c)).toArray⟩) ∧ Below w.heap.size w w' := by
  have h := spec_l3Hex (UInt8.ofNat c) w
  have hcn : (UInt8.ofNat c).toNat = c := by rw [UInt8.toNat_ofNat']; omega
  rw [hcn] at h
  exact h
set_option maxRecDepth 100000 in
set_option maxHeartbeats 4000000 in
theorem spec_UnescapePart (l : Tx) (hl : l.length ≤ 1048576) (w : World) :
    Calls Tryd.prog 50 #[.string ⟨l.toArray⟩] w fun e w' => e = .returned (.tuple #[.string ⟨((unesc l).getD []).toArray⟩, .bool (unesc l).isSome]) ∧ Below w.heap.size w w' := by
  go_enter Tryd.func50, Tryd.ntmps50
  go_wp2
  go_loopw [4, 5] (fun v i wr => ∃ (k g c : Nat) (acc : Tx), k ≤ l.length ∧ i = .int .i64 k ∧ acc.length ≤ k ∧ specA acc (l.drop k) = unesc l ∧ v = .slice (some ⟨g, 0, none⟩) acc.length c ∧ OwnB wr w.heap.size (some ⟨g, 0, none⟩) c acc ∧ Below w.heap.size w wr) (fun _ i _ => l.length - (intOf i).toNat)
  case atStart => exact ⟨0, _, 0, [], Nat.zero_le _, rfl, by simp, rfl, rfl, ownB_empty w w.heap.size (Nat.le_refl _), (Below.refl _ _).alloc (Nat.le_refl _) _⟩
  case round =>
    obtain ⟨k, g, c, acc, hk, rfl, hacc, hrc, rfl, ho, hb⟩ := hrel
    have HB := Lib.hid hb
    have HO := Lib.hid ho
    have HRC := Lib.hid hrc
    have hsz2 := hb.size
    clear ho hrc hb
    by_cases hlt : k < l.length
    · have hD := drop_cons l k hlt
      by_cases h37 : (l[k] == 37) = true
      · have hb37 : l[k] = 37 := by simpa using h37
        have hz : ((l[k].toNat : Int) == 37) = true := by rw [hb37]; rfl
        have h37h : (l.drop k).head? = some 37 := by rw [hD, hb37]; rfl
        have hlk : (l[k].toNat : Int) = 37 := by rw [hb37]; rfl
        rw [hb37] at hD
        by_cases hlt2 : k + 3 ≤ l.length
        · have h3 : 3 ≤ (l.drop k).length := by simp; omega
          have HT := Lib.hid (tgt_test h3 h37h)
          have hD1 := drop_cons l (k + 1) (by omega)
          have hD2 := drop_cons l (k + 2) (by omega)
          rw [hD1, hD2] at hD
          have htake : (l.take (k + 3)).drop k = (l.drop k).take 3 := by rw [List.drop_take]; congr 1; omega
          obtain ⟨T, hT⟩ : ∃ T, tgt (l.drop k) = T := ⟨_, rfl⟩
          have HT2 : Hid (∀ c, c < 256 → ((l.take (k + 3)).drop k == hex3 (UInt8.ofNat c)) = decide (T = some c)) := by
            intro c hc
            rw [htake, HT.out c hc, hT]
          have HTT := Lib.hid hT
          have HDD := Lib.hid hD
          have hw3 : (k : Int) + 3 ≤ (l.length : Int) := by omega
          clear HT hT hD hD1 hD2 htake h3 h37h h37 hb37
          obtain ⟨wo, rfl⟩ : ∃ wo : World, wo = wr := ⟨_, rfl⟩
          go_wp2
          go_loopw [6, 8, 9] (fun b f ci wi => ∃ (cN : Nat), cN ≤ 256 ∧ ci = .int .i64 (cN : Int) ∧ f = .bool (fnd T cN) ∧ b = .int .u8 (bv T cN) ∧ Below wo.heap.size wo wi) (fun _ _ ci _ => 256 - (intOf ci).toNat)
          case atStart => exact ⟨0, by omega, rfl, by rw [fnd_zero], by rw [bv_zero], Below.refl _ _⟩
          case round =>
            obtain ⟨cN, hcN, rfl, rfl, rfl, hbi⟩ := hrel
            have HBI := Lib.hid hbi
            clear hbi
            by_cases hc : cN < 256
            · have htest := HT2.out cN hc
              have HX := Lib.hid (fun w => spec_l3HexN cN hc w)
              generalize hex3 (UInt8.ofNat cN) = y at *
              have HTE := Lib.hid htest
              clear htest
              go_wp2
              have hwk : IntKind.i64.wrap ((k : Int) + 3) = (k : Int) + 3 := IntWalk.i64_in _ (by omega)
              have hw8 : IntKind.u8.wrap (cN : Int) = (cN : Int) := IntWalk.u8_in _ (by omega)
              have p3 : (0 : Int) ≤ (k : Int) + 3 := by omega
              have p5 : (k : Int) ≤ (k : Int) + 3 := by omega
              have p6 : (0 : Int) ≤ (k : Int) := by omega
              have p4 : ((k : Int) + 3).toNat = k + 3 := by omega
              go_region_held3 (fun _ => True) (trivial) ((go_at_call 69; refine (HX.out _).mono ?_; rintro e w2 ⟨rfl, hb2⟩))
              have HB2 := Lib.hid (HBI.out.drew.trans (hb2.mono HBI.out.drew.size))
              clear hb2 hwk
              clear HT2
              generalize List.drop k (List.take (k + 3) l) = z at *
              by_cases hT : T = some cN
              · have ht : z = y := by have h := HTE.out; rw [decide_eq_true hT] at h; simpa using h
                subst ht
                subst hT
                clear HTE
                go_simp
                go_wp2
                go_roundw
                case rel => exact ⟨cN + 1, by omega, by go_num, by rw [(fnd_yes cN).1], by rw [(fnd_yes cN).2], HB2.out⟩
                case measure => simp [intOf]; omega
              · have ht : (z == y) = false := by rw [HTE.out]; simpa using hT
                have ht2 : ¬ z = y := by simpa using ht
                have HN := Lib.hid (fnd_no hT)
                clear HTE hT
                go_simp
                go_wp2
                go_roundw
                case rel => exact ⟨cN + 1, by omega, by go_num, by rw [HN.out.1], by rw [HN.out.2], HB2.out⟩
                case measure => simp [intOf]; omega
            · have hc256 : cN = 256 := by omega
              subst hc256
              have HBW : Hid (Below w.heap.size w wr) := HB.out.trans (HBI.out.mono HB.out.size)
              have HO' := Lib.hid (ownB_keep HO.out HBI.out)
              have hszr : w.heap.size ≤ wr.heap.size := HBW.out.size
              cases hh : isHex l[k + 1] && isHex l[k + 2]
              · have HE : Hid (specA acc (l.drop k) = none) := by show _ = _; rw [HDD.out, specA_bad _ _ _ _ hh]
                have HRN : Hid (unesc l = none) := by show _ = _; rw [← HRC.out, HE.out]
                obtain rfl : T = none := by rw [← HTT.out, HDD.out]; simp [tgt, hh]
                clear hh HT2
                simp only [fnd]
                go_wp2
                go_ret2
                rw [HRN.out]
                exact ⟨rfl, HBW.out⟩
              · obtain ⟨hv, hvn⟩ := val3_lt hh
                have hTx : T = some (val3 l[k + 1] l[k + 2]).toNat := by rw [← HTT.out, HDD.out, hvn]; simp [tgt, hh]
                subst hTx
                have HE := Lib.hid (fun (hp : plainByte (val3 l[k + 1] l[k + 2]) = false) => specA_hex acc (l.drop (k + 3)) l[k + 1] l[k + 2] hh hp)
                have HE2 := Lib.hid (fun (hp : plainByte (val3 l[k + 1] l[k + 2]) = true) => specA_hexp acc (l.drop (k + 3)) l[k + 1] l[k + 2] hp)
                rw [← HDD.out] at HE HE2
                have hx := (val3 l[k + 1] l[k + 2]).toNat_lt
                have hf1 : fnd (some (val3 l[k + 1] l[k + 2]).toNat) 256 = true := by simp [fnd]; omega
                have hf2 : bv (some (val3 l[k + 1] l[k + 2]).toNat) 256 = ((val3 l[k + 1] l[k + 2]).toNat : Int) := by simp [bv]; omega
                rw [hf1, hf2]
                generalize val3 l[k + 1] l[k + 2] = x at *
                clear hh HT2 hf1 hf2 hv hvn HTT HDD
                have HPL := Lib.hid (fun w => spec_l3Plain x w)
                by_cases hp : plainByte x = true
                · have HE3 := Lib.hid (HE2.out hp)
                  have HRN : Hid (unesc l = none) := by show _ = _; rw [← HRC.out, HE3.out]
                  rw [hp] at HPL
                  clear HE HE2 HE3 hp
                  go_wp2_with (go_at_call 48; refine (HPL.out _).mono ?_; rintro e w' ⟨rfl, rfl⟩)
                  go_ret2
                  rw [HRN.out]
                  exact ⟨rfl, HBW.out⟩
                · have hp' : plainByte x = false := by simpa using hp
                  have HE3 := Lib.hid (HE.out hp')
                  rw [hp'] at HPL
                  clear HE HE2 hp hp'
                  go_wp2_with (first | (go_at_call 48; refine (HPL.out _).mono ?_; rintro e w' ⟨rfl, rfl⟩) | (at_builtin; refine app_byte rfl _ _ rfl w.heap.size (some ⟨g, 0, none⟩) c _ acc x _ rfl rfl rfl (ownB_keep HO'.out (Below.refl _ _)) _ rfl ?_ ?_ ?_ ?_; (focus (first | rfl | simp)); (focus omega); (focus omega); intro g2 c2 w3 ho3 hg3))
                  go_roundw
                  case rel => exact ⟨k + 3, g2, c2, acc ++ [x], by omega, by go_num, by simp; omega, by rw [← HE3.out]; exact HRC.out, by simp, ho3, HBW.out.trans (grown_to_below hg3 hszr (ownB_row HO'.out))⟩
                  case measure => simp [intOf]; omega
        · have HE : Hid (specA acc (l.drop k) = none) := by show _ = _; rw [hD, specA_short _ _ (by simp; omega)]
          have HRN : Hid (unesc l = none) := by show _ = _; rw [← HRC.out, HE.out]
          clear hD h37h h37 hb37
          obtain ⟨wo, rfl⟩ : ∃ wo : World, wo = wr := ⟨_, rfl⟩
          go_wp2
          go_loopw [6, 8, 9] (fun b f ci wi => ∃ (cN : Nat), cN ≤ 256 ∧ ci = .int .i64 (cN : Int) ∧ f = .bool false ∧ b = .int .u8 37 ∧ Below wo.heap.size wo wi) (fun _ _ ci _ => 256 - (intOf ci).toNat)
          case atStart => exact ⟨0, by omega, rfl, rfl, by first | rfl | rw [hlk], Below.refl _ _⟩
          case round =>
            obtain ⟨cN, hcN, rfl, rfl, rfl, hbi⟩ := hrel
            have HBI := Lib.hid hbi
            clear hbi
            by_cases hc : cN < 256
            · have hwk : IntKind.i64.wrap ((k : Int) + 3) = (k : Int) + 3 := IntWalk.i64_in _ (by omega)
              have hg : decide ((k : Int) + 3 ≤ (l.length : Int)) = false := by simp; omega
              go_wp2
              go_quiet (fail)
              clear hwk
              go_wp2
              go_roundw
              case rel => exact ⟨cN + 1, by omega, by go_num, rfl, rfl, below_drewN HBI.out _⟩
              case measure => simp [intOf]; omega
            · have hc256 : cN = 256 := by omega
              subst hc256
              have HBW : Hid (Below w.heap.size w wr) := HB.out.trans (HBI.out.mono HB.out.size)
              go_wp2
              go_ret2
              rw [HRN.out]
              exact ⟨rfl, HBW.out⟩
      · have hb37 : (l[k] == 37) = false := by simpa using h37
        have b1 : ((l[k].toNat : Int) == 37) = false := by
          simp
          intro e
          exact h37 (by have h2 : l[k] = 37 := UInt8.toNat_inj.1 (by have : ((37 : UInt8).toNat) = 37 := rfl; omega)
                        rw [h2]; rfl)
        clear h37
        have HPL := Lib.hid (fun w => spec_l3Plain l[k] w)
        by_cases hp : plainByte l[k] = true
        · have HE : Hid (specA acc (l.drop k) = specA (acc ++ [l[k]]) (l.drop (k + 1))) := by show _ = _; rw [hD, specA_plain _ _ hp]
          rw [hp] at HPL
          clear hD hb37 hp
          go_wp2_with (first | (go_at_call 48; refine (HPL.out _).mono ?_; rintro e w' ⟨rfl, rfl⟩) | (at_builtin; refine app_byte rfl _ _ rfl w.heap.size (some ⟨g, 0, none⟩) c _ acc l[k] _ rfl rfl rfl (ownB_keep HO.out (Below.refl _ _)) _ rfl ?_ ?_ ?_ ?_; (focus (first | rfl | simp)); (focus omega); (focus omega); intro g2 c2 w3 ho3 hg3))
          go_roundw
          case rel => exact ⟨k + 1, g2, c2, acc ++ [l[k]], by omega, by go_num, by simp; omega, by rw [← HE.out]; exact HRC.out, by simp, ho3, HB.out.trans (grown_to_below hg3 (by omega) (ownB_row HO.out))⟩
          case measure => simp [intOf]; omega
        · have hp' : plainByte l[k] = false := by simpa using hp
          have HE : Hid (specA acc (l.drop k) = none) := by show _ = _; rw [hD, specA_other _ _ hp' hb37]
          have HRN : Hid (unesc l = none) := by show _ = _; rw [← HRC.out, HE.out]
          rw [hp'] at HPL
          clear hD hb37 hp hp'
          go_wp2_with (go_at_call 48; refine (HPL.out _).mono ?_; rintro e w' ⟨rfl, rfl⟩)
          go_ret2
          rw [HRN.out]
          exact ⟨rfl, HB.out⟩
    · have hD : l.drop k = [] := drop_nil l k (by omega)
      have HE : Hid (unesc l = some acc) := by show _ = _; rw [← HRC.out, hD]; simp [specA]
      have hcv := bytes_text HO.out rfl
      clear hD
      go_wp2
      go_ret2
      rw [HE.out]
      exact ⟨rfl, HB.out⟩
end Go.Proofs.YtjlaelkdmgcniaaDoor
