import Derived.Test.YtmboieajfdkllaaGreatU34
import Derived.Test.YtmboieajfdkllaaGreatU35
import Derived.Test.YtmboieajfdkllaaGreatU37
import Derived.Test.YtmboieajfdkllaaGreatU32
set_option maxHeartbeats 16000000
set_option maxRecDepth 100000
open Go.Proofs.Tryz
namespace Go.Proofs.YtmboieajfdkllaaGreat
open Go.RowKit Go.Deep
def RnS (w : World) (r : Dk × List Tx) (e : Ending) (w' : World) : Prop := ∃ v A c, e = .returned (.tuple #[v, .slice A (List.length r.2) c]) /\ InD w' (All w') r.1 v /\ OwnS w' w.heap.size A c r.2 /\ Below w.heap.size w w'
def RnI (w : World) (r : Dk × List Tx) (e : Ending) (w' : World) : Prop := ∃ Ap cp rs Ad cd fs A c B E, e = .returned (.tuple #[dkV Ap (List.length rs) cp Ad (List.length fs) cd, .slice A (List.length r.2) c]) /\ w.heap.size <= B /\ DOE w' B E Ap cp rs Ad cd fs r.1 /\ OwnS w' w.heap.size A c r.2 /\ (∀ g, Value.ownBlock (.slice A (List.length r.2) c) = some g -> g < B \/ E <= g) /\ Below w.heap.size w w'
namespace Dk
def runOf (d : Dk) (ls : List Tx) : Dk × List Tx := if valid d = true /\ ls.length <= 20 then run d ls else (zero, [])
theorem runOf_size (d : Dk) (ls : List Tx) : size (runOf d ls).1 <= 26000 := by
 unfold runOf
 split
 ·next h => exact valid_size (run_valid h.1 ls)
 rw [zero_size]; omega
theorem runOf_len (d : Dk) (ls : List Tx) : (runOf d ls).2.length <= 20 := by
 unfold runOf
 split
 ·next h => rw [run_len]; exact h.2
 simp
end Dk
theorem VV (d : Dk) (u : Value) (ls : List Tx) (A : Option Addr) (c : Nat) (w : World) (hu : InD w (All w) d u) (hsz : Dk.size d <= 1048576) (hls : ∀ x ∈ ls, x.length <= 1048576) (hrd : Rd w w.heap.size A (qS ls)) (hll : ls.length <= 9223372036854775807) (hm : Hm w) :
  Calls Tryz.prog 18 #[u, .slice A ls.length c] w (RnI w (Dk.runOf d ls)) := by
 obtain ⟨ps, xs⟩ := d
 have HU := qb hu
 obtain ⟨Ap, cp, Ad, cd, rfl, hp, hcp, hf, hcd⟩ := hu
 dsimp only at hp hcp hf hcd HU ⊢
 obtain ⟨hB0, hX0, hY0⟩ := qE w (qx Ap ps.length cp Ad xs.length cd) #[.slice none 0 0, .slice none 0 0] 30 30
 have hs0 : ((w.alloc (.cells (qx Ap ps.length cp Ad xs.length cd) 30)).alloc (.cells #[.slice none 0 0, .slice none 0 0] 30)).heap.size = w.heap.size + 2 := by simp
 have HB0 := qb hB0
 have HX0 := qb hX0
 have HY0 := qb hY0
 have hs01 := Nat.le_of_eq hs0
 have hs02 := Nat.le_of_eq hs0.symm
 have HRO : Hid (Dk.runOf ⟨ps, xs⟩ ls = if Dk.valid ⟨ps, xs⟩ = true /\ ls.length <= 20 then Dk.run ⟨ps, xs⟩ ls else (Dk.zero, [])) := rfl
 have HVS := qb (Dk.valid_size (d := ⟨ps, xs⟩))
 have HLS := qb hls
 have HRD := qb hrd
 have HDV := qb (VD ⟨ps, xs⟩ _ _ (HU.out.now hB0) hsz (hm.below hB0))
 have HCP := qb (fun w2 (hb : Below w.heap.size w w2) => XR ⟨ps, xs⟩ _ w2 (HU.out.now hb) hsz)
 have HM := qb (fun w2 (hb : Below w.heap.size w w2) => hm.below hb)
 clear hB0 hX0 hY0 hs0 hm
 go_enter func18, ntmps18
 go_upto_region 1 with fail
 generalize (w.alloc (.cells (qx Ap ps.length cp Ad xs.length cd) 30)).alloc (.cells #[.slice none 0 0, .slice none 0 0] 30) = w0 at *
 obtain ⟨x0, x1, -⟩ := qr HX0.out
 obtain ⟨y0, y1, y2, y3⟩ := qr HY0.out
 go_wp2_with fail
 refine HDV.out.mono ?_
 rintro e w1 ⟨rfl, hb⟩
 have HB1 := qb (qa3 HB0.out hb)
 have HX1 := qb (qi HX0.out hb)
 have HY1 := qb (qi HY0.out hb)
 have hz1 : w.heap.size + 2 <= w1.heap.size := by have := hb.size; omega
 clear hb x0 x1 y0 y1 y2 y3 HX0 HY0 hs01 hs02
 obtain ⟨x0, x1, x2, x3⟩ := qr HX1.out
 obtain ⟨y0, y1, y2, y3⟩ := qr HY1.out
 by_cases hok : Dk.valid ⟨ps, xs⟩ = true /\ ls.length <= 20
 case neg =>
  rw [if_neg hok] at HRO
  cases hv : Dk.valid ⟨ps, xs⟩
  ·clear hok
   go_wp2
   refine bodyPost_ret (v := .tuple #[dkV none 0 0 none 0 0, .slice none 0 0]) (by simp [results, results18, go_sem, *]) rfl ⟨none, 0, [], none, 0, [], none, 0, w.heap.size, w.heap.size, by rw [HRO.out]; rfl, Nat.le_refl _, ?_, ?_, ?_, ?_⟩
   ·rw [HRO.out]
    exact ⟨[], PLo.nil _ _, FLo.nil _ _, fun b hb => (by cases hb), fun b hb => (by simp [fblk, Value.ownBlock] at hb)⟩
   ·rw [HRO.out]; exact ⟨rfl, .inl ⟨rfl, rfl⟩⟩
   ·exact fun g hg => by cases hg
   exact (HB1.out.setCell (p := ⟨w.heap.size + 1, 0, none⟩) (by show w.heap.size <= w.heap.size + 1; omega) _).setCell (p := ⟨w.heap.size + 1, 1, none⟩) (by show w.heap.size <= w.heap.size + 1; omega) _
  have hl20 : ¬ ls.length <= 20 := fun h => hok ⟨hv, h⟩
  have hl20' : decide ((20 : Int) < (ls.length : Int)) = true := by simp; omega
  clear hok
  go_wp2
  refine bodyPost_ret (v := .tuple #[dkV none 0 0 none 0 0, .slice none 0 0]) (by simp [results, results18, go_sem, *]) rfl ⟨none, 0, [], none, 0, [], none, 0, w.heap.size, w.heap.size, by rw [HRO.out]; rfl, Nat.le_refl _, ?_, ?_, ?_, ?_⟩
  ·rw [HRO.out]
   exact ⟨[], PLo.nil _ _, FLo.nil _ _, fun b hb => (by cases hb), fun b hb => (by simp [fblk, Value.ownBlock] at hb)⟩
  ·rw [HRO.out]; exact ⟨rfl, .inl ⟨rfl, rfl⟩⟩
  ·exact fun g hg => by cases hg
  exact (HB1.out.setCell (p := ⟨w.heap.size + 1, 0, none⟩) (by show w.heap.size <= w.heap.size + 1; omega) _).setCell (p := ⟨w.heap.size + 1, 1, none⟩) (by show w.heap.size <= w.heap.size + 1; omega) _
 obtain ⟨hv, hl20⟩ := hok
 rw [if_pos ⟨hv, hl20⟩] at HRO
 have hl20' : decide ((20 : Int) < (ls.length : Int)) = false := by simp; omega
 have HV := qb hv
 rw [hv]
 clear hv
 have HE1 := qb (xF w1 (w.heap.size + 2) hz1)
 have hBE := (Below.refl w1.heap.size w1).alloc (Nat.le_refl _) (.cells #[] 9)
 have HBE := qb (qa3 HB1.out hBE)
 have HXE := qb (qi HX1.out hBE)
 have HYE := qb (qi HY1.out hBE)
 have hze : w1.heap.size + 1 <= (w1.alloc (.cells #[] 9)).heap.size := by simp
 clear hBE
 obtain ⟨e0, e1, e2, e3⟩ := qr HXE.out
 go_wp2_with fail
 generalize w1.alloc (.cells #[] 9) = wE at *
 refine (HCP.out wE HBE.out).mono ?_
 rintro e w2 ⟨A5, c5, rs5, A6, c6, fs6, rfl, hp5, hf5, hb5⟩
 have hd5 : DOw w2 wE.heap.size A5 c5 rs5 A6 c6 fs6 ⟨ps, xs⟩ := ⟨hp5, hf5⟩
 have HD5 := qb hd5.toE
 have HB5 := qb (qa3 HBE.out hb5)
 have HX5 := qb (qi HXE.out hb5)
 have HY5 := qb (qi HYE.out hb5)
 have HE5 := qb (jy HE1.out hb5)
 have hz5 : wE.heap.size <= w2.heap.size := hb5.size
 clear hp5 hf5 hb5 hd5 x0 x1 x2 x3 y0 y1 y2 y3 e0 e1 e2 e3
 obtain ⟨x0, x1, x2, x3⟩ := qr HX5.out
 go_upto_region 5 with fail
 have HX6 := qb (VQ HX5.out (u := .slice A5 rs5.length c5) (v := .slice A6 fs6.length c6))
 have hk6 : ∀ j, w.heap.size + 1 <= j -> ((w2.setCell ⟨w.heap.size, 0, none⟩ (.slice A5 rs5.length c5)).setCell ⟨w.heap.size, 1, none⟩ (.slice A6 fs6.length c6)).heap[j]? = w2.heap[j]? := fun j hj => (Below.heap_setCell _ _ _ _ (by show j ≠ w.heap.size; omega)).trans (Below.heap_setCell _ _ _ _ (by show j ≠ w.heap.size; omega))
 have HY6 := qb ((hk6 (w.heap.size + 1) (Nat.le_refl _)).trans HY5.out)
 have HD6 := qb (HD5.out.at (fun j h1 _ _ => hk6 j (by omega)))
 have HE6 := qb (zt HE5.out (fun g hg => hk6 g (by have := (HE5.out.lt g hg).1; omega)))
 have HB6 := qb ((HB5.out.setCell (p := ⟨w.heap.size, 0, none⟩) (Nat.le_refl _) (.slice A5 rs5.length c5)).setCell (p := ⟨w.heap.size, 1, none⟩) (Nat.le_refl _) (.slice A6 fs6.length c6))
 have hz6 : wE.heap.size <= ((w2.setCell ⟨w.heap.size, 0, none⟩ (.slice A5 rs5.length c5)).setCell ⟨w.heap.size, 1, none⟩ (.slice A6 fs6.length c6)).heap.size := by simp [World.setCell]; omega
 clear hk6 HX5 HY5 HD5 HE5 HB5 x0 x1 x2 x3
 generalize (w2.setCell ⟨w.heap.size, 0, none⟩ (.slice A5 rs5.length c5)).setCell ⟨w.heap.size, 1, none⟩ (.slice A6 fs6.length c6) = w6 at *
 have HRV := qb (fun j => Dk.run_valid HV.out (ls.take j))
 have HRS := qb (fun j (hj : j < ls.length) => (show Dk.run ⟨ps, xs⟩ (ls.take (j + 1)) = _ by rw [zu ls j hj, Dk.run_snoc]))
 have HRL := qb (fun j (hj : j <= ls.length) => (show (Dk.run ⟨ps, xs⟩ (ls.take j)).2.length = j by rw [Dk.run_len, List.length_take]; omega))
 go_wp2
 go_loopw [6, 25] (fun o i wr => ∃ (j : Nat) (A2 : Option Addr) (c2 : Nat) (Ap : Option Addr) (cp : Nat) (rs : List Raw) (Ad : Option Addr) (cd : Nat) (fs : List FRaw) (B E : Nat), j <= ls.length /\ i = .int .i64 j /\ o = .slice A2 j c2 /\ OwnS wr (w.heap.size + 2) A2 c2 (Dk.run ⟨ps, xs⟩ (ls.take j)).2 /\ wr.heap[w.heap.size]? = some (.cells (qx Ap rs.length cp Ad fs.length cd) 30 (0, 0)) /\ wr.heap[w.heap.size + 1]? = some (.cells #[.slice none 0 0, .slice none 0 0] 30 (0, 0)) /\ DOE wr B E Ap cp rs Ad cd fs (Dk.run ⟨ps, xs⟩ (ls.take j)).1 /\ w.heap.size + 2 <= B /\ (∀ g, Value.ownBlock (.slice A2 j c2) = some g -> g < B \/ E <= g) /\ Below w.heap.size w wr) (fun _ i _ => ls.length - (intOf i).toNat)
 case atStart => exact ⟨0, _, 0, A5, c5, rs5, A6, c6, fs6, wE.heap.size, w2.heap.size, Nat.zero_le _, rfl, rfl, HE6.out, HX6.out, HY6.out, HD6.out, by omega, fun g hg => by have h9 : w1.heap.size = g := (by simpa [Value.ownBlock] using hg); omega, HB6.out⟩
 obtain ⟨j, A2, c2, Ap2, cp2, rs2, Ad2, cd2, fs2, B, E, hj, rfl, rfl, ho, hx, hy, hd, hB, hsep, hb⟩ := hrel
 have HO := qb ho
 have HX := qb hx
 have HY := qb hy
 have HD := qb hd
 have HSEP := qb hsep
 have HB := qb hb
 have hjl := HRL.out j hj
 have hjv := HRV.out j
 have hwz : w.heap.size + 2 <= wr.heap.size := lt_of_block hy
 clear ho hx hy hd hsep hb
 by_cases hlt : j < ls.length
 ·have hjs := HRS.out j hlt
  obtain ⟨b1, o1, rfl, hab, hc0⟩ := (HRD.out.below HB.out).str hlt
  have hll9 := HLS.out ls[j] (List.getElem_mem hlt)
  generalize ls[j] = s at *
  generalize Dk.run ⟨ps, xs⟩ (ls.take j) = rj at *
  obtain ⟨dj, aj⟩ := rj
  dsimp only at hjl hjv hjs HD HO
  subst hjl
  have HJS := qb hjs
  have hal : aj.length <= 20 := by omega
  have hds : Dk.size dj <= 1048576 := by have := Dk.valid_size hjv; omega
  have HLN := qb (QR dj _ s wr HD.out.ow.inD hds hll9 (HM.out wr HB.out))
  generalize Dk.line dj s = r at *
  obtain ⟨rd, ra⟩ := r
  clear hjs hjv hds hll9
  obtain ⟨x0, x1, x2, x3⟩ := qr HX.out
  go_wp2_with fail
  refine HLN.out.mono ?_
  rintro e w7 ⟨A7, c7, rs7, A8, c8, fs8, rfl, ho7, hb7⟩
  have HD7 := qb ho7.toE
  have HB7 := qb hb7
  have hz7 : wr.heap.size <= w7.heap.size := hb7.size
  clear ho7 hb7 x0 x1 x2 x3 hc0
  go_upto_region 9 with fail
  have HQ8 := qb (heap_alloc_new w7 (.cells (qx A7 rs7.length c7 A8 fs8.length c8) 30))
  have hB8 := (Below.refl w7.heap.size w7).alloc (Nat.le_refl _) (.cells (qx A7 rs7.length c7 A8 fs8.length c8) 30)
  have HB8 := qb (HB7.out.trans (hB8.mono hz7))
  have HD8 := qb (HD7.out.keep hB8)
  have hz8 : w7.heap.size + 1 <= (w7.alloc (.cells (qx A7 rs7.length c7 A8 fs8.length c8) 30)).heap.size := by simp
  clear hB8 HB7 HD7
  generalize w7.alloc (.cells (qx A7 rs7.length c7 A8 fs8.length c8) 30) = w8 at *
  have HX8 := qb (qi HX.out HB8.out)
  have HY8 := qb (qi HY.out HB8.out)
  have HO8 := qb (jy HO.out HB8.out)
  obtain ⟨x0, x1, x2, x3⟩ := qr HX8.out
  obtain ⟨q0, q1, -⟩ := qr HQ8.out
  go_upto_region 10 with fail
  have HX9 := qb (VQ HX8.out (u := .slice A7 rs7.length c7) (v := .slice A8 fs8.length c8))
  have hk9 : ∀ j, w.heap.size + 1 <= j -> ((w8.setCell ⟨w.heap.size, 0, none⟩ (.slice A7 rs7.length c7)).setCell ⟨w.heap.size, 1, none⟩ (.slice A8 fs8.length c8)).heap[j]? = w8.heap[j]? := fun j hj => (Below.heap_setCell _ _ _ _ (by show j ≠ w.heap.size; omega)).trans (Below.heap_setCell _ _ _ _ (by show j ≠ w.heap.size; omega))
  have HY9 := qb ((hk9 (w.heap.size + 1) (Nat.le_refl _)).trans HY8.out)
  have HD9 := qb (HD8.out.at (fun j h1 _ _ => hk9 j (by omega)))
  have HO9 := qb (zt HO8.out (fun g hg => hk9 g (by have := (HO8.out.lt g hg).1; omega)))
  have HB9 := qb ((((qa3 HB.out HB8.out)).setCell (p := ⟨w.heap.size, 0, none⟩) (Nat.le_refl _) (.slice A7 rs7.length c7)).setCell (p := ⟨w.heap.size, 1, none⟩) (Nat.le_refl _) (.slice A8 fs8.length c8))
  have hz9 : w7.heap.size + 1 <= ((w8.setCell ⟨w.heap.size, 0, none⟩ (.slice A7 rs7.length c7)).setCell ⟨w.heap.size, 1, none⟩ (.slice A8 fs8.length c8)).heap.size := by simp [World.setCell]; omega
  have HRB := qb (fun g (hg : Value.ownBlock (.slice A2 aj.length c2) = some g) => (HO.out.lt g hg).2)
  clear hk9 HX8 HY8 HD8 HO8 HB8 HQ8 x0 x1 x2 x3 q0 q1
  generalize (w8.setCell ⟨w.heap.size, 0, none⟩ (.slice A7 rs7.length c7)).setCell ⟨w.heap.size, 1, none⟩ (.slice A8 fs8.length c8) = w9 at *
  have hBN := (Below.refl w9.heap.size w9).alloc (Nat.le_refl _) (.cells #[sv ra] 9)
  have HBN := qb hBN
  have HRN := qb (heap_alloc_new w9 (.cells #[sv ra] 9))
  have HON := qb (jy HO9.out hBN)
  have hzn : w9.heap.size + 1 <= (w9.alloc (.cells #[sv ra] 9)).heap.size := by simp
  clear hBN
  go_wp2_with (at_builtin; refine KX rfl _ _ rfl (w.heap.size + 2) A2 c2 aj ra (by rfl) HON.out w9.heap.size (by rfl) HRN.out (by omega) (by omega) ?_; intro A3 c3 w3 ho3 hg3 hbk3; have HO3 := qb ho3; have HG3 := qb hg3; have HBK3 := qb hbk3; clear ho3 hg3 hbk3)
  have hga := jF (jg HBN.out (Value.ownBlock (.slice A2 aj.length c2))) HG3.out
  have hrow : ∀ g, Value.ownBlock (.slice A2 aj.length c2) = some g -> w.heap.size + 2 <= g := fun g hg => (HO9.out.lt g hg).1
  have HX3 := qb ((hga.block w.heap.size (by omega) (fun e => by have := hrow _ e.symm; omega)).trans HX9.out)
  have HY3 := qb ((hga.block (w.heap.size + 1) (by omega) (fun e => by have := hrow _ e.symm; omega)).trans HY9.out)
  have HD3 := qb (HD9.out.at (fun j h1 _ h3 => hga.block j h3 (fun e => by have := HRB.out _ e.symm; omega)))
  have HB3 := qb (HB9.out.trans (zo hga HB9.out.size (fun g hg => Nat.le_trans (Nat.le_add_right _ 2) (hrow g hg))))
  have HSP : Hid (∀ g, Value.ownBlock (.slice A3 (aj.length + 1) c3) = some g -> g < wr.heap.size \/ w7.heap.size <= g) := fun g hg => by
   rcases HBK3.out with e | e
   ·rw [e] at hg; exact .inl (HRB.out g hg)
   rw [e] at hg; injection hg with hg; exact .inr (by omega)
  clear hga hrow
  go_roundw
  case rel => exact ⟨aj.length + 1, A3, c3, A7, c7, rs7, A8, c8, fs8, wr.heap.size, w7.heap.size, by omega, by go_num, rfl, by rw [HJS.out]; exact HO3.out, HX3.out, HY3.out, by rw [HJS.out]; exact HD3.out, by omega, HSP.out, HB3.out⟩
  case measure => simp [intOf]; omega
 have hjx : ls.take j = ls := List.take_of_length_le (by omega)
 have HRX : Hid (Dk.runOf ⟨ps, xs⟩ ls = Dk.run ⟨ps, xs⟩ (ls.take j)) := by show _ = _; rw [HRO.out, hjx]
 clear hjx
 generalize Dk.run ⟨ps, xs⟩ (ls.take j) = rj at *
 obtain ⟨dj, aj⟩ := rj
 dsimp only at hjl hjv HD HO
 have HJL := qb hjl
 clear hjl hjv
 obtain ⟨x0, x1, -⟩ := qr HX.out
 obtain ⟨y0, y1, y2, y3⟩ := qr HY.out
 go_wp2
 have hk : ∀ (v0 v1 : Value) (i : Nat), w.heap.size + 2 <= i -> ((wr.setCell ⟨w.heap.size + 1, 0, none⟩ v0).setCell ⟨w.heap.size + 1, 1, none⟩ v1).heap[i]? = wr.heap[i]? := fun v0 v1 i hi => (Below.heap_setCell _ _ _ _ (by show i ≠ w.heap.size + 1; omega)).trans (Below.heap_setCell _ _ _ _ (by show i ≠ w.heap.size + 1; omega))
 refine bodyPost_ret (v := .tuple #[dkV Ap2 rs2.length cp2 Ad2 fs2.length cd2, .slice A2 j c2]) (by simp [results, results18, go_sem, *]) rfl ⟨Ap2, cp2, rs2, Ad2, cd2, fs2, A2, c2, B, E, by rw [HRX.out]; dsimp only; rw [HJL.out], by omega, ?_, ?_, ?_, ?_⟩
 ·rw [HRX.out]; exact HD.out.at (fun i h1 _ _ => hk _ _ i (by omega))
 ·rw [HRX.out]; exact zC (zt HO.out (fun g hg => hk _ _ g (HO.out.lt g hg).1)) (by omega)
 ·rw [HRX.out]; dsimp only; rw [HJL.out]; exact HSEP.out
 exact (HB.out.setCell (p := ⟨w.heap.size + 1, 0, none⟩) (by show w.heap.size <= w.heap.size + 1; omega) _).setCell (p := ⟨w.heap.size + 1, 1, none⟩) (by show w.heap.size <= w.heap.size + 1; omega) _
theorem VX (d : Dk) (u : Value) (ls : List Tx) (A : Option Addr) (c : Nat) (w : World) (hu : InD w (All w) d u) (hsz : Dk.size d <= 1048576) (hls : ∀ x ∈ ls, x.length <= 1048576) (hrd : Rd w w.heap.size A (qS ls)) (hll : ls.length <= 9223372036854775807) :
  Calls Tryz.prog 16 #[u, .slice A ls.length c] w (RnS w (Dk.runOf d ls)) := by
 obtain ⟨ps, xs⟩ := d
 have HU := qb hu
 obtain ⟨Ap, cp, Ad, cd, rfl, hp, hcp, hf, hcd⟩ := hu
 dsimp only at hp hcp hf hcd HU ⊢
 obtain ⟨hB0, hX0, hY0⟩ := qE w (qx Ap ps.length cp Ad xs.length cd) #[.slice none 0 0, .slice none 0 0] 30 30
 have hs0 : ((w.alloc (.cells (qx Ap ps.length cp Ad xs.length cd) 30)).alloc (.cells #[.slice none 0 0, .slice none 0 0] 30)).heap.size = w.heap.size + 2 := by simp
 have HB0 := qb hB0
 have HX0 := qb hX0
 have HY0 := qb hY0
 have hs01 := Nat.le_of_eq hs0
 have hs02 := Nat.le_of_eq hs0.symm
 have HRO : Hid (Dk.runOf ⟨ps, xs⟩ ls = if Dk.valid ⟨ps, xs⟩ = true /\ ls.length <= 20 then Dk.run ⟨ps, xs⟩ ls else (Dk.zero, [])) := rfl
 have HVS := qb (Dk.valid_size (d := ⟨ps, xs⟩))
 have HLS := qb hls
 have HRD := qb hrd
 have hBE := (Below.refl _ _).alloc (Nat.le_refl _) (.cells #[] 9) (w := (w.alloc (.cells (qx Ap ps.length cp Ad xs.length cd) 30)).alloc (.cells #[.slice none 0 0, .slice none 0 0] 30))
 have HE0 := qb (xF ((w.alloc (.cells (qx Ap ps.length cp Ad xs.length cd) 30)).alloc (.cells #[.slice none 0 0, .slice none 0 0] 30)) (w.heap.size + 2) hs02)
 have HBE := qb (qa3 hB0 hBE)
 have HXE := qb (qi hX0 hBE)
 have HYE := qb (qi hY0 hBE)
 have HDV := qb (VE ⟨ps, xs⟩ _ _ (HU.out.now HBE.out) hsz)
 have HCP := qb (fun w2 (hb : Below w.heap.size w w2) => Kf ⟨ps, xs⟩ _ w2 (HU.out.now hb) hsz)
 clear hB0 hX0 hY0 hBE HB0 HX0 HY0
 go_enter func16, ntmps16
 go_upto_region 2 with fail
 rw [hs0] at HE0
 generalize ((w.alloc (.cells (qx Ap ps.length cp Ad xs.length cd) 30)).alloc (.cells #[.slice none 0 0, .slice none 0 0] 30)).alloc (.cells #[] 9) = w0 at *
 clear hs0
 obtain ⟨x0, x1, -⟩ := qr HXE.out
 obtain ⟨y0, y1, y2, y3⟩ := qr HYE.out
 go_wp2_with fail
 refine HDV.out.mono ?_
 rintro e w1 ⟨rfl, hb⟩
 have HB1 := qb (qa3 HBE.out hb)
 have HX1 := qb (qi HXE.out hb)
 have HY1 := qb (qi HYE.out hb)
 have HE1 := qb (jy HE0.out hb)
 have hz1 : w.heap.size + 2 < w1.heap.size := (HE1.out.lt (w.heap.size + 2) (by simp [Value.ownBlock])).2
 clear hb x0 x1 y0 y1 y2 y3 HXE HYE HE0
 obtain ⟨x0, x1, -⟩ := qr HX1.out
 obtain ⟨y0, y1, y2, y3⟩ := qr HY1.out
 by_cases hok : Dk.valid ⟨ps, xs⟩ = true /\ ls.length <= 20
 case neg =>
  rw [if_neg hok] at HRO
  cases hv : Dk.valid ⟨ps, xs⟩
  ·clear hok
   go_wp2
   refine bodyPost_ret (v := .tuple #[dkV none 0 0 none 0 0, .slice (some ⟨w.heap.size + 2, 0, none⟩) 0 0]) (by simp [results, results16, go_sem, *]) rfl ⟨dkV none 0 0 none 0 0, some ⟨w.heap.size + 2, 0, none⟩, 0, by rw [HRO.out]; rfl, ?_, ?_, ?_⟩
   ·rw [HRO.out]
    exact ⟨none, 0, none, 0, rfl, fun h => absurd rfl h, Nat.le_refl _, fun h => absurd rfl h, Nat.le_refl _⟩
   ·rw [HRO.out]
    exact zC (VP (VP HE1.out ⟨w.heap.size + 1, 0, none⟩ _ (fun q hq => by have := (HE1.out.lt q hq).1; show q ≠ w.heap.size + 1; omega)) ⟨w.heap.size + 1, 1, none⟩ _ (fun q hq => by have := (HE1.out.lt q hq).1; show q ≠ w.heap.size + 1; omega)) (by omega)
   exact (HB1.out.setCell (p := ⟨w.heap.size + 1, 0, none⟩) (by show w.heap.size <= w.heap.size + 1; omega) _).setCell (p := ⟨w.heap.size + 1, 1, none⟩) (by show w.heap.size <= w.heap.size + 1; omega) _
  have hl20 : ¬ ls.length <= 20 := fun h => hok ⟨hv, h⟩
  have hl20' : decide ((20 : Int) < (ls.length : Int)) = true := by simp; omega
  clear hok
  go_wp2
  refine bodyPost_ret (v := .tuple #[dkV none 0 0 none 0 0, .slice (some ⟨w.heap.size + 2, 0, none⟩) 0 0]) (by simp [results, results16, go_sem, *]) rfl ⟨dkV none 0 0 none 0 0, some ⟨w.heap.size + 2, 0, none⟩, 0, by rw [HRO.out]; rfl, ?_, ?_, ?_⟩
  ·rw [HRO.out]
   exact ⟨none, 0, none, 0, rfl, fun h => absurd rfl h, Nat.le_refl _, fun h => absurd rfl h, Nat.le_refl _⟩
  ·rw [HRO.out]
   exact zC (VP (VP HE1.out ⟨w.heap.size + 1, 0, none⟩ _ (fun q hq => by have := (HE1.out.lt q hq).1; show q ≠ w.heap.size + 1; omega)) ⟨w.heap.size + 1, 1, none⟩ _ (fun q hq => by have := (HE1.out.lt q hq).1; show q ≠ w.heap.size + 1; omega)) (by omega)
  exact (HB1.out.setCell (p := ⟨w.heap.size + 1, 0, none⟩) (by show w.heap.size <= w.heap.size + 1; omega) _).setCell (p := ⟨w.heap.size + 1, 1, none⟩) (by show w.heap.size <= w.heap.size + 1; omega) _
 obtain ⟨hv, hl20⟩ := hok
 rw [if_pos ⟨hv, hl20⟩] at HRO
 have hl20' : decide ((20 : Int) < (ls.length : Int)) = false := by simp; omega
 have HV := qb hv
 rw [hv]
 clear hv
 go_wp2_with fail
 refine (HCP.out w1 HB1.out).mono ?_
 rintro e w2 ⟨A5, c5, rs5, A6, c6, fs6, rfl, hp5, hf5, hb5⟩
 have hd5 : DOw w2 w1.heap.size A5 c5 rs5 A6 c6 fs6 ⟨ps, xs⟩ := ⟨hp5, hf5⟩
 have HI5 := qb (hd5.inR (Nat.le_refl _))
 have HB5 := qb (qa3 HB1.out hb5)
 have HY5 := qb (qi HY1.out hb5)
 have HE5 := qb (jy HE1.out hb5)
 have hz5 : w1.heap.size <= w2.heap.size := hb5.size
 clear hp5 hf5 hb5 hd5 x0 x1 y0 y1 y2 y3
 go_upto_region 5 with fail
 have HQ6 := qb (heap_alloc_new w2 (.cells (qx A5 rs5.length c5 A6 fs6.length c6) 30))
 have hB6 := (Below.refl w2.heap.size w2).alloc (Nat.le_refl _) (.cells (qx A5 rs5.length c5 A6 fs6.length c6) 30)
 have HB6 := qb (qa3 HB5.out hB6)
 have HY6 := qb (qi HY5.out hB6)
 have HE6 := qb (jy HE5.out hB6)
 have HI6 := qb (InD.keep (S' := Rg w1.heap.size w2) (fun p hp => hB6.cell hp.2) (fun _ h => h) _ _ HI5.out)
 have hz6 : w2.heap.size + 1 <= (w2.alloc (.cells (qx A5 rs5.length c5 A6 fs6.length c6) 30)).heap.size := by simp
 clear hB6 HY5 HI5 HE5 HB5
 generalize w2.alloc (.cells (qx A5 rs5.length c5 A6 fs6.length c6) 30) = w6 at *
 have HRV := qb (fun j => Dk.run_valid HV.out (ls.take j))
 have HRS := qb (fun j (hj : j < ls.length) => (show Dk.run ⟨ps, xs⟩ (ls.take (j + 1)) = _ by rw [zu ls j hj, Dk.run_snoc]))
 have HRL := qb (fun j (hj : j <= ls.length) => (show (Dk.run ⟨ps, xs⟩ (ls.take j)).2.length = j by rw [Dk.run_len, List.length_take]; omega))
 go_wp2
 go_loopw [6, 8] (fun o i wr => ∃ (j : Nat) (A2 : Option Addr) (c2 : Nat) (v0 v1 : Value) (S : Nat -> Prop), j <= ls.length /\ i = .int .i64 j /\ o = .slice A2 j c2 /\ OwnS wr (w.heap.size + 2) A2 c2 (Dk.run ⟨ps, xs⟩ (ls.take j)).2 /\ wr.heap[w2.heap.size]? = some (.cells #[v0, v1] 30 (0, 0)) /\ wr.heap[w.heap.size + 1]? = some (.cells #[.slice none 0 0, .slice none 0 0] 30 (0, 0)) /\ InD wr S (Dk.run ⟨ps, xs⟩ (ls.take j)).1 (.agg #[v0, v1]) /\ (∀ k, S k -> w.heap.size + 2 <= k /\ k < wr.heap.size /\ k ≠ w2.heap.size) /\ (∀ g, Value.ownBlock (.slice A2 j c2) = some g -> ¬ S g /\ g ≠ w2.heap.size) /\ Below w.heap.size w wr) (fun _ i _ => ls.length - (intOf i).toNat)
 case atStart => exact ⟨0, _, 0, _, _, Rg w1.heap.size w2, Nat.zero_le _, rfl, rfl, HE6.out, HQ6.out, HY6.out, HI6.out, fun k hk => ⟨by have := hk.1; omega, by have := hk.2; omega, by have := hk.2; omega⟩, fun g hg => by have h9 : w.heap.size + 2 = g := (by simpa [Value.ownBlock] using hg); subst h9; exact ⟨fun hk => by have := hk.1; omega, by omega⟩, HB6.out⟩
 obtain ⟨j, A2, c2, v0, v1, S, hj, rfl, rfl, ho, hx, hy, hd, hS, hsep, hb⟩ := hrel
 have HO := qb ho
 have HX := qb hx
 have HY := qb hy
 have HD := qb hd
 have HS := qb hS
 have HSEP := qb hsep
 have HB := qb hb
 have hjl := HRL.out j hj
 have hjv := HRV.out j
 have hwz : w2.heap.size < wr.heap.size := lt_of_block hx
 clear ho hx hy hd hS hsep hb
 obtain ⟨z0, z1, z2, z3⟩ := qr HX.out
 by_cases hlt : j < ls.length
 ·have hjs := HRS.out j hlt
  obtain ⟨b1, o1, rfl, hab, hc0⟩ := (HRD.out.below HB.out).str hlt
  have hll9 := HLS.out ls[j] (List.getElem_mem hlt)
  generalize ls[j] = s at *
  generalize Dk.run ⟨ps, xs⟩ (ls.take j) = rj at *
  obtain ⟨dj, aj⟩ := rj
  dsimp only at hjl hjv hjs HD HO
  subst hjl
  have HJS := qb hjs
  have hal : aj.length <= 20 := by omega
  have hds : Dk.size dj <= 1048576 := by have := Dk.valid_size hjv; omega
  have HLN := qb (fun w9 (hb : Below wr.heap.size wr w9) => Xv dj (.agg #[v0, v1]) s w9 (InD.keep (fun p hp => hb.cell (HS.out _ hp).2.1) (fun k hk => Nat.lt_of_lt_of_le (HS.out k hk).2.1 hb.size) _ _ HD.out) hds hll9)
  generalize Dk.line dj s = r at *
  obtain ⟨rd, ra⟩ := r
  clear hjs hjv hds hll9
  go_upto_region 8 with fail
  have hBa := (Below.refl wr.heap.size wr).alloc (Nat.le_refl _) (.cells #[.slice none 0 0, .slice none 0 0] 30)
  obtain ⟨z4, z5, -⟩ := qr (qi HX.out hBa)
  have hc1 := (hBa.cell (p := ⟨b1, o1 + aj.length, none⟩) (Nat.lt_of_lt_of_le hab HB.out.size)).trans hc0
  have HBa := qb hBa
  clear hBa
  go_cut [9, 10] from 24 to 43 (fun p a wx => ∃ (b : Nat) (u0 u1 : Value), p = .pointer (some ⟨b, 0, none⟩) /\ a = sv ra /\ wr.heap.size <= b /\ wx.heap[b]? = some (.cells #[u0, u1] 30 (0, 0)) /\ InD wx (fun k => wr.heap.size <= k /\ k < wx.heap.size /\ k ≠ b) rd (.agg #[u0, u1]) /\ Below wr.heap.size wr wx)
  case first =>
   go_region_with (go_at_call 9; refine (HLN.out _ (by first | exact (Below.refl _ _).drew | exact HBa.out.drew | exact (Below.refl _ _).drew.alloc (Nat.le_refl _) _)).mono ?_; rintro e w8 ⟨v8, rfl, hin8, hb8⟩; obtain ⟨A8, c8, B8, d8, rfl, h8⟩ := hin8; (try (have hq8 := (hb8.block wr.heap.size (by simp)).trans (heap_alloc_new wr (.cells #[.slice none 0 0, .slice none 0 0] 30)); obtain ⟨e0, e1, e2, e3⟩ := qr hq8)); have HH8 := qb h8; have HBB8 := qb hb8; clear h8 hb8)
   all_goals
    go_wp2_with fail
    go_meet
   all_goals first
    | (case rel =>
      refine ⟨wr.heap.size, _, _, rfl, rfl, Nat.le_refl _, VQ hq8, InD.keep (w := w8) (fun p hp => ?_) (fun k hk => ?_) _ _ ⟨A8, c8, B8, d8, rfl, HH8.out⟩, ?_⟩
      ·have h1 := hp.1
       simp at h1
       exact (World.cell?_of_block (Below.heap_setCell _ _ _ _ (by show p.block ≠ wr.heap.size; omega))).trans (World.cell?_of_block (Below.heap_setCell _ _ _ _ (by show p.block ≠ wr.heap.size; omega)))
      ·have h1 := hk.1
       have h2 := hk.2
       simp at h1
       exact ⟨by omega, by simpa [World.setCell] using h2, by omega⟩
      ·exact ((HBa.out.drew.trans (HBB8.out.mono (by simp))).setCell (Nat.le_refl _) _).setCell (Nat.le_refl _) _)
    | (case rel =>
      refine ⟨w8.heap.size, _, _, rfl, rfl, (by have h1 := HBB8.out.size; simpa using h1), heap_alloc_new w8 _, InD.keep (w := w8) (fun p hp => ?_) (fun k hk => ?_) _ _ ⟨A8, c8, B8, d8, rfl, HH8.out⟩, ?_⟩
      ·exact World.cell?_of_block (heap_alloc_old w8 _ hp.2)
      ·have h1 := hk.1
       have h2 := hk.2
       simp at h1
       exact ⟨by omega, by simp; omega, by omega⟩
      ·exact ((Below.refl _ _).drew.trans HBB8.out).alloc (by have h1 := HBB8.out.size; simpa using h1) _)
  obtain ⟨b9, u0, u1, rfl, rfl, hb9, hq9, hi9, hb9w⟩ := hcut
  rename World => w9
  obtain ⟨A4, c4, B4, d4, e4, hi1, hi2, hi3, hi4⟩ := hi9
  injection e4 with e4
  simp only [Array.mk.injEq, List.cons.injEq, and_true] at e4
  obtain ⟨rfl, rfl⟩ := e4
  have HI9 : Hid (InD w9 (fun k => wr.heap.size <= k /\ k < w9.heap.size /\ k ≠ b9) rd (dkV A4 rd.parts.length c4 B4 rd.data.length d4)) := ⟨A4, c4, B4, d4, rfl, hi1, hi2, hi3, hi4⟩
  have HB9 := qb hb9w
  have HX9 := qb (qi HX.out hb9w)
  have HY9 := qb (qi HY.out hb9w)
  have HO9 := qb (jy HO.out hb9w)
  have HRB := qb (fun g (hg : Value.ownBlock (.slice A2 aj.length c2) = some g) => (HO.out.lt g hg).2)
  have hz9 : wr.heap.size <= w9.heap.size := hb9w.size
  obtain ⟨q0, q1, -⟩ := qr hq9
  clear hi1 hi2 hi3 hi4 hb9w hq9 z0 z1 z2 z3 z4 z5 hc0 hc1 HLN HBa
  obtain ⟨z0, z1, z2, z3⟩ := qr HX9.out
  go_upto_region 10 with fail
  have HXA := qb (VQ HX9.out (u := .slice A4 rd.parts.length c4) (v := .slice B4 rd.data.length d4))
  have hkA : ∀ i, i ≠ w2.heap.size -> ((w9.setCell ⟨w2.heap.size, 0, none⟩ (.slice A4 rd.parts.length c4)).setCell ⟨w2.heap.size, 1, none⟩ (.slice B4 rd.data.length d4)).heap[i]? = w9.heap[i]? := fun i hi => (Below.heap_setCell _ _ _ _ (by show i ≠ w2.heap.size; exact hi)).trans (Below.heap_setCell _ _ _ _ (by show i ≠ w2.heap.size; exact hi))
  have HYA := qb ((hkA (w.heap.size + 1) (by omega)).trans HY9.out)
  have HOA := qb (zt HO9.out (fun g hg => hkA g (HSEP.out g hg).2))
  have HIA := qb (InD.keep (w' := (w9.setCell ⟨w2.heap.size, 0, none⟩ (.slice A4 rd.parts.length c4)).setCell ⟨w2.heap.size, 1, none⟩ (.slice B4 rd.data.length d4)) (S' := fun k => wr.heap.size <= k /\ k < w9.heap.size /\ k ≠ b9) (fun p hp => World.cell?_of_block (hkA _ (by have := hp.1; omega))) (fun _ h => h) _ _ HI9.out)
  have HBA := qb (((qa3 HB.out HB9.out).setCell (p := ⟨w2.heap.size, 0, none⟩) (by show w.heap.size <= w2.heap.size; omega) (.slice A4 rd.parts.length c4)).setCell (p := ⟨w2.heap.size, 1, none⟩) (by show w.heap.size <= w2.heap.size; omega) (.slice B4 rd.data.length d4))
  have hzA : w9.heap.size <= ((w9.setCell ⟨w2.heap.size, 0, none⟩ (.slice A4 rd.parts.length c4)).setCell ⟨w2.heap.size, 1, none⟩ (.slice B4 rd.data.length d4)).heap.size := by simp [World.setCell]
  clear hkA HX9 HY9 HO9 HI9 HB9 q0 q1 z0 z1 z2 z3
  generalize (w9.setCell ⟨w2.heap.size, 0, none⟩ (.slice A4 rd.parts.length c4)).setCell ⟨w2.heap.size, 1, none⟩ (.slice B4 rd.data.length d4) = wA at *
  have hBN := (Below.refl wA.heap.size wA).alloc (Nat.le_refl _) (.cells #[sv ra] 9)
  have HBN := qb hBN
  have HRN := qb (heap_alloc_new wA (.cells #[sv ra] 9))
  have HON := qb (jy HOA.out hBN)
  have hzn : wA.heap.size + 1 <= (wA.alloc (.cells #[sv ra] 9)).heap.size := by simp
  clear hBN
  go_wp2_with (at_builtin; refine KX rfl _ _ rfl (w.heap.size + 2) A2 c2 aj ra (by rfl) HON.out wA.heap.size (by rfl) HRN.out (by omega) (by omega) ?_; intro A3 c3 w3 ho3 hg3 hbk3; have HO3 := qb ho3; have HG3 := qb hg3; have HBK3 := qb hbk3; clear ho3 hg3 hbk3)
  have hga := jF (jg HBN.out (Value.ownBlock (.slice A2 aj.length c2))) HG3.out
  have hrow : ∀ g, Value.ownBlock (.slice A2 aj.length c2) = some g -> w.heap.size + 2 <= g := fun g hg => (HOA.out.lt g hg).1
  have HX3 := qb ((hga.block w2.heap.size (by omega) (fun e => (HSEP.out _ e.symm).2 rfl)).trans HXA.out)
  have HY3 := qb ((hga.block (w.heap.size + 1) (by omega) (fun e => by have := hrow _ e.symm; omega)).trans HYA.out)
  have HI3 := qb (InD.keep (w' := w3) (S' := fun k => wr.heap.size <= k /\ k < w9.heap.size /\ k ≠ b9) (fun p hp => World.cell?_of_block (hga.block _ (by have := hp.2.1; omega) (fun e => by have h1 := HRB.out _ e.symm; have h2 := hp.1; omega))) (fun _ h => h) _ _ HIA.out)
  have hg9 : wA.heap.size <= w3.heap.size := hga.size
  have HB3 := qb (HBA.out.trans (zo hga HBA.out.size (fun g hg => Nat.le_trans (Nat.le_add_right _ 2) (hrow g hg))))
  have HSP : Hid (∀ g, Value.ownBlock (.slice A3 (aj.length + 1) c3) = some g -> ¬ (wr.heap.size <= g /\ g < w9.heap.size /\ g ≠ b9) /\ g ≠ w2.heap.size) := fun g hg => by
   rcases HBK3.out with e | e
   ·rw [e] at hg; have h1 := HRB.out g hg; exact ⟨fun h => by have := h.1; omega, (HSEP.out g hg).2⟩
   rw [e] at hg; injection hg with hg; exact ⟨fun h => by have := h.2.1; omega, by omega⟩
  clear hga hrow
  go_roundw
  case rel => exact ⟨aj.length + 1, A3, c3, _, _, fun k => wr.heap.size <= k /\ k < w9.heap.size /\ k ≠ b9, by omega, by go_num, rfl, by rw [HJS.out]; exact HO3.out, HX3.out, HY3.out, by rw [HJS.out]; exact HI3.out, fun k hk => ⟨by have := hk.1; omega, by have := hk.2.1; omega, by have := hk.1; omega⟩, HSP.out, HB3.out⟩
  case measure => simp [intOf]; omega
 have hjx : ls.take j = ls := List.take_of_length_le (by omega)
 have HRX : Hid (Dk.runOf ⟨ps, xs⟩ ls = Dk.run ⟨ps, xs⟩ (ls.take j)) := by show _ = _; rw [HRO.out, hjx]
 clear hjx
 generalize Dk.run ⟨ps, xs⟩ (ls.take j) = rj at *
 obtain ⟨dj, aj⟩ := rj
 dsimp only at hjl hjv HD HO
 have HJL := qb hjl
 clear hjl hjv
 obtain ⟨A4, c4, B4, d4, e4, k1, k2, k3, k4⟩ := HD.out
 injection e4 with e4
 simp only [Array.mk.injEq, List.cons.injEq, and_true] at e4
 obtain ⟨rfl, rfl⟩ := e4
 have HK := qb (And.intro k1 (And.intro k2 (And.intro k3 k4)))
 clear k1 k2 k3 k4
 obtain ⟨y0, y1, y2, y3⟩ := qr HY.out
 go_wp2
 have hk : ∀ (v0 v1 : Value) (i : Nat), w.heap.size + 2 <= i -> ((wr.setCell ⟨w.heap.size + 1, 0, none⟩ v0).setCell ⟨w.heap.size + 1, 1, none⟩ v1).heap[i]? = wr.heap[i]? := fun v0 v1 i hi => (Below.heap_setCell _ _ _ _ (by show i ≠ w.heap.size + 1; omega)).trans (Below.heap_setCell _ _ _ _ (by show i ≠ w.heap.size + 1; omega))
 refine bodyPost_ret (v := .tuple #[dkV A4 dj.parts.length c4 B4 dj.data.length d4, .slice A2 j c2]) (by simp [results, results16, go_sem, *]) rfl ⟨dkV A4 dj.parts.length c4 B4 dj.data.length d4, A2, c2, by rw [HRX.out]; dsimp only; rw [HJL.out], ?_, ?_, ?_⟩
 ·rw [HRX.out]
  exact InD.keep (w := wr) (fun p hp => World.cell?_of_block (hk _ _ _ (HS.out _ hp).1)) (fun k hk9 => by have := (HS.out k hk9).2.1; simp [All, World.setCell]; omega) _ _ ⟨A4, c4, B4, d4, rfl, HK.out.1, HK.out.2.1, HK.out.2.2.1, HK.out.2.2.2⟩
 ·rw [HRX.out]; exact zC (zt HO.out (fun g hg => hk _ _ g (HO.out.lt g hg).1)) (by omega)
 exact (HB.out.setCell (p := ⟨w.heap.size + 1, 0, none⟩) (by show w.heap.size <= w.heap.size + 1; omega) _).setCell (p := ⟨w.heap.size + 1, 1, none⟩) (by show w.heap.size <= w.heap.size + 1; omega) _
end Go.Proofs.YtmboieajfdkllaaGreat
