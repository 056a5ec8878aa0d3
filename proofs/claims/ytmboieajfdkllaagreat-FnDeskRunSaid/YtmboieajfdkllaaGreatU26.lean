import Derived.Test.YtmboieajfdkllaaGreatU22
import Derived.Test.YtmboieajfdkllaaGreatU25
set_option maxHeartbeats 4000000
set_option maxRecDepth 100000
open Go.Proofs.Tryz
namespace Go.Proofs.YtmboieajfdkllaaGreat
open Go.RowKit Go.Deep
theorem Zm {E : Pt.EscF} (hE : Pt.Short E) {xs : List Pt} (h : Pt.valid xs = true) (hs : xs.length + Pt.sizes xs <= 1048576) (fs : List Fd) (s : St) (hg : Fd.Goods fs) : (Pt.fl E xs fs s).1.length <= 200000000000 := by
 have h1 := Pt.fl_len hE (zK h) fs s hg
 have h2 := Pt.manys_size (xs := xs) (fun x _ => Pt.many_size x)
 have h3 : 800 * Pt.manys xs * 5 ^ 3 <= 800 * 1048576 * 125 := Nat.mul_le_mul (Nat.mul_le_mul_left _ (by omega)) (by decide)
 omega
theorem RdF.toSb {w w' : World} {A : Option Addr} {fs : List Fd} {B b : Nat} (h : RdF w (All w) A fs) (hb : Below w.heap.size w w') (hB : w.heap.size <= B) : RdF w' (Sb B b w') A fs :=
 h.keep (fun _ hp => hb.cell hp) (fun _ hp => .inl ⟨Nat.lt_of_lt_of_le hp hB, Nat.lt_of_lt_of_le hp hb.size⟩)
def zQ (xs : List Pt) (fs : List Fd) : Tx := if (Pt.valid xs && Fd.valid fs) = true then Pt.fillP xs fs else []
theorem XN (xs : List Pt) (Ap : Option Addr) (cp : Nat) (fs : List Fd) (Ad : Option Addr) (cd : Nat) (w : World) (hx : RdP w (All w) Ap xs) (hs : xs.length + Pt.sizes xs <= 1048576) (hf : RdF w (All w) Ad fs) (hfs : fs.length + Fd.sizes fs <= 1048576) (hfc : fs.length <= cd) (hm : Hm w) :
  Calls Tryz.prog 44 #[.slice Ap xs.length cp, .slice Ad fs.length cd] w fun e w' => e = .returned (sv (zQ xs fs)) /\ Below w.heap.size w w' := by
 have HPV := qb (xv xs Ap cp w hx hs hm)
 have HX := qb hx
 have HF := qb hf
 have HDV := qb (fun w2 (hb : Below w.heap.size w w2) => vX fs Ad cd w2 (hf.now hb) hfc hfs)
 have HE : Hid (zQ xs fs = if (Pt.valid xs && Fd.valid fs) = true then Pt.fillP xs fs else []) := rfl
 have HVG := qb (Fd.valid_good (fs := fs))
 have HVO := qb (zK (xs := xs))
 have HSM := qb (fun (h : Pt.valid xs = true) hg => Zm Pt.short_plain h hs fs St.zero hg)
 have HEQ := qb (fun (h : Pt.valid xs = true) => Pt.fillP_eq h fs)
 clear hx hf hm
 go_enter func44, ntmps44
 go_wp2_with fail
 refine HPV.out.mono ?_
 rintro e w1 ⟨rfl, hb⟩
 have HB1 := qb hb
 clear hb
 cases hv : Pt.valid xs
 ·rw [hv, Bool.false_and, if_neg (by simp)] at HE
  go_wp2
  go_ret
  exact ⟨qM HE.out.symm, HB1.out⟩
 go_wp2_with fail
 refine (HDV.out w1 HB1.out).mono ?_
 rintro e w2 ⟨rfl, hb⟩
 have HB2 := qb (qa3 HB1.out hb)
 clear hb
 cases hdv : Fd.valid fs
 ·rw [hdv, Bool.and_false, if_neg (by simp)] at HE
  go_wp2
  go_ret
  exact ⟨qM HE.out.symm, HB2.out⟩
 rw [hv, hdv, Bool.true_and, if_pos rfl] at HE
 obtain ⟨hg, hl8⟩ := HVG.out hdv
 have hba := (Below.refl w2.heap.size w2).alloc (Nat.le_refl _) (.cells #[.pointer none, .slice none 0 0] 88)
 have HBA := qb (qa3 HB2.out hba)
 have HBF := qb (Qr w2)
 have hz : w2.heap.size < (w2.alloc (.cells #[.pointer none, .slice none 0 0] 88)).heap.size := by simp
 have hsz2 : w.heap.size <= w2.heap.size := HB2.out.size
 have HFW := qb (JO 3 w2.heap.size w2.heap.size xs false 0 [] [] false Ap cp fs Ad cd [] _ (HVO.out hv) ((HX.out.now HB2.out).keep (fun _ hp => hba.cell hp) (fun _ hp => hp)) (HF.out.toSb HBA.out hsz2) hs hg (by omega) St.fit_lit HBF.out (by omega) (by have := HSM.out hv hg; have hz0 : St.zero = ⟨0, [], [], false⟩ := rfl; rw [hz0] at this; simp only [List.length_nil]; omega))
 have HEQ2 := qb (HEQ.out hv)
 have hz0 : St.zero = ⟨0, [], [], false⟩ := rfl
 rw [hz0] at HEQ2
 clear hv hdv hg hba HSM HEQ hz0
 go_wp2_with fail
 refine HFW.out.mono ?_
 rintro e w4 ⟨rfl, hbf, hko⟩
 rw [List.nil_append, HEQ2.out] at hbf
 have HBS := qb (Qq w2.heap.size w2.heap.size _ w4 hbf (by have := hko.1.size; omega))
 have HB4 := qb (HB2.out.trans ((((Below.refl w2.heap.size w2).alloc (Nat.le_refl _) (.cells #[.pointer none, .slice none 0 0] 88)).trans hko.1).mono HB2.out.size))
 clear hbf hko
 go_wp2_with fail
 refine HBS.out.mono ?_
 rintro e w5 ⟨rfl, hb⟩
 have HB5 := qb (HB4.out.trans (hb.mono (by omega)))
 clear hb
 go_wp2
 go_ret
 exact ⟨qM HE.out.symm, HB5.out⟩
def zs (xs : List Pt) (fs : List Fd) : Tx × Bool := if (Pt.safe xs && Fd.valid fs) = true then (Pt.fillS xs fs, true) else ([], false)
theorem kX {xs : List Pt} (h : Pt.safe xs = true) : Pt.valid xs = true := by unfold Pt.safe at h; rw [Bool.and_eq_true] at h; exact h.1
theorem XO (xs : List Pt) (Ap : Option Addr) (cp : Nat) (fs : List Fd) (Ad : Option Addr) (cd : Nat) (w : World) (hx : RdP w (All w) Ap xs) (hs : xs.length + Pt.sizes xs <= 1048576) (hf : RdF w (All w) Ad fs) (hfs : fs.length + Fd.sizes fs <= 1048576) (hfc : fs.length <= cd) (hm : Hm w) :
  Calls Tryz.prog 28 #[.slice Ap xs.length cp, .slice Ad fs.length cd] w fun e w' => e = .returned (.tuple #[sv (zs xs fs).1, .bool (zs xs fs).2]) /\ Below w.heap.size w w' := by
 have HPV := qb (QJ xs Ap cp w hx hs hm)
 have HX := qb hx
 have HF := qb hf
 have HDV := qb (fun w2 (hb : Below w.heap.size w w2) => vX fs Ad cd w2 (hf.now hb) hfc hfs)
 have HE : Hid (zs xs fs = if (Pt.safe xs && Fd.valid fs) = true then (Pt.fillS xs fs, true) else ([], false)) := rfl
 have HVG := qb (Fd.valid_good (fs := fs))
 have HVO := qb (fun (h : Pt.safe xs = true) => zK (kX h))
 have HSM := qb (fun (h : Pt.safe xs = true) hg => Zm Pt.short_safe (kX h) hs fs St.zero hg)
 have HEQ := qb (fun (h : Pt.safe xs = true) => Pt.fillS_eq h fs)
 clear hx hf hm
 go_enter func28, ntmps28
 go_wp2_with fail
 refine HPV.out.mono ?_
 rintro e w1 ⟨rfl, hb⟩
 have HB1 := qb hb
 clear hb
 cases hv : Pt.safe xs
 ·rw [hv, Bool.false_and, if_neg (by simp)] at HE
  go_wp2
  go_ret2
  exact ⟨by rw [HE.out]; rfl, HB1.out⟩
 go_wp2_with fail
 refine (HDV.out w1 HB1.out).mono ?_
 rintro e w2 ⟨rfl, hb⟩
 have HB2 := qb (qa3 HB1.out hb)
 clear hb
 cases hdv : Fd.valid fs
 ·rw [hdv, Bool.and_false, if_neg (by simp)] at HE
  go_wp2
  go_ret2
  exact ⟨by rw [HE.out]; rfl, HB2.out⟩
 rw [hv, hdv, Bool.true_and, if_pos rfl] at HE
 obtain ⟨hg, hl8⟩ := HVG.out hdv
 have hba := (Below.refl w2.heap.size w2).alloc (Nat.le_refl _) (.cells #[.pointer none, .slice none 0 0] 88)
 have HBA := qb (qa3 HB2.out hba)
 have HBF := qb (Qr w2)
 have hz : w2.heap.size < (w2.alloc (.cells #[.pointer none, .slice none 0 0] 88)).heap.size := by simp
 have hsz2 : w.heap.size <= w2.heap.size := HB2.out.size
 have HFW := qb (JP 3 w2.heap.size w2.heap.size xs false 0 [] [] false Ap cp fs Ad cd [] _ (HVO.out hv) ((HX.out.now HB2.out).keep (fun _ hp => hba.cell hp) (fun _ hp => hp)) (HF.out.toSb HBA.out hsz2) hs hg (by omega) St.fit_lit HBF.out (by omega) (by have := HSM.out hv hg; have hz0 : St.zero = ⟨0, [], [], false⟩ := rfl; rw [hz0] at this; simp only [List.length_nil]; omega))
 have HEQ2 := qb (HEQ.out hv)
 have hz0 : St.zero = ⟨0, [], [], false⟩ := rfl
 rw [hz0] at HEQ2
 clear hv hdv hg hba HSM HEQ hz0
 go_wp2_with fail
 refine HFW.out.mono ?_
 rintro e w4 ⟨rfl, hbf, hko⟩
 rw [List.nil_append, HEQ2.out] at hbf
 have HBS := qb (Qq w2.heap.size w2.heap.size _ w4 hbf (by have := hko.1.size; omega))
 have HB4 := qb (HB2.out.trans ((((Below.refl w2.heap.size w2).alloc (Nat.le_refl _) (.cells #[.pointer none, .slice none 0 0] 88)).trans hko.1).mono HB2.out.size))
 clear hbf hko
 go_wp2_with fail
 refine HBS.out.mono ?_
 rintro e w5 ⟨rfl, hb⟩
 have HB5 := qb (HB4.out.trans (hb.mono (by omega)))
 clear hb
 go_wp2
 go_ret2
 exact ⟨by rw [HE.out]; rfl, HB5.out⟩
theorem XP (xs : List Pt) (Ap : Option Addr) (cp : Nat) (fs : List Fd) (Ad : Option Addr) (cd : Nat) (w : World) (hx : RdP w (All w) Ap xs) (hs : xs.length + Pt.sizes xs <= 1048576) (hc : xs.length <= cp) (hf : RdF w (All w) Ad fs) (hfs : fs.length + Fd.sizes fs <= 1048576) :
  Calls Tryz.prog 37 #[.slice Ap xs.length cp, .slice Ad fs.length cd] w fun e w' => e = .returned (sv (zQ xs fs)) /\ Below w.heap.size w w' := by
 have HPV := qb (jZ xs Ap cp w hx hs)
 have HX := qb hx
 have HF := qb hf
 have HDV := qb (fun w2 (hb : Below w.heap.size w w2) => vZ fs Ad cd w2 (hf.now hb) hfs)
 have HE : Hid (zQ xs fs = if (Pt.valid xs && Fd.valid fs) = true then Pt.fillP xs fs else []) := rfl
 have HVG := qb (Fd.valid_good (fs := fs))
 have HVO := qb (zK (xs := xs))
 clear hx hf
 go_enter func37, ntmps37
 go_wp2_with fail
 refine HPV.out.mono ?_
 rintro e w1 ⟨rfl, hb⟩
 have HB1 := qb hb
 clear hb
 cases hv : Pt.valid xs
 ·rw [hv, Bool.false_and, if_neg (by simp)] at HE
  go_wp2
  go_ret
  exact ⟨qM HE.out.symm, HB1.out⟩
 go_wp2_with fail
 refine (HDV.out w1 HB1.out).mono ?_
 rintro e w2 ⟨rfl, hb⟩
 have HB2 := qb (qa3 HB1.out hb)
 clear hb
 cases hdv : Fd.valid fs
 ·rw [hdv, Bool.and_false, if_neg (by simp)] at HE
  go_wp2
  go_ret
  exact ⟨qM HE.out.symm, HB2.out⟩
 rw [hv, hdv, Bool.true_and, if_pos rfl] at HE
 obtain ⟨hg, hl8⟩ := HVG.out hdv
 have HFW := qb (Xp 3 (by omega) xs false 0 [] [] false Ap cp fs Ad cd w2 hc (HVO.out hv) (HX.out.now HB2.out) (HF.out.now HB2.out) hs hg (by omega) St.fit_lit)
 clear hv hdv hg
 go_wp2_with fail
 refine HFW.out.mono ?_
 rintro e w4 ⟨rfl, hb⟩
 have HB4 := qb (qa3 HB2.out hb)
 clear hb
 go_wp2
 go_ret
 exact ⟨qM (by rw [HE.out]; rfl), HB4.out⟩
theorem XQ (xs : List Pt) (Ap : Option Addr) (cp : Nat) (fs : List Fd) (Ad : Option Addr) (cd : Nat) (w : World) (hx : RdP w (All w) Ap xs) (hs : xs.length + Pt.sizes xs <= 1048576) (hc : xs.length <= cp) (hf : RdF w (All w) Ad fs) (hfs : fs.length + Fd.sizes fs <= 1048576) :
  Calls Tryz.prog 36 #[.slice Ap xs.length cp, .slice Ad fs.length cd] w fun e w' => e = .returned (.tuple #[sv (zs xs fs).1, .bool (zs xs fs).2]) /\ Below w.heap.size w w' := by
 have HPV := qb (QL xs Ap cp w hx hs)
 have HX := qb hx
 have HF := qb hf
 have HDV := qb (fun w2 (hb : Below w.heap.size w w2) => vZ fs Ad cd w2 (hf.now hb) hfs)
 have HE : Hid (zs xs fs = if (Pt.safe xs && Fd.valid fs) = true then (Pt.fillS xs fs, true) else ([], false)) := rfl
 have HVG := qb (Fd.valid_good (fs := fs))
 have HVO := qb (fun (h : Pt.safe xs = true) => zK (kX h))
 clear hx hf
 go_enter func36, ntmps36
 go_wp2_with fail
 refine HPV.out.mono ?_
 rintro e w1 ⟨rfl, hb⟩
 have HB1 := qb hb
 clear hb
 cases hv : Pt.safe xs
 ·rw [hv, Bool.false_and, if_neg (by simp)] at HE
  go_wp2
  go_ret2
  exact ⟨by rw [HE.out]; rfl, HB1.out⟩
 go_wp2_with fail
 refine (HDV.out w1 HB1.out).mono ?_
 rintro e w2 ⟨rfl, hb⟩
 have HB2 := qb (qa3 HB1.out hb)
 clear hb
 cases hdv : Fd.valid fs
 ·rw [hdv, Bool.and_false, if_neg (by simp)] at HE
  go_wp2
  go_ret2
  exact ⟨by rw [HE.out]; rfl, HB2.out⟩
 rw [hv, hdv, Bool.true_and, if_pos rfl] at HE
 obtain ⟨hg, hl8⟩ := HVG.out hdv
 have HFW := qb (Xq 3 (by omega) xs false 0 [] [] false Ap cp fs Ad cd w2 hc (HVO.out hv) (HX.out.now HB2.out) (HF.out.now HB2.out) hs hg (by omega) St.fit_lit)
 clear hv hdv hg
 go_wp2_with fail
 refine HFW.out.mono ?_
 rintro e w4 ⟨rfl, hb⟩
 have HB4 := qb (qa3 HB2.out hb)
 clear hb
 go_wp2
 go_ret2
 exact ⟨by rw [HE.out]; rfl, HB4.out⟩
end Go.Proofs.YtmboieajfdkllaaGreat
