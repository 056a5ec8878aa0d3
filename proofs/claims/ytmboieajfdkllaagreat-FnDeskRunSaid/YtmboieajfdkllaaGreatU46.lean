import Derived.Test.YtmboieajfdkllaaGreatU45
open Go.Proofs.Tryz
namespace Go.Proofs.YtmboieajfdkllaaGreat
open Go.RowKit Go.Deep
structure DInv (B n1 n2 : Nat) (x : Dk) (A1 : Option Addr) (c1 : Nat) (A2 : Option Addr) (c2 : Nat) (wr : World) : Prop where
 z : wr.heap[B]? = some (.cells #[.slice none 0 0, .slice none 0 0] 30 (0, 0))
 b : wr.heap[n2]? = some (.cells (qx A1 x.parts.length c1 A2 x.data.length c2) 30 (0, 0))
 i : InD wr (fun j => n1 < j /\ j < n2) x (dkV A1 x.parts.length c1 A2 x.data.length c2)
 lt : B + 1 < n1
 le : n1 <= n2
theorem DInv.grown {B n1 n2 c1 c2 : Nat} {x : Dk} {A1 A2 : Option Addr} {wr w' : World} {row : Option Nat} (h : DInv B n1 n2 x A1 c1 A2 c2 wr) (hg : wr.grownBy w' row) (hr : ∀ k, row = some k -> k = B + 1 \/ n2 < k) : DInv B n1 n2 x A1 c1 A2 c2 w' := by
 have hz := lt_of_block h.b
 have h1 := h.lt
 have h2 := h.le
 have hne : ∀ j, j ≠ B + 1 -> j <= n2 -> some j ≠ row := fun j hj hl e => by have := hr j e.symm; omega
 exact ⟨(hg.block B (by omega) (hne B (by omega) (by omega))).trans h.z, (hg.block n2 hz (hne n2 (by omega) (Nat.le_refl _))).trans h.b, InD.keep (fun p hp => World.cell?_of_block (hg.block _ (by have := hp.2; omega) (hne _ (by have := hp.1; omega) (by have := hp.2; omega)))) (fun _ h => h) _ _ h.i, h1, h2⟩
def DrewDR (w : World) (e : Ending) (w' : World) : Prop :=
 ∃ A c A2 c2, ∃ x : Dk, ∃ As cs, ∃ xs : List Tx, e = .returned (.tuple #[dkV A x.parts.length c A2 x.data.length c2, .slice As (List.length xs) cs]) /\ InD w' (All w') x (dkV A x.parts.length c A2 x.data.length c2) /\ Dk.size x <= 30000 /\ OwnS w' w.heap.size As cs xs /\ xs.length <= 21 /\ (∀ t ∈ xs, t.length <= 500000) /\ Below w.heap.size w w'
theorem Wx {w : World} : OwnS (w.alloc (.cells (madeCells #[Value.string ⟨#[]⟩] 21) 9)) w.heap.size (some ⟨w.heap.size, 0, none⟩) 21 (List.replicate 21 []) := by
 have h := World.ownsRow_lit (e := 9) w (madeCells #[Value.string ⟨#[]⟩] 21) (size := 1) 21 (Nat.le_refl _) (by unfold maxLen; omega) ((size_madeCells _ _).trans (by omega))
 unfold OwnS
 rw [List.length_replicate]
 have e : (madeCells #[Value.string ⟨#[]⟩] 21).toList = (List.replicate 21 ([] : Tx)).map sv := by kernel_rfl
 rw [<- e]
 exact h
set_option maxRecDepth 100000 in
set_option maxHeartbeats 8000000 in
theorem WM (bs : Tx) (A : Option Addr) (c : Nat) (w : World) (hr : Rd w w.heap.size A (Yk bs)) (hc : bs.length <= c) (hm : bs.length <= 1048576) :
  Calls Tryz.prog 22 #[.slice A bs.length c] w (DrewDR w) := by
 have HA := qb ((Below.refl w.heap.size w).alloc (Nat.le_refl _) (.cells #[.slice none 0 0, .slice none 0 0] 30))
 have HR := qb (hr.below HA.out)
 have HZ := qb (heap_alloc_new w (.cells #[.slice none 0 0, .slice none 0 0] 30))
 have hs0 : (w.alloc (.cells #[.slice none 0 0, .slice none 0 0] 30)).heap.size = w.heap.size + 1 := by simp
 obtain ⟨i0, hi, hz0, hz1, hz2⟩ := info_parts Tryz.info_string
 have hmk : ∀ w : World, Sem.run Tryz.prog (Instr.makeSlice 37 (.int .i64 21) (.int .i64 21)) w = .ok (.slice (some ⟨w.heap.size, 0, none⟩) 21 21) (w.alloc (.cells (madeCells #[Value.string ⟨#[]⟩] 21) 9)) := fun w => vE (P := Tryz.prog) underlying37 hi hz0 hz1 hz2 21 (by omega) (by omega) w
 clear hr hi hz0 hz1 hz2
 go_enter func22, ntmps22
 go_upto_region 1 with fail
 generalize w.alloc (.cells #[.slice none 0 0, .slice none 0 0] 30) = w0 at *
 go_wp2_with fail
 refine (Wk bs w.heap.size A c _ HR.out HA.out.size hc hm).mono ?_
 rintro e w1 ⟨rfl, hr1, hb1⟩
 rw [hs0] at hr1 ⊢
 have HR1 := qb hr1
 have HB1 := qb (qa3 HA.out hb1)
 have HZ1 := qb ((hb1.block w.heap.size (by omega)).trans HZ.out)
 have hl1 := hr1.lt
 clear hr1 hb1
 go_wp2_with fail
 refine (Wj w.heap.size (w.heap.size + 1) 0 14 w1 HR1.out (by omega) (by omega) (by omega)).mono ?_
 rintro e w2 ⟨A1, c1, A2, c2, x, rfl, hin, hsz, hr2, hg2⟩
 have HB2 : Hid (Below w.heap.size w w2) := HB1.out.trans (zo hg2 (by omega) (fun g h => by injection h with h; omega))
 have hz2 := hg2.size
 have HZ2 := qb ((hg2.block w.heap.size (by omega) (by simp)).trans HZ1.out)
 have HI2 := qb hin
 have HR2 := qb hr2
 clear hin hr2 hg2 HR1 HZ1 HB1 HZ HR HA
 go_upto_region 3 with fail
 have hA3 := (Below.refl w2.heap.size w2).alloc (Nat.le_refl _) (.cells (qx A1 x.parts.length c1 A2 x.data.length c2) 30)
 have HI3 : Hid (DInv w.heap.size w1.heap.size w2.heap.size x A1 c1 A2 c2 (w2.alloc (.cells (qx A1 x.parts.length c1 A2 x.data.length c2) 30))) := ⟨qi HZ2.out hA3, heap_alloc_new w2 _, InD.keep (S := fun j => w1.heap.size < j /\ j < w2.heap.size) (fun p hp => hA3.cell hp.2) (fun _ h => h) _ _ HI2.out, by omega, by omega⟩
 have HR3 := qb (HR2.out.keep hA3)
 have HB3 := qb (qa3 HB2.out hA3)
 have hz3 : w2.heap.size + 1 <= (w2.alloc (.cells (qx A1 x.parts.length c1 A2 x.data.length c2) 30)).heap.size := by simp
 clear hA3 HI2 HR2 HB2 HZ2
 generalize w2.alloc (.cells (qx A1 x.parts.length c1 A2 x.data.length c2) 30) = w3 at *
 go_upto_region 4 with fail
 have hA4 := (Below.refl w3.heap.size w3).alloc (Nat.le_refl _) (.cells #[] 9)
 have HO4 := qb (xF w3 (w2.heap.size + 1) hz3)
 have HI4 := qb (HI3.out.grown (row := none) (jg hA4 _) (fun k hk => by cases hk))
 have HR4 := qb (HR3.out.keep hA4)
 have HB4 := qb (qa3 HB3.out hA4)
 have hz4 : w3.heap.size + 1 <= (w3.alloc (.cells #[] 9)).heap.size := by simp
 clear hA4 HI3 HR3 HB3
 generalize w3.alloc (.cells #[] 9) = w4 at *
 go_wp2_with fail
 refine (Yf w.heap.size (w.heap.size + 1) _ 6 w4 HR4.out (by omega) (by omega) (by omega)).mono ?_
 rintro e w5 ⟨k0, rfl, hk0, hr5, hg5⟩
 have hk0' : k0 <= 5 := by omega
 have HR5 := qb hr5
 have HI5 := qb (HI4.out.grown hg5 (fun k hk => by injection hk with hk; omega))
 have HO5 := qb (YA HO4.out (hi := w4.heap.size) (fun g hg => (HO4.out.lt g hg).2) hg5 (fun g hg => by injection hg with hg; omega))
 have HB5 := qb (HB4.out.trans (zo hg5 HB4.out.size (fun g hg => by injection hg with hg; omega)))
 clear hr5 hg5 HR4 HI4 HO4 HB4 hk0
 go_wp2
 go_loopw [6, 7] (fun o i wr => ∃ (k : Nat) (A6 : Option Addr) (c6 : Nat) (xs : List Tx) (qk : Nat), k <= 5 /\ i = .int .i64 (k : Int) /\ o = .slice A6 xs.length c6 /\ OwnS wr (w2.heap.size + 1) A6 c6 xs /\ xs.length + k <= 5 /\ (∀ t ∈ xs, t.length <= 500000) /\ Rdr wr w.heap.size (w.heap.size + 1) qk /\ qk + 7060 * k <= 60000 /\ DInv w.heap.size w1.heap.size w2.heap.size x A1 c1 A2 c2 wr /\ Below w.heap.size w wr) (fun _ i _ => (intOf i).toNat)
 case atStart => exact ⟨k0, _, 0, [], 10001, hk0', rfl, rfl, HO5.out, by simp; omega, (fun t h => by cases h), HR5.out.more (by omega), by omega, HI5.out, HB5.out⟩
 obtain ⟨k, A6, c6, xs, qk, hk, rfl, rfl, ho, hxl, hsh, hr, hqk, hi, hb⟩ := hrel
 have HO := qb ho
 have HSH := qb hsh
 have HR := qb hr
 have HI := qb hi
 have HB := qb hb
 have hgw := hr.lt
 clear ho hsh hr hi hb HR5 HI5 HO5 HB5
 by_cases hk0 : k = 0
 ·subst hk0
  go_wp2_with fail
  refine (Yu w.heap.size (w.heap.size + 1) qk 24 wr HR.out (by omega) (by omega) (by omega)).mono ?_
  rintro e w6 ⟨bo, rfl, hr6, hg6⟩
  have HI := qb (HI.out.grown hg6 (fun k hk => by injection hk with hk; omega))
  have HO := qb (YA HO.out (hi := wr.heap.size) (fun g hg => (HO.out.lt g hg).2) hg6 (fun g hg => by injection hg with hg; have h1 := HI.out.lt; have h2 := HI.out.le; omega))
  have HB := qb (HB.out.trans (zo hg6 HB.out.size (fun g hg => by injection hg with hg; omega)))
  clear hr6 hg6 HR
  cases bo
  ·go_upto_region 10 with fail
   have hI := HI.out
   obtain ⟨z0, z1, z2, z3⟩ := qr hI.z
   obtain ⟨b0, b1, -⟩ := qr hI.b
   have HIN : Hid (InD ((w6.setCell ⟨w.heap.size, 0, none⟩ (.slice A1 x.parts.length c1)).setCell ⟨w.heap.size, 1, none⟩ (.slice A2 x.data.length c2)) (All ((w6.setCell ⟨w.heap.size, 0, none⟩ (.slice A1 x.parts.length c1)).setCell ⟨w.heap.size, 1, none⟩ (.slice A2 x.data.length c2))) x (dkV A1 x.parts.length c1 A2 x.data.length c2)) := InD.keep (fun p hp => by have h1 := hp.1; have h2 := hI.lt; rw [World.cell?_of_block (Below.heap_setCell _ _ _ _ (by show p.block ≠ w.heap.size; omega)), World.cell?_of_block (Below.heap_setCell _ _ _ _ (by show p.block ≠ w.heap.size; omega))]) (fun j hj => by have h1 := hj.2; have h2 := lt_of_block hI.b; simp only [All, World.setCell, Array.size_modify]; omega) _ _ hI.i
   have HOW : Hid (OwnS ((w6.setCell ⟨w.heap.size, 0, none⟩ (.slice A1 x.parts.length c1)).setCell ⟨w.heap.size, 1, none⟩ (.slice A2 x.data.length c2)) w.heap.size A6 c6 xs) := zC (YA HO.out (hi := (w6).heap.size) (fun g hg => (HO.out.lt g hg).2) (vD (vD (xb _ (some w.heap.size)) 0 _) 1 _) (fun g hg => by injection hg with hg; have h2 := hI.lt; have h3 := hI.le; omega)) (by have h2 := hI.lt; have h3 := hI.le; omega)
   clear hI
   go_wp2_with fail
   refine bodyPost_ret (v := .tuple #[dkV A1 x.parts.length c1 A2 x.data.length c2, .slice A6 xs.length c6]) (by simp [results, results22, go_sem, *]) rfl ?_
   exact ⟨A1, c1, A2, c2, x, A6, c6, xs, rfl, HIN.out, hsz, HOW.out, (by omega), HSH.out, Below.setCell (Below.setCell HB.out (Nat.le_refl _) _) (Nat.le_refl _) _⟩
  go_upto_region 10 with fail
  have hz6 : w2.heap.size + 1 <= w6.heap.size := Nat.succ_le_of_lt (lt_of_block HI.out.b)
  have hA7 := (Below.refl w6.heap.size w6).alloc (Nat.le_refl _) (.cells (madeCells #[Value.string ⟨#[]⟩] 21) 9)
  have HI := qb (HI.out.grown (row := none) (jg hA7 _) (fun k hk => by cases hk))
  have HO : Hid (OwnS (w6.alloc (.cells (madeCells #[Value.string ⟨#[]⟩] 21) 9)) (w2.heap.size + 1) (some ⟨w6.heap.size, 0, none⟩) 21 (List.replicate 21 [])) := zC Wx hz6
  have HB := qb (qa3 HB.out hA7)
  clear hA7
  generalize w6.alloc (.cells (madeCells #[Value.string ⟨#[]⟩] 21) 9) = w7 at *
  have hI := HI.out
  obtain ⟨z0, z1, z2, z3⟩ := qr hI.z
  obtain ⟨b0, b1, -⟩ := qr hI.b
  have HIN : Hid (InD ((w7.setCell ⟨w.heap.size, 0, none⟩ (.slice A1 x.parts.length c1)).setCell ⟨w.heap.size, 1, none⟩ (.slice A2 x.data.length c2)) (All ((w7.setCell ⟨w.heap.size, 0, none⟩ (.slice A1 x.parts.length c1)).setCell ⟨w.heap.size, 1, none⟩ (.slice A2 x.data.length c2))) x (dkV A1 x.parts.length c1 A2 x.data.length c2)) := InD.keep (fun p hp => by have h1 := hp.1; have h2 := hI.lt; rw [World.cell?_of_block (Below.heap_setCell _ _ _ _ (by show p.block ≠ w.heap.size; omega)), World.cell?_of_block (Below.heap_setCell _ _ _ _ (by show p.block ≠ w.heap.size; omega))]) (fun j hj => by have h1 := hj.2; have h2 := lt_of_block hI.b; simp only [All, World.setCell, Array.size_modify]; omega) _ _ hI.i
  have HOW : Hid (OwnS ((w7.setCell ⟨w.heap.size, 0, none⟩ (.slice A1 x.parts.length c1)).setCell ⟨w.heap.size, 1, none⟩ (.slice A2 x.data.length c2)) w.heap.size (some ⟨w6.heap.size, 0, none⟩) 21 (List.replicate 21 [])) := zC (YA HO.out (hi := (w7).heap.size) (fun g hg => (HO.out.lt g hg).2) (vD (vD (xb _ (some w.heap.size)) 0 _) 1 _) (fun g hg => by injection hg with hg; have h2 := hI.lt; have h3 := hI.le; omega)) (by have h2 := hI.lt; have h3 := hI.le; omega)
  clear hI
  go_wp2_with fail
  refine bodyPost_ret (v := .tuple #[dkV A1 x.parts.length c1 A2 x.data.length c2, .slice (some ⟨w6.heap.size, 0, none⟩) 21 21]) (by simp [results, results22, go_sem, *]) rfl ?_
  exact ⟨A1, c1, A2, c2, x, (some ⟨w6.heap.size, 0, none⟩), 21, (List.replicate 21 []), rfl, HIN.out, hsz, HOW.out, (by simp), (fun t ht => by rw [List.eq_of_mem_replicate ht]; simp), Below.setCell (Below.setCell HB.out (Nat.le_refl _) _) (Nat.le_refl _) _⟩
 obtain ⟨k, rfl⟩ : ∃ k', k = k' + 1 := ⟨k - 1, by omega⟩
 clear hk0
 go_wp2_with fail
 refine (Wl w.heap.size (w.heap.size + 1) qk wr HR.out (by omega)).mono ?_
 rintro e w6 ⟨t, rfl, ht, hr6, hg6⟩
 have HI6 := qb (HI.out.grown hg6 (fun k hk => by injection hk with hk; omega))
 have HO6 := qb (YA HO.out (hi := wr.heap.size) (fun g hg => (HO.out.lt g hg).2) hg6 (fun g hg => by injection hg with hg; have h1 := HI.out.lt; have h2 := HI.out.le; omega))
 have HB6 := qb (HB.out.trans (zo hg6 HB.out.size (fun g hg => by injection hg with hg; omega)))
 have hA7 := (Below.refl w6.heap.size w6).alloc (Nat.le_refl _) (.cells #[sv t] 9)
 have HI7 := qb (HI6.out.grown (row := none) (jg hA7 _) (fun k hk => by cases hk))
 have HO7 := qb (jy HO6.out hA7)
 have HB7 := qb (qa3 HB6.out hA7)
 have HR7 := qb (hr6.keep hA7)
 have HT7 := qb (heap_alloc_new w6 (.cells #[sv t] 9))
 have hz7 : w2.heap.size + 1 <= (w6.alloc (.cells #[sv t] 9)).heap.size := Nat.succ_le_of_lt (lt_of_block HI7.out.b)
 clear hr6 hg6 hA7 HI HO HB HR HI6 HO6 HB6
 go_wp2_with (at_builtin; refine Wr rfl _ _ rfl (w2.heap.size + 1) A6 c6 xs t (by rfl) HO7.out w6.heap.size (by rfl) HT7.out (by omega) hz7 ?_; intro A8 c8 w8 ho8 hg8; have HR8 := qb (HR7.out.frame hg8 (fun k hk => by have h1 := (HO7.out.lt k hk).1; have h2 := HI7.out.lt; have h3 := HI7.out.le; omega)); have HI8 := qb (HI7.out.grown hg8 (fun k hk => by have h1 := (HO7.out.lt k hk).1; omega)); have HB8 := qb (HB7.out.trans (zo hg8 HB7.out.size (fun k hk => by have h1 := (HO7.out.lt k hk).1; have h2 := HI7.out.lt; have h3 := HI7.out.le; omega))); have HO8 := qb ho8; clear ho8 hg8)
 go_roundw
 case rel =>
  refine ⟨k, A8, c8, xs ++ [t], qk + 7050, by omega, by go_num, by simp, HO8.out, by simp; omega, fun y hy => ?_, HR8.out, by omega, HI8.out, HB8.out⟩
  rcases List.mem_append.1 hy with h | h
  ·exact HSH.out y h
  rw [List.mem_singleton.1 h]; exact ht
 case measure => first | (simp [intOf]; done) | (simp [intOf]; omega)
end Go.Proofs.YtmboieajfdkllaaGreat
