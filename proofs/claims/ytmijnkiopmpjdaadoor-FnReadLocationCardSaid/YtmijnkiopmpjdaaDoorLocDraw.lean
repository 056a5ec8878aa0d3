/- Drawn locations: walks. -/
import Derived.Test.YtmijnkiopmpjdaaDoorDrawS
import Derived.Test.YtmijnkiopmpjdaaDoorTypedF
import Derived.Test.YtmijnkiopmpjdaaDoorTypedB
import Derived.Test.YtmijnkiopmpjdaaDoorLocValid
import Derived.Test.YtmijnkiopmpjdaaDoorLocEq
namespace Go.Proofs.YtmijnkiopmpjdaaDoor
open Go.RowKit

/-- a location without path and query, of short texts -/
def tLoc0 (n : Nat) : Ty := fun _ v => ∃ x y : Tx, v = .agg #[sv x, sv y, .slice none 0 0, sv []] ∧ x.length ≤ n ∧ y.length ≤ n
theorem stays_tLoc0 {g n : Nat} : Stays g (tLoc0 n) := fun _ _ _ _ h => h
/-- a box of cells of its own, made since the block B -/
def tBoxN (g B : Nat) (cs : Array Value) (t : TypeId) : Ty := fun w v => ∃ b, v = .pointer (some ⟨b, 0, none⟩) ∧ b ≠ g ∧ B ≤ b ∧ w.heap[b]? = some (.cells cs t (0, 0))
theorem stays_tBoxN {g B : Nat} {cs : Array Value} {t : TypeId} : Stays g (tBoxN g B cs t) := fun _ _ _ hk ⟨b, h1, h2, h3, h4⟩ => ⟨b, h1, h2, h3, kp_block hk h2 h4⟩
theorem box_four {w : World} {b : Nat} {x y z u : Value} {t : TypeId} (h : w.heap[b]? = some (.cells #[x, y, z, u] t (0, 0))) :
    (w.cell? ⟨b, 0, none⟩ = some x ∧ w.cell? ⟨b, 1, none⟩ = some y ∧ w.cell? ⟨b, 2, none⟩ = some z ∧ w.cell? ⟨b, 3, none⟩ = some u) ∧ (w.frozen? ⟨b, 0, none⟩ = false ∧ w.frozen? ⟨b, 1, none⟩ = false ∧ w.frozen? ⟨b, 2, none⟩ = false ∧ w.frozen? ⟨b, 3, none⟩ = false) := by
  simp [World.cell?, World.frozen?, h]


/-- a location in a box of the call's own, its path in a row of the call's own, and the result's box as it was -/
structure LSt (w0 w : World) (g b : Nat) (l : Lc) (A : Option Addr) (c : Nat) : Prop where
  box : w.heap[b]? = some (.cells (lcCells l A c) 43 (0, 0))
  own : OwnS w (b + 1) A c l.path
  res : w.heap[w0.heap.size]? = some (.cells #[.string ⟨#[]⟩, .string ⟨#[]⟩, .slice none 0 0, .string ⟨#[]⟩] 43 (0, 0))
  lt : w0.heap.size < b
  old : g < w0.heap.size
section
variable {w0 w w' : World} {g b : Nat} {l : Lc} {A : Option Addr} {c : Nat}
theorem LSt.size (h : LSt w0 w g b l A c) : b < w.heap.size := lt_of_block h.box
theorem LSt.grow (h : LSt w0 w g b l A c) (hg : w.grownBy w' (some g)) : LSt w0 w' g b l A c := by
  have h1 := h.lt; have h2 := h.old; have h3 := h.size
  exact ⟨(hg.block b h3 (by intro e; injection e; omega)).trans h.box, own_g h.own hg (by omega), (hg.block _ (by omega) (by intro e; injection e; omega)).trans h.res, h1, h2⟩
theorem LSt.alloc (h : LSt w0 w g b l A c) (o : Obj) : LSt w0 (w.alloc o) g b l A c := by
  have h1 := h.lt; have h3 := h.size
  exact ⟨(heap_alloc_old w _ h3).trans h.box, own_below h.own ((Below.refl _ _).alloc (Nat.le_refl _) _), (heap_alloc_old w _ (by omega)).trans h.res, h1, h.old⟩
theorem LSt.set (h : LSt w0 w g b l A c) (o : Nat) (u : Value) {l' : Lc} (hc : (lcCells l A c).setIfInBounds o u = lcCells l' A c) (hp : l'.path = l.path) : LSt w0 (w.setCell ⟨b, o, none⟩ u) g b l' A c := by
  have h1 := h.lt
  refine ⟨?_, ?_, ?_, h1, h.old⟩
  · rw [← hc]; exact cells_set h.box
  · rw [hp]; exact own_off h.own (by omega)
  · rw [← h.res]; exact Below.heap_setCell _ _ _ _ (by show w0.heap.size ≠ b; omega)
theorem LSt.app (h : LSt w0 w g b l A c) {A' : Option Addr} {c' : Nat} {xs : List Tx} (ho : OwnS w' (b + 1) A' c' xs) (hg : w.grownBy w' (Value.ownBlock (.slice A l.path.length c))) (v : Value) (hv : v = .slice A' xs.length c') : LSt w0 (w'.setCell ⟨b, 2, none⟩ v) g b { l with path := xs } A' c' := by
  subst hv
  have h1 := h.lt; have h3 := h.size
  have hr := ownS_row h.own
  have hb : w'.heap[b]? = some (.cells (lcCells l A c) 43 (0, 0)) := (hg.block b h3 (fun e => by have := hr _ e.symm; omega)).trans h.box
  refine ⟨cells_set hb, own_off ho (by omega), ?_, h1, h.old⟩
  exact (Below.heap_setCell _ _ _ _ (by show w0.heap.size ≠ b; omega)).trans ((hg.block _ (by omega) (fun e => by have := hr _ e.symm; omega)).trans h.res)
theorem LSt.boxApp (h : LSt w0 w g b l A c) (hg : w.grownBy w' (Value.ownBlock (.slice A l.path.length c))) : w'.heap[b]? = some (.cells (lcCells l A c) 43 (0, 0)) := by
  have hr := ownS_row h.own
  exact (hg.block b h.size (fun e => by have := hr _ e.symm; omega)).trans h.box
theorem rdr_set {B q k o : Nat} {u : Value} (h : Rdr w B g q) (hk : g < k) : Rdr (w.setCell ⟨k, o, none⟩ u) B g q := h.frame (row := some k) (grown_set (grown_refl _ _) _ _) (fun j hj => by injection hj; omega)
theorem grown_set_up {row : Option Nat} {k o : Nat} {u : Value} (h : w0.grownBy w row) (hk : w0.heap.size ≤ k) : w0.grownBy (w.setCell ⟨k, o, none⟩ u) row := grown_set_new h (p := ⟨k, o, none⟩) hk u
end
/-- short texts -/
def SmL (l : Lc) : Prop := l.sch.length ≤ 100 ∧ l.host.length ≤ 100 ∧ l.qu.length ≤ 100 ∧ ShortS 100 l.path
/-- the call drew a location whose path lies in a row of its own, and at most m numbers -/
def DrawnL (w : World) (B g q m : Nat) (e : Ending) (w' : World) : Prop :=
  ∃ A c l, e = .returned (lcV l A c) ∧ OwnS w' w.heap.size A c l.path ∧ SmL l ∧ l.path.length ≤ 10 ∧ Rdr w' B g (q + m) ∧ w.grownBy w' (some g)

set_option maxRecDepth 100000 in
set_option maxHeartbeats 800000 in
theorem spec_l20Location (B g q : Nat) (n : Int) (w : World) (h : Rdr w B g q) (hq : q ≤ 100000000) (hn : n ≤ 1000000000) (hn0 : -1000000000 ≤ n) :
    Calls Tryd.prog 62 #[.pointer (some ⟨g, 0, none⟩), .int .i64 n] w (DrawnL w B g q 200) := by
  have hlt := h.lt
  have H := Lib.hid h
  clear h
  go_enter Tryd.func62, Tryd.ntmps62
  go_wp2_with fail
  refine wp_region_typed 12 (by kernel_rfl) (by kernel_rfl) (DW (w.alloc (.cells #[.string ⟨#[]⟩, .string ⟨#[]⟩, .slice none 0 0, .string ⟨#[]⟩] 43)) B g q) (Kp g) (fun i => ([tRow g 2 (cTxt 100 2), tIs (.pointer (some ⟨g, 0, none⟩)), tNum 2, tAdrS g 100, tTxt 100, tRow g 3 (cTxt 100 3), tIs (.pointer (some ⟨g, 0, none⟩)), tNum 3, tAdrS g 100, tTxt 100, tLoc0 100, tBoxN g (w.heap.size + 1) #[.string ⟨#[]⟩, .string ⟨#[]⟩, .slice none 0 0, .string ⟨#[]⟩] 43] : List Ty).getD i tAny) ?hW ?hkeep ?hstep ?hfin
  case hkeep =>
    refine all_lt_succ (all_lt_succ (all_lt_succ (all_lt_succ (all_lt_succ (all_lt_succ (all_lt_succ (all_lt_succ (all_lt_succ (all_lt_succ (all_lt_succ (all_lt_succ all_lt_zero ?_) ?_) ?_) ?_) ?_) ?_) ?_) ?_) ?_) ?_) ?_) ?_
    · exact stays_row _ _
    · exact stays_is _
    · exact stays_num _
    · exact stays_adrS _
    · exact stays_txt _
    · exact stays_row _ _
    · exact stays_is _
    · exact stays_num _
    · exact stays_adrS _
    · exact stays_txt _
    · exact stays_tLoc0
    · exact stays_tBoxN
  case hstep =>
    refine all_lt_succ (all_lt_succ (all_lt_succ (all_lt_succ (all_lt_succ (all_lt_succ (all_lt_succ (all_lt_succ (all_lt_succ (all_lt_succ (all_lt_succ (all_lt_succ all_lt_zero ?_) ?_) ?_) ?_) ?_) ?_) ?_) ?_) ?_) ?_) ?_) ?_
    · (intro o ho m a w1 hm hW hb hd K Q hK; obtain rfl := Option.some.inj ho; go_simp; exact hK _ _ (hW.next ((Below.refl _ _).alloc (Nat.le_refl _) _)) (kp_below ((Below.refl _ _).alloc (Nat.le_refl _) _)) ⟨_, _, _, _, rfl, hW.new, heap_alloc_new w1 _, by decide +kernel⟩)
    · (intro o ho m a w1 hm hW hb hd K Q hK; obtain rfl := Option.some.inj ho; have e0 : a.tmps[0]?.getD undef = (.pointer (some ⟨g, 0, none⟩)) := (by rw [hb 0 (by decide +kernel)]; simp); go_simp; exact hK _ _ hW.same (kp_refl _) rfl)
    · (intro o ho m a w1 hm hW hb hd K Q hK; obtain rfl := Option.some.inj ho; have e1 := slotE (hd 1 (by kernel_rfl) 8 rfl); go_simp; refine (spec_pick _ _ _ _ w1 hW.1 (by omega) (by omega) (by omega)).mono ?_; rintro e w2 ⟨k, rfl, hk, hr2, hg2⟩; exact hK _ _ ⟨hr2.more (by omega), grown_trans hW.2 hg2⟩ hg2 ⟨k, rfl, hk⟩)
    · (intro o ho m a w1 hm hW hb hd K Q hK; obtain rfl := Option.some.inj ho; obtain ⟨b, cs, t, fr, e1, hbg, hh, hC⟩ := (hd 0 (by kernel_rfl) 7 rfl); obtain ⟨k, e2, hk⟩ := (hd 2 (by kernel_rfl) 9 rfl); have e1 := slotE e1; have e2 := slotE e2; have hk2 := num_lt hk (by omega); go_simp; exact hK _ _ hW.same (kp_refl _) (row_txt hbg hh hC (by omega)))
    · (intro o ho m a w1 hm hW hb hd K Q hK; obtain rfl := Option.some.inj ho; obtain ⟨b, o, x, e1, hbg, hc, hx⟩ := (hd 3 (by kernel_rfl) 10 rfl); have e1 := slotE e1; go_simp; exact hK _ _ hW.same (kp_refl _) ⟨x, rfl, hx⟩)
    · (intro o ho m a w1 hm hW hb hd K Q hK; obtain rfl := Option.some.inj ho; go_simp; exact hK _ _ (hW.next ((Below.refl _ _).alloc (Nat.le_refl _) _)) (kp_below ((Below.refl _ _).alloc (Nat.le_refl _) _)) ⟨_, _, _, _, rfl, hW.new, heap_alloc_new w1 _, by decide +kernel⟩)
    · (intro o ho m a w1 hm hW hb hd K Q hK; obtain rfl := Option.some.inj ho; have e0 : a.tmps[0]?.getD undef = (.pointer (some ⟨g, 0, none⟩)) := (by rw [hb 0 (by decide +kernel)]; simp); go_simp; exact hK _ _ hW.same (kp_refl _) rfl)
    · (intro o ho m a w1 hm hW hb hd K Q hK; obtain rfl := Option.some.inj ho; have e1 := slotE (hd 6 (by kernel_rfl) 13 rfl); go_simp; refine (spec_pick _ _ _ _ w1 hW.1 (by omega) (by omega) (by omega)).mono ?_; rintro e w2 ⟨k, rfl, hk, hr2, hg2⟩; exact hK _ _ ⟨hr2.more (by omega), grown_trans hW.2 hg2⟩ hg2 ⟨k, rfl, hk⟩)
    · (intro o ho m a w1 hm hW hb hd K Q hK; obtain rfl := Option.some.inj ho; obtain ⟨b, cs, t, fr, e1, hbg, hh, hC⟩ := (hd 5 (by kernel_rfl) 12 rfl); obtain ⟨k, e2, hk⟩ := (hd 7 (by kernel_rfl) 14 rfl); have e1 := slotE e1; have e2 := slotE e2; have hk2 := num_lt hk (by omega); go_simp; exact hK _ _ hW.same (kp_refl _) (row_txt hbg hh hC (by omega)))
    · (intro o ho m a w1 hm hW hb hd K Q hK; obtain rfl := Option.some.inj ho; obtain ⟨b, o, x, e1, hbg, hc, hx⟩ := (hd 8 (by kernel_rfl) 15 rfl); have e1 := slotE e1; go_simp; exact hK _ _ hW.same (kp_refl _) ⟨x, rfl, hx⟩)
    · (intro o ho m a w1 hm hW hb hd K Q hK; obtain rfl := Option.some.inj ho; obtain ⟨x, e1, hx⟩ := (hd 4 (by kernel_rfl) 11 rfl); obtain ⟨y, e2, hy⟩ := (hd 9 (by kernel_rfl) 16 rfl); have e1 := slotE e1; have e2 := slotE e2; go_simp; exact hK _ _ hW.same (kp_refl _) ⟨x, y, rfl, hx, hy⟩)
    · (intro o ho m a w1 hm hW hb hd K Q hK; obtain rfl := Option.some.inj ho; go_simp; exact hK _ _ (hW.next ((Below.refl _ _).alloc (Nat.le_refl _) _)) (kp_below ((Below.refl _ _).alloc (Nat.le_refl _) _)) ⟨_, rfl, hW.new, (by have hzz := hW.2.size; first | exact hzz | (simp at hzz; omega)), heap_alloc_new w1 _⟩)
  case hW => exact ⟨((H.out.keep ((Below.refl _ _).alloc (Nat.le_refl _) _)).keep (Below.refl _ _).drew).more (by omega), grown_drew (grown_refl _ _)⟩
  case hfin =>
    intro vs w3 hW hF
    simp only [putAll, hdst, List.getElem?_cons_succ, List.getElem?_cons_zero, Option.bind, List.drop_succ_cons, List.drop_zero, Act.put]
    obtain ⟨x, y, h10, hx, hy⟩ := hF 10 (by omega)
    obtain ⟨b, h11, hbg, hbB, hh⟩ := hF 11 (by omega)
    rw [h10, h11]
    obtain ⟨hr3, hg3⟩ := hW
    obtain ⟨⟨f0, f1, f2, f3⟩, f4, f5, f6, f7⟩ := box_four hh
    have hres3 : w3.heap[w.heap.size]? = some (.cells #[.string ⟨#[]⟩, .string ⟨#[]⟩, .slice none 0 0, .string ⟨#[]⟩] 43 (0, 0)) := (hg3.block w.heap.size (by simp) (by intro e; injection e; omega)).trans (heap_alloc_new w _)
    have HL0 : Hid (LSt w w3 g b ⟨[], [], [], []⟩ none 0) := ⟨hh, ownS_nil _ _, hres3, by omega, hlt⟩
    have HL4 := Lib.hid ((((HL0.out.set 0 (sv x) (l' := ⟨x, [], [], []⟩) rfl rfl).set 1 (sv y) (l' := ⟨x, y, [], []⟩) rfl rfl).set 2 (.slice none 0 0) (l' := ⟨x, y, [], []⟩) rfl rfl).set 3 (sv []) (l' := ⟨x, y, [], []⟩) rfl rfl)
    have HR4 := Lib.hid (rdr_set (o := 3) (k := b) (u := sv []) (rdr_set (o := 2) (k := b) (u := .slice none 0 0) (rdr_set (o := 1) (k := b) (u := sv y) (rdr_set (o := 0) (u := sv x) (k := b) hr3 (by omega)) (by omega)) (by omega)) (by omega))
    have HG4 := Lib.hid (grown_set_up (o := 3) (u := sv []) (k := b) (grown_set_up (o := 2) (u := .slice none 0 0) (k := b) (grown_set_up (o := 1) (u := sv y) (k := b) (grown_set_up (o := 0) (u := sv x) (k := b) (grown_trans (World.grownBy_alloc w (.cells #[.string ⟨#[]⟩, .string ⟨#[]⟩, .slice none 0 0, .string ⟨#[]⟩] 43) _) hg3) (by omega)) (by omega)) (by omega)) (by omega))
    clear hF h10 h11 hr3 hg3 hh hres3 HL0
    go_simp
    go_wp2_with fail
    refine (spec_pick B g _ 4 _ HR4.out (by omega) (by omega) (by omega)).mono ?_
    rintro e w5 ⟨k5, rfl, hk5, hr5, hg5⟩
    have HL5 := Lib.hid (HL4.out.grow hg5)
    have HR5 := Lib.hid hr5
    have HG5 := Lib.hid (grown_trans HG4.out hg5)
    have hk5' : k5 ≤ 3 := by omega
    clear hr5 hg5 hk5 f0 f1 f2 f3 f4 f5 f6 f7 HL4 HR4 HG4
    go_wp2
    go_loopw [6] (fun i wr => ∃ (k : Nat) (A : Option Addr) (c : Nat) (l : Lc), i = .int .i64 (k : Int) ∧ k + l.path.length ≤ 3 ∧ LSt w wr g b l A c ∧ SmL l ∧ Rdr wr B g (q + 13 + 20 * l.path.length) ∧ w.grownBy wr (some g)) (fun i _ => (intOf i).toNat)
    case atStart => exact ⟨k5, none, 0, ⟨x, y, [], []⟩, rfl, by simpa using hk5', HL5.out, ⟨hx, hy, by simp, (fun p hp => by cases hp)⟩, HR5.out.more (by simp), HG5.out⟩
    case round =>
      obtain ⟨k, A, c, l, rfl, hkl, hl, hs, hr, hg⟩ := hrel
      have HL := Lib.hid hl
      have HS := Lib.hid hs
      have HR := Lib.hid hr
      have HG := Lib.hid hg
      clear hl hs hr hg
      by_cases hk : 0 < k
      · have HC2 := Lib.hid (box_four HL.out.box).1.2.2.1
        have hne : b ≠ g := hbg
        go_wp2_with fail
        refine wp_region_typed 8 (by kernel_rfl) (by kernel_rfl) (DW wr B g (q + 13 + 20 * l.path.length)) (Kp g) (fun i => ([tIs (.pointer (some ⟨b, 2, none⟩)), tIs (.slice A l.path.length c), tRow g 4 (cTxt 100 4), tIs (.pointer (some ⟨g, 0, none⟩)), tNum 4, tAdrS g 100, tTxt 100, tOneS g 100] : List Ty).getD i tAny) ?hW2 ?hkeep2 ?hstep2 ?hfin2
        case hkeep2 =>
          refine all_lt_succ (all_lt_succ (all_lt_succ (all_lt_succ (all_lt_succ (all_lt_succ (all_lt_succ (all_lt_succ all_lt_zero ?_) ?_) ?_) ?_) ?_) ?_) ?_) ?_
          · exact stays_is _
          · exact stays_is _
          · exact stays_row _ _
          · exact stays_is _
          · exact stays_num _
          · exact stays_adrS _
          · exact stays_txt _
          · exact stays_tOneS
        case hstep2 =>
          refine all_lt_succ (all_lt_succ (all_lt_succ (all_lt_succ (all_lt_succ (all_lt_succ (all_lt_succ (all_lt_succ all_lt_zero ?_) ?_) ?_) ?_) ?_) ?_) ?_) ?_
          · (intro o ho m a w1 hm hW hb hd K Q hK; obtain rfl := Option.some.inj ho; have e0 : a.tmps[5]?.getD undef = .pointer (some ⟨b, 0, none⟩) := (by rw [hb 5 (by decide +kernel)]; simp); go_simp; exact hK _ _ hW.same (kp_refl _) rfl)
          · (intro o ho m a w1 hm hW hb hd K Q hK; obtain rfl := Option.some.inj ho; have e1 := slotE (hd 0 (by kernel_rfl) 24 rfl); have hcw := kp_cell hW.2 hne HC2.out; go_simp; exact hK _ _ hW.same (kp_refl _) rfl)
          · (intro o ho m a w1 hm hW hb hd K Q hK; obtain rfl := Option.some.inj ho; go_simp; exact hK _ _ (hW.next ((Below.refl _ _).alloc (Nat.le_refl _) _)) (kp_below ((Below.refl _ _).alloc (Nat.le_refl _) _)) ⟨_, _, _, _, rfl, hW.new, heap_alloc_new w1 _, by decide +kernel⟩)
          · (intro o ho m a w1 hm hW hb hd K Q hK; obtain rfl := Option.some.inj ho; have e0 : a.tmps[0]?.getD undef = (.pointer (some ⟨g, 0, none⟩)) := (by rw [hb 0 (by decide +kernel)]; simp); go_simp; exact hK _ _ hW.same (kp_refl _) rfl)
          · (intro o ho m a w1 hm hW hb hd K Q hK; obtain rfl := Option.some.inj ho; have e1 := slotE (hd 3 (by kernel_rfl) 27 rfl); go_simp; refine (spec_pick _ _ _ _ w1 hW.1 (by omega) (by omega) (by omega)).mono ?_; rintro e w2 ⟨k, rfl, hk, hr2, hg2⟩; exact hK _ _ ⟨hr2.more (by omega), grown_trans hW.2 hg2⟩ hg2 ⟨k, rfl, hk⟩)
          · (intro o ho m a w1 hm hW hb hd K Q hK; obtain rfl := Option.some.inj ho; obtain ⟨b, cs, t, fr, e1, hbg, hh, hC⟩ := (hd 2 (by kernel_rfl) 26 rfl); obtain ⟨k, e2, hk⟩ := (hd 4 (by kernel_rfl) 28 rfl); have e1 := slotE e1; have e2 := slotE e2; have hk2 := num_lt hk (by omega); go_simp; exact hK _ _ hW.same (kp_refl _) (row_txt hbg hh hC (by omega)))
          · (intro o ho m a w1 hm hW hb hd K Q hK; obtain rfl := Option.some.inj ho; obtain ⟨b, o, x, e1, hbg, hc, hx⟩ := (hd 5 (by kernel_rfl) 29 rfl); have e1 := slotE e1; go_simp; exact hK _ _ hW.same (kp_refl _) ⟨x, rfl, hx⟩)
          · (intro o ho m a w1 hm hW hb hd K Q hK; obtain rfl := Option.some.inj ho; obtain ⟨x, e1, hx⟩ := (hd 6 (by kernel_rfl) 30 rfl); have e1 := slotE e1; go_simp; exact hK _ _ (hW.next ((Below.refl _ _).alloc (Nat.le_refl _) _)) (kp_below ((Below.refl _ _).alloc (Nat.le_refl _) _)) ⟨_, x, rfl, hW.new, heap_alloc_new w1 _, hx⟩)
        case hW2 => exact ⟨(HR.out.keep (Below.refl _ _).drew).more (by omega), grown_drew (grown_refl _ _)⟩
        case hfin2 =>
          intro vs w3 hW hF
          simp only [putAll, hdst, List.getElem?_cons_succ, List.getElem?_cons_zero, Option.bind, List.drop_succ_cons, List.drop_zero, Act.put]
          have h1 : vs 1 = .slice A l.path.length c := hF 1 (by omega)
          obtain ⟨b2, x2, h7, hbg2, hh2, hx2⟩ := hF 7 (by omega)
          rw [h1, h7]
          obtain ⟨hr3, hg3⟩ := hW
          have HL3 := Lib.hid (HL.out.grow hg3)
          have HR3 := Lib.hid hr3
          have HG3 := Lib.hid (grown_trans HG.out hg3)
          have hsz3 := HL3.out.size
          clear hF h1 h7 hr3 hg3
          go_simp
          go_wp2_with (at_builtin; refine app_str_at rfl _ _ rfl (b + 1) A c l.path x2 (by rfl) HL3.out.own b2 (by rfl) hh2 ?_ ?_ ?_; (focus omega); (focus omega); intro A6 c6 w6 ho6 hg6; have HBX6 := box_four (HL3.out.boxApp hg6); obtain ⟨⟨f0, f1, f2, f3⟩, f4, f5, f6, f7⟩ := HBX6)
          go_roundw
          case rel =>
            refine ⟨k - 1, A6, c6, { l with path := l.path ++ [x2] }, by go_num, by simp; omega, HL3.out.app ho6 hg6 _ (by simp), ⟨HS.out.1, HS.out.2.1, HS.out.2.2.1, shortS_snoc HS.out.2.2.2 hx2⟩, ?_, ?_⟩
            · exact (rdr_set (HR3.out.frame hg6 (own_lt HL3.out.own (by omega))) (by omega)).more (by simp; omega)
            · exact grown_set_up (grown_own HG3.out hg6 (by omega) (ownS_row HL3.out.own)) (by omega)
          case measure => simp [intOf]; omega
      · have hk0 : k = 0 := by omega
        subst hk0
        have HS : Hid (SmL l ∧ l.path.length ≤ 9) := ⟨HS.out, by omega⟩
        go_wp2_with fail
        refine (spec_pick B g _ 3 _ HR.out (by omega) (by omega) (by omega)).mono ?_
        rintro e ws ⟨k1, rfl, hk1, hr1, hg1⟩
        have HL := Lib.hid (HL.out.grow hg1)
        have HG := Lib.hid (grown_trans HG.out hg1)
        have HR := Lib.hid (hr1.more (q' := q + 80) (by omega))
        clear hr1 hg1 hk1
        by_cases h1 : k1 = 0
        · subst h1
          go_wp2_with fail
          refine (spec_pick B g _ 2 _ (HR.out.keep ((Below.refl _ _).alloc (Nat.le_refl _) _)) (by omega) (by omega) (by omega)).mono ?_
          rintro e w7 ⟨k7, rfl, hk7, hr7, hg7⟩
          have hsz7 : ws.heap.size < w7.heap.size := by have := hg7.size; simp at this; omega
          have hlit : w7.heap[ws.heap.size]? = _ := (hg7.block ws.heap.size (by simp) (by have h1 := HL.out.size; have h2 := HL.out.lt; have h3 := HL.out.old; simp; omega)).trans (heap_alloc_new ws _)
          obtain ⟨x7, hx7c, hx7⟩ := lit_str (k := k7) (B := 100) (n := 2) hlit (by decide +kernel) (by rcases hk7 with hk7 | hk7 <;> omega)
          have HL7 := Lib.hid ((HL.out.alloc _).grow hg7)
          have HR7 := Lib.hid hr7
          have HG7 := Lib.hid (grown_trans (grown_alloc HG.out _) hg7)
          clear hlit hr7 hg7
          obtain ⟨⟨f0, f1, f2, f3⟩, f4, f5, f6, f7⟩ := box_four HL7.out.box
          have HSX : Hid (SmL { l with qu := x7 } ∧ ({ l with qu := x7 } : Lc).path.length ≤ 9) := ⟨⟨HS.out.1.1, HS.out.1.2.1, hx7, HS.out.1.2.2.2⟩, HS.out.2⟩
          have HLX := Lib.hid (HL7.out.set 3 (sv x7) (l' := { l with qu := x7 }) rfl rfl)
          have HRX := Lib.hid (rdr_set (o := 3) (u := sv x7) (k := b) HR7.out (by have h2 := HL.out.lt; have h3 := HL.out.old; omega))
          have HGX := Lib.hid (grown_set_up (o := 3) (u := sv x7) (k := b) HG7.out (by have h2 := HL.out.lt; omega))
          generalize ({ l with qu := x7 } : Lc) = l at HLX HSX
          have HL := HLX
          have HS := HSX
          have HR := HRX
          have HG := HGX
          clear HLX HSX HRX HGX
          go_wp2_with fail
          refine (spec_odd B g _ n _ HR.out (by omega) hn hn0).mono ?_
          rintro e ws ⟨bo, rfl, hr1, hg1⟩
          have HL := Lib.hid (HL.out.grow hg1)
          have HG := Lib.hid (grown_trans HG.out hg1)
          have HR := Lib.hid (hr1.more (q' := q + 90) (by omega))
          clear hr1 hg1
          cases bo
          ·
            obtain ⟨⟨f0, f1, f2, f3⟩, f4, f5, f6, f7⟩ := box_four HL.out.box
            obtain ⟨⟨r0, r1, r2, r3⟩, r4, r5, r6, r7⟩ := box_four HL.out.res
            go_wp2
            refine bodyPost_ret (v := lcV l A c) (by simp [results, Tryd.results62, go_sem, *]) rfl ?_
            have HZ := HL.out
            have HN := HZ.lt
            have HO := HZ.old
            refine ⟨A, c, l, rfl, ?_, HS.out.1, by have := HS.out.2; omega, ?_, ?_⟩
            · exact own_off (own_off (own_off (own_off (own_base HZ.own (b := w.heap.size + 1) (by omega)) (by omega)) (by omega)) (by omega)) (by omega) |> fun h => own_base h (by omega)
            · exact (rdr_set (rdr_set (rdr_set (rdr_set HR.out (by omega)) (by omega)) (by omega)) (by omega)).more (by omega)
            · exact grown_set_up (grown_set_up (grown_set_up (grown_set_up HG.out (by omega)) (by omega)) (by omega)) (by omega)
          ·
            go_wp2_with fail
            refine (spec_pick B g _ 4 _ HR.out (by omega) (by omega) (by omega)).mono ?_
            rintro e ws ⟨k9, rfl, hk9, hr1, hg1⟩
            have HL := Lib.hid (HL.out.grow hg1)
            have HG := Lib.hid (grown_trans HG.out hg1)
            have HR := Lib.hid (hr1.more (q' := q + 95) (by omega))
            clear hr1 hg1 hk9
            obtain rfl | rfl | rfl | ⟨n0, n1, n2⟩ : k9 = 0 ∨ k9 = 1 ∨ k9 = 2 ∨ (((k9 : Int) == 0) = false ∧ ((k9 : Int) == 1) = false ∧ ((k9 : Int) == 2) = false) := by
              by_cases h0 : k9 = 0
              · exact .inl h0
              · by_cases h1 : k9 = 1
                · exact .inr (.inl h1)
                · by_cases h2 : k9 = 2
                  · exact .inr (.inr (.inl h2))
                  · exact .inr (.inr (.inr ⟨by simp; omega, by simp; omega, by simp; omega⟩))
            ·
              go_wp2_with fail
              refine (spec_pick B g _ 3 _ (HR.out.keep ((Below.refl _ _).alloc (Nat.le_refl _) _)) (by omega) (by omega) (by omega)).mono ?_
              rintro e w7 ⟨k7, rfl, hk7, hr7, hg7⟩
              have hsz7 : ws.heap.size < w7.heap.size := by have := hg7.size; simp at this; omega
              have hlit : w7.heap[ws.heap.size]? = _ := (hg7.block ws.heap.size (by simp) (by have h1 := HL.out.size; have h2 := HL.out.lt; have h3 := HL.out.old; simp; omega)).trans (heap_alloc_new ws _)
              obtain ⟨x7, hx7c, hx7⟩ := lit_str (k := k7) (B := 100) (n := 3) hlit (by decide +kernel) (by rcases hk7 with hk7 | hk7 <;> omega)
              have HL7 := Lib.hid ((HL.out.alloc _).grow hg7)
              have HR7 := Lib.hid hr7
              have HG7 := Lib.hid (grown_trans (grown_alloc HG.out _) hg7)
              clear hlit hr7 hg7
              obtain ⟨⟨f0, f1, f2, f3⟩, f4, f5, f6, f7⟩ := box_four HL7.out.box
              have HSX : Hid (SmL { l with sch := x7 } ∧ ({ l with sch := x7 } : Lc).path.length ≤ 9) := ⟨⟨hx7, HS.out.1.2.1, HS.out.1.2.2.1, HS.out.1.2.2.2⟩, HS.out.2⟩
              have HLX := Lib.hid (HL7.out.set 0 (sv x7) (l' := { l with sch := x7 }) rfl rfl)
              have HRX := Lib.hid (rdr_set (o := 0) (u := sv x7) (k := b) HR7.out (by have h2 := HL.out.lt; have h3 := HL.out.old; omega))
              have HGX := Lib.hid (grown_set_up (o := 0) (u := sv x7) (k := b) HG7.out (by have h2 := HL.out.lt; omega))
              generalize ({ l with sch := x7 } : Lc) = l at HLX HSX
              have HL := HLX
              have HS := HSX
              have HR := HRX
              have HG := HGX
              clear HLX HSX HRX HGX
              obtain ⟨⟨f0, f1, f2, f3⟩, f4, f5, f6, f7⟩ := box_four HL.out.box
              obtain ⟨⟨r0, r1, r2, r3⟩, r4, r5, r6, r7⟩ := box_four HL.out.res
              go_wp2
              refine bodyPost_ret (v := lcV l A c) (by simp [results, Tryd.results62, go_sem, *]) rfl ?_
              have HZ := HL.out
              have HN := HZ.lt
              have HO := HZ.old
              refine ⟨A, c, l, rfl, ?_, HS.out.1, by have := HS.out.2; omega, ?_, ?_⟩
              · exact own_off (own_off (own_off (own_off (own_base HZ.own (b := w.heap.size + 1) (by omega)) (by omega)) (by omega)) (by omega)) (by omega) |> fun h => own_base h (by omega)
              · exact (rdr_set (rdr_set (rdr_set (rdr_set HR.out (by omega)) (by omega)) (by omega)) (by omega)).more (by omega)
              · exact grown_set_up (grown_set_up (grown_set_up (grown_set_up HG.out (by omega)) (by omega)) (by omega)) (by omega)
            ·
              go_wp2_with fail
              refine (spec_pick B g _ 3 _ (HR.out.keep ((Below.refl _ _).alloc (Nat.le_refl _) _)) (by omega) (by omega) (by omega)).mono ?_
              rintro e w7 ⟨k7, rfl, hk7, hr7, hg7⟩
              have hsz7 : ws.heap.size < w7.heap.size := by have := hg7.size; simp at this; omega
              have hlit : w7.heap[ws.heap.size]? = _ := (hg7.block ws.heap.size (by simp) (by have h1 := HL.out.size; have h2 := HL.out.lt; have h3 := HL.out.old; simp; omega)).trans (heap_alloc_new ws _)
              obtain ⟨x7, hx7c, hx7⟩ := lit_str (k := k7) (B := 100) (n := 3) hlit (by decide +kernel) (by rcases hk7 with hk7 | hk7 <;> omega)
              have HL7 := Lib.hid ((HL.out.alloc _).grow hg7)
              have HR7 := Lib.hid hr7
              have HG7 := Lib.hid (grown_trans (grown_alloc HG.out _) hg7)
              clear hlit hr7 hg7
              obtain ⟨⟨f0, f1, f2, f3⟩, f4, f5, f6, f7⟩ := box_four HL7.out.box
              have HSX : Hid (SmL { l with host := x7 } ∧ ({ l with host := x7 } : Lc).path.length ≤ 9) := ⟨⟨HS.out.1.1, hx7, HS.out.1.2.2.1, HS.out.1.2.2.2⟩, HS.out.2⟩
              have HLX := Lib.hid (HL7.out.set 1 (sv x7) (l' := { l with host := x7 }) rfl rfl)
              have HRX := Lib.hid (rdr_set (o := 1) (u := sv x7) (k := b) HR7.out (by have h2 := HL.out.lt; have h3 := HL.out.old; omega))
              have HGX := Lib.hid (grown_set_up (o := 1) (u := sv x7) (k := b) HG7.out (by have h2 := HL.out.lt; omega))
              generalize ({ l with host := x7 } : Lc) = l at HLX HSX
              have HL := HLX
              have HS := HSX
              have HR := HRX
              have HG := HGX
              clear HLX HSX HRX HGX
              obtain ⟨⟨f0, f1, f2, f3⟩, f4, f5, f6, f7⟩ := box_four HL.out.box
              obtain ⟨⟨r0, r1, r2, r3⟩, r4, r5, r6, r7⟩ := box_four HL.out.res
              go_wp2
              refine bodyPost_ret (v := lcV l A c) (by simp [results, Tryd.results62, go_sem, *]) rfl ?_
              have HZ := HL.out
              have HN := HZ.lt
              have HO := HZ.old
              refine ⟨A, c, l, rfl, ?_, HS.out.1, by have := HS.out.2; omega, ?_, ?_⟩
              · exact own_off (own_off (own_off (own_off (own_base HZ.own (b := w.heap.size + 1) (by omega)) (by omega)) (by omega)) (by omega)) (by omega) |> fun h => own_base h (by omega)
              · exact (rdr_set (rdr_set (rdr_set (rdr_set HR.out (by omega)) (by omega)) (by omega)) (by omega)).more (by omega)
              · exact grown_set_up (grown_set_up (grown_set_up (grown_set_up HG.out (by omega)) (by omega)) (by omega)) (by omega)
            ·
              have HC2 := Lib.hid (box_four HL.out.box).1.2.2.1
              have hne : b ≠ g := hbg
              go_wp2_with fail
              refine wp_region_typed 8 (by kernel_rfl) (by kernel_rfl) (DW ws B g (q + 95)) (Kp g) (fun i => ([tIs (.pointer (some ⟨b, 2, none⟩)), tIs (.slice A l.path.length c), tRow g 5 (cTxt 100 5), tIs (.pointer (some ⟨g, 0, none⟩)), tNum 5, tAdrS g 100, tTxt 100, tOneS g 100] : List Ty).getD i tAny) ?hW3 ?hkeep3 ?hstep3 ?hfin3
              case hkeep3 =>
                refine all_lt_succ (all_lt_succ (all_lt_succ (all_lt_succ (all_lt_succ (all_lt_succ (all_lt_succ (all_lt_succ all_lt_zero ?_) ?_) ?_) ?_) ?_) ?_) ?_) ?_
                · exact stays_is _
                · exact stays_is _
                · exact stays_row _ _
                · exact stays_is _
                · exact stays_num _
                · exact stays_adrS _
                · exact stays_txt _
                · exact stays_tOneS
              case hstep3 =>
                refine all_lt_succ (all_lt_succ (all_lt_succ (all_lt_succ (all_lt_succ (all_lt_succ (all_lt_succ (all_lt_succ all_lt_zero ?_) ?_) ?_) ?_) ?_) ?_) ?_) ?_
                · (intro o ho m a w1 hm hW hb hd K Q hK; obtain rfl := Option.some.inj ho; have e0 : a.tmps[5]?.getD undef = .pointer (some ⟨b, 0, none⟩) := (by rw [hb 5 (by decide +kernel)]; simp); go_simp; exact hK _ _ hW.same (kp_refl _) rfl)
                · (intro o ho m a w1 hm hW hb hd K Q hK; obtain rfl := Option.some.inj ho; have e1 := slotE (hd 0 (by kernel_rfl) 72 rfl); have hcw := kp_cell hW.2 hne HC2.out; go_simp; exact hK _ _ hW.same (kp_refl _) rfl)
                · (intro o ho m a w1 hm hW hb hd K Q hK; obtain rfl := Option.some.inj ho; go_simp; exact hK _ _ (hW.next ((Below.refl _ _).alloc (Nat.le_refl _) _)) (kp_below ((Below.refl _ _).alloc (Nat.le_refl _) _)) ⟨_, _, _, _, rfl, hW.new, heap_alloc_new w1 _, by decide +kernel⟩)
                · (intro o ho m a w1 hm hW hb hd K Q hK; obtain rfl := Option.some.inj ho; have e0 : a.tmps[0]?.getD undef = (.pointer (some ⟨g, 0, none⟩)) := (by rw [hb 0 (by decide +kernel)]; simp); go_simp; exact hK _ _ hW.same (kp_refl _) rfl)
                · (intro o ho m a w1 hm hW hb hd K Q hK; obtain rfl := Option.some.inj ho; have e1 := slotE (hd 3 (by kernel_rfl) 75 rfl); go_simp; refine (spec_pick _ _ _ _ w1 hW.1 (by omega) (by omega) (by omega)).mono ?_; rintro e w2 ⟨k, rfl, hk, hr2, hg2⟩; exact hK _ _ ⟨hr2.more (by omega), grown_trans hW.2 hg2⟩ hg2 ⟨k, rfl, hk⟩)
                · (intro o ho m a w1 hm hW hb hd K Q hK; obtain rfl := Option.some.inj ho; obtain ⟨b, cs, t, fr, e1, hbg, hh, hC⟩ := (hd 2 (by kernel_rfl) 74 rfl); obtain ⟨k, e2, hk⟩ := (hd 4 (by kernel_rfl) 76 rfl); have e1 := slotE e1; have e2 := slotE e2; have hk2 := num_lt hk (by omega); go_simp; exact hK _ _ hW.same (kp_refl _) (row_txt hbg hh hC (by omega)))
                · (intro o ho m a w1 hm hW hb hd K Q hK; obtain rfl := Option.some.inj ho; obtain ⟨b, o, x, e1, hbg, hc, hx⟩ := (hd 5 (by kernel_rfl) 77 rfl); have e1 := slotE e1; go_simp; exact hK _ _ hW.same (kp_refl _) ⟨x, rfl, hx⟩)
                · (intro o ho m a w1 hm hW hb hd K Q hK; obtain rfl := Option.some.inj ho; obtain ⟨x, e1, hx⟩ := (hd 6 (by kernel_rfl) 78 rfl); have e1 := slotE e1; go_simp; exact hK _ _ (hW.next ((Below.refl _ _).alloc (Nat.le_refl _) _)) (kp_below ((Below.refl _ _).alloc (Nat.le_refl _) _)) ⟨_, x, rfl, hW.new, heap_alloc_new w1 _, hx⟩)
              case hW3 => exact ⟨(HR.out.keep (Below.refl _ _).drew).more (by omega), grown_drew (grown_refl _ _)⟩
              case hfin3 =>
                intro vs w3 hW hF
                simp only [putAll, hdst, List.getElem?_cons_succ, List.getElem?_cons_zero, Option.bind, List.drop_succ_cons, List.drop_zero, Act.put]
                have h1 : vs 1 = .slice A l.path.length c := hF 1 (by omega)
                obtain ⟨b2, x2, h7, hbg2, hh2, hx2⟩ := hF 7 (by omega)
                rw [h1, h7]
                obtain ⟨hr3, hg3⟩ := hW
                have HL3 := Lib.hid (HL.out.grow hg3)
                have HR3 := Lib.hid hr3
                have HG3 := Lib.hid (grown_trans HG.out hg3)
                have hsz3 := HL3.out.size
                have hl9 := HS.out.2
                clear hF h1 h7 hr3 hg3
                go_simp
                go_wp2_with (at_builtin; refine app_str_at rfl _ _ rfl (b + 1) A c l.path x2 (by rfl) HL3.out.own b2 (by rfl) hh2 ?_ ?_ ?_; (focus omega); (focus omega); intro A6 c6 w6 ho6 hg6; obtain ⟨⟨f0, f1, f2, f3⟩, f4, f5, f6, f7⟩ := box_four (HL3.out.boxApp hg6); obtain ⟨⟨r0, r1, r2, r3⟩, r4, r5, r6, r7⟩ := box_four (HL3.out.app ho6 hg6 (.slice A6 (l.path.length + 1) c6) (by simp)).res; obtain ⟨⟨p0, p1, p2, p3⟩, -⟩ := box_four (HL3.out.app ho6 hg6 (.slice A6 (l.path.length + 1) c6) (by simp)).box)
                have HL := Lib.hid (HL3.out.app ho6 hg6 (.slice A6 (l.path.length + 1) c6) (by simp))
                have HR := Lib.hid (rdr_set (o := 2) (u := .slice A6 (l.path.length + 1) c6) (k := b) (HR3.out.frame hg6 (own_lt HL3.out.own (by have h2 := HL.out.lt; have h3 := HL.out.old; omega))) (by have h2 := HL.out.lt; have h3 := HL.out.old; omega))
                have HG := Lib.hid (grown_set_up (o := 2) (u := .slice A6 (l.path.length + 1) c6) (k := b) (grown_own HG3.out hg6 (by have h2 := HL.out.lt; omega) (ownS_row HL3.out.own)) (by have h2 := HL.out.lt; omega))
                refine bodyPost_ret (v := lcV { l with path := l.path ++ [x2] } A6 c6) (by simp [results, Tryd.results62, go_sem, *]) rfl ?_
                have HZ := HL.out
                have HN := HZ.lt
                have HO := HZ.old
                refine ⟨A6, c6, { l with path := l.path ++ [x2] }, rfl, ?_, ⟨HS.out.1.1, HS.out.1.2.1, HS.out.1.2.2.1, shortS_snoc HS.out.1.2.2.2 hx2⟩, by simp; omega, ?_, ?_⟩
                · exact own_off (own_off (own_off (own_off (own_base HZ.own (b := w.heap.size + 1) (by omega)) (by omega)) (by omega)) (by omega)) (by omega) |> fun h => own_base h (by omega)
                · exact (rdr_set (rdr_set (rdr_set (rdr_set HR.out (by omega)) (by omega)) (by omega)) (by omega)).more (by omega)
                · exact grown_set_up (grown_set_up (grown_set_up (grown_set_up HG.out (by omega)) (by omega)) (by omega)) (by omega)
            ·
              go_wp2_with fail
              refine (spec_pick B g _ 2 _ (HR.out.keep ((Below.refl _ _).alloc (Nat.le_refl _) _)) (by omega) (by omega) (by omega)).mono ?_
              rintro e w7 ⟨k7, rfl, hk7, hr7, hg7⟩
              have hsz7 : ws.heap.size < w7.heap.size := by have := hg7.size; simp at this; omega
              have hlit : w7.heap[ws.heap.size]? = _ := (hg7.block ws.heap.size (by simp) (by have h1 := HL.out.size; have h2 := HL.out.lt; have h3 := HL.out.old; simp; omega)).trans (heap_alloc_new ws _)
              obtain ⟨x7, hx7c, hx7⟩ := lit_str (k := k7) (B := 100) (n := 2) hlit (by decide +kernel) (by rcases hk7 with hk7 | hk7 <;> omega)
              have HL7 := Lib.hid ((HL.out.alloc _).grow hg7)
              have HR7 := Lib.hid hr7
              have HG7 := Lib.hid (grown_trans (grown_alloc HG.out _) hg7)
              clear hlit hr7 hg7
              obtain ⟨⟨f0, f1, f2, f3⟩, f4, f5, f6, f7⟩ := box_four HL7.out.box
              have HSX : Hid (SmL { l with qu := x7 } ∧ ({ l with qu := x7 } : Lc).path.length ≤ 9) := ⟨⟨HS.out.1.1, HS.out.1.2.1, hx7, HS.out.1.2.2.2⟩, HS.out.2⟩
              have HLX := Lib.hid (HL7.out.set 3 (sv x7) (l' := { l with qu := x7 }) rfl rfl)
              have HRX := Lib.hid (rdr_set (o := 3) (u := sv x7) (k := b) HR7.out (by have h2 := HL.out.lt; have h3 := HL.out.old; omega))
              have HGX := Lib.hid (grown_set_up (o := 3) (u := sv x7) (k := b) HG7.out (by have h2 := HL.out.lt; omega))
              generalize ({ l with qu := x7 } : Lc) = l at HLX HSX
              have HL := HLX
              have HS := HSX
              have HR := HRX
              have HG := HGX
              clear HLX HSX HRX HGX
              obtain ⟨⟨f0, f1, f2, f3⟩, f4, f5, f6, f7⟩ := box_four HL.out.box
              obtain ⟨⟨r0, r1, r2, r3⟩, r4, r5, r6, r7⟩ := box_four HL.out.res
              go_wp2
              refine bodyPost_ret (v := lcV l A c) (by simp [results, Tryd.results62, go_sem, *]) rfl ?_
              have HZ := HL.out
              have HN := HZ.lt
              have HO := HZ.old
              refine ⟨A, c, l, rfl, ?_, HS.out.1, by have := HS.out.2; omega, ?_, ?_⟩
              · exact own_off (own_off (own_off (own_off (own_base HZ.own (b := w.heap.size + 1) (by omega)) (by omega)) (by omega)) (by omega)) (by omega) |> fun h => own_base h (by omega)
              · exact (rdr_set (rdr_set (rdr_set (rdr_set HR.out (by omega)) (by omega)) (by omega)) (by omega)).more (by omega)
              · exact grown_set_up (grown_set_up (grown_set_up (grown_set_up HG.out (by omega)) (by omega)) (by omega)) (by omega)
        · have h1' : ((k1 : Int) == 0) = false := by simp; omega
          clear h1
          go_wp2_with fail
          refine (spec_odd B g _ n _ HR.out (by omega) hn hn0).mono ?_
          rintro e ws ⟨bo, rfl, hr1, hg1⟩
          have HL := Lib.hid (HL.out.grow hg1)
          have HG := Lib.hid (grown_trans HG.out hg1)
          have HR := Lib.hid (hr1.more (q' := q + 90) (by omega))
          clear hr1 hg1
          cases bo
          ·
            obtain ⟨⟨f0, f1, f2, f3⟩, f4, f5, f6, f7⟩ := box_four HL.out.box
            obtain ⟨⟨r0, r1, r2, r3⟩, r4, r5, r6, r7⟩ := box_four HL.out.res
            go_wp2
            refine bodyPost_ret (v := lcV l A c) (by simp [results, Tryd.results62, go_sem, *]) rfl ?_
            have HZ := HL.out
            have HN := HZ.lt
            have HO := HZ.old
            refine ⟨A, c, l, rfl, ?_, HS.out.1, by have := HS.out.2; omega, ?_, ?_⟩
            · exact own_off (own_off (own_off (own_off (own_base HZ.own (b := w.heap.size + 1) (by omega)) (by omega)) (by omega)) (by omega)) (by omega) |> fun h => own_base h (by omega)
            · exact (rdr_set (rdr_set (rdr_set (rdr_set HR.out (by omega)) (by omega)) (by omega)) (by omega)).more (by omega)
            · exact grown_set_up (grown_set_up (grown_set_up (grown_set_up HG.out (by omega)) (by omega)) (by omega)) (by omega)
          ·
            go_wp2_with fail
            refine (spec_pick B g _ 4 _ HR.out (by omega) (by omega) (by omega)).mono ?_
            rintro e ws ⟨k9, rfl, hk9, hr1, hg1⟩
            have HL := Lib.hid (HL.out.grow hg1)
            have HG := Lib.hid (grown_trans HG.out hg1)
            have HR := Lib.hid (hr1.more (q' := q + 95) (by omega))
            clear hr1 hg1 hk9
            obtain rfl | rfl | rfl | ⟨n0, n1, n2⟩ : k9 = 0 ∨ k9 = 1 ∨ k9 = 2 ∨ (((k9 : Int) == 0) = false ∧ ((k9 : Int) == 1) = false ∧ ((k9 : Int) == 2) = false) := by
              by_cases h0 : k9 = 0
              · exact .inl h0
              · by_cases h1 : k9 = 1
                · exact .inr (.inl h1)
                · by_cases h2 : k9 = 2
                  · exact .inr (.inr (.inl h2))
                  · exact .inr (.inr (.inr ⟨by simp; omega, by simp; omega, by simp; omega⟩))
            ·
              go_wp2_with fail
              refine (spec_pick B g _ 3 _ (HR.out.keep ((Below.refl _ _).alloc (Nat.le_refl _) _)) (by omega) (by omega) (by omega)).mono ?_
              rintro e w7 ⟨k7, rfl, hk7, hr7, hg7⟩
              have hsz7 : ws.heap.size < w7.heap.size := by have := hg7.size; simp at this; omega
              have hlit : w7.heap[ws.heap.size]? = _ := (hg7.block ws.heap.size (by simp) (by have h1 := HL.out.size; have h2 := HL.out.lt; have h3 := HL.out.old; simp; omega)).trans (heap_alloc_new ws _)
              obtain ⟨x7, hx7c, hx7⟩ := lit_str (k := k7) (B := 100) (n := 3) hlit (by decide +kernel) (by rcases hk7 with hk7 | hk7 <;> omega)
              have HL7 := Lib.hid ((HL.out.alloc _).grow hg7)
              have HR7 := Lib.hid hr7
              have HG7 := Lib.hid (grown_trans (grown_alloc HG.out _) hg7)
              clear hlit hr7 hg7
              obtain ⟨⟨f0, f1, f2, f3⟩, f4, f5, f6, f7⟩ := box_four HL7.out.box
              have HSX : Hid (SmL { l with sch := x7 } ∧ ({ l with sch := x7 } : Lc).path.length ≤ 9) := ⟨⟨hx7, HS.out.1.2.1, HS.out.1.2.2.1, HS.out.1.2.2.2⟩, HS.out.2⟩
              have HLX := Lib.hid (HL7.out.set 0 (sv x7) (l' := { l with sch := x7 }) rfl rfl)
              have HRX := Lib.hid (rdr_set (o := 0) (u := sv x7) (k := b) HR7.out (by have h2 := HL.out.lt; have h3 := HL.out.old; omega))
              have HGX := Lib.hid (grown_set_up (o := 0) (u := sv x7) (k := b) HG7.out (by have h2 := HL.out.lt; omega))
              generalize ({ l with sch := x7 } : Lc) = l at HLX HSX
              have HL := HLX
              have HS := HSX
              have HR := HRX
              have HG := HGX
              clear HLX HSX HRX HGX
              obtain ⟨⟨f0, f1, f2, f3⟩, f4, f5, f6, f7⟩ := box_four HL.out.box
              obtain ⟨⟨r0, r1, r2, r3⟩, r4, r5, r6, r7⟩ := box_four HL.out.res
              go_wp2
              refine bodyPost_ret (v := lcV l A c) (by simp [results, Tryd.results62, go_sem, *]) rfl ?_
              have HZ := HL.out
              have HN := HZ.lt
              have HO := HZ.old
              refine ⟨A, c, l, rfl, ?_, HS.out.1, by have := HS.out.2; omega, ?_, ?_⟩
              · exact own_off (own_off (own_off (own_off (own_base HZ.own (b := w.heap.size + 1) (by omega)) (by omega)) (by omega)) (by omega)) (by omega) |> fun h => own_base h (by omega)
              · exact (rdr_set (rdr_set (rdr_set (rdr_set HR.out (by omega)) (by omega)) (by omega)) (by omega)).more (by omega)
              · exact grown_set_up (grown_set_up (grown_set_up (grown_set_up HG.out (by omega)) (by omega)) (by omega)) (by omega)
            ·
              go_wp2_with fail
              refine (spec_pick B g _ 3 _ (HR.out.keep ((Below.refl _ _).alloc (Nat.le_refl _) _)) (by omega) (by omega) (by omega)).mono ?_
              rintro e w7 ⟨k7, rfl, hk7, hr7, hg7⟩
              have hsz7 : ws.heap.size < w7.heap.size := by have := hg7.size; simp at this; omega
              have hlit : w7.heap[ws.heap.size]? = _ := (hg7.block ws.heap.size (by simp) (by have h1 := HL.out.size; have h2 := HL.out.lt; have h3 := HL.out.old; simp; omega)).trans (heap_alloc_new ws _)
              obtain ⟨x7, hx7c, hx7⟩ := lit_str (k := k7) (B := 100) (n := 3) hlit (by decide +kernel) (by rcases hk7 with hk7 | hk7 <;> omega)
              have HL7 := Lib.hid ((HL.out.alloc _).grow hg7)
              have HR7 := Lib.hid hr7
              have HG7 := Lib.hid (grown_trans (grown_alloc HG.out _) hg7)
              clear hlit hr7 hg7
              obtain ⟨⟨f0, f1, f2, f3⟩, f4, f5, f6, f7⟩ := box_four HL7.out.box
              have HSX : Hid (SmL { l with host := x7 } ∧ ({ l with host := x7 } : Lc).path.length ≤ 9) := ⟨⟨HS.out.1.1, hx7, HS.out.1.2.2.1, HS.out.1.2.2.2⟩, HS.out.2⟩
              have HLX := Lib.hid (HL7.out.set 1 (sv x7) (l' := { l with host := x7 }) rfl rfl)
              have HRX := Lib.hid (rdr_set (o := 1) (u := sv x7) (k := b) HR7.out (by have h2 := HL.out.lt; have h3 := HL.out.old; omega))
              have HGX := Lib.hid (grown_set_up (o := 1) (u := sv x7) (k := b) HG7.out (by have h2 := HL.out.lt; omega))
              generalize ({ l with host := x7 } : Lc) = l at HLX HSX
              have HL := HLX
              have HS := HSX
              have HR := HRX
              have HG := HGX
              clear HLX HSX HRX HGX
              obtain ⟨⟨f0, f1, f2, f3⟩, f4, f5, f6, f7⟩ := box_four HL.out.box
              obtain ⟨⟨r0, r1, r2, r3⟩, r4, r5, r6, r7⟩ := box_four HL.out.res
              go_wp2
              refine bodyPost_ret (v := lcV l A c) (by simp [results, Tryd.results62, go_sem, *]) rfl ?_
              have HZ := HL.out
              have HN := HZ.lt
              have HO := HZ.old
              refine ⟨A, c, l, rfl, ?_, HS.out.1, by have := HS.out.2; omega, ?_, ?_⟩
              · exact own_off (own_off (own_off (own_off (own_base HZ.own (b := w.heap.size + 1) (by omega)) (by omega)) (by omega)) (by omega)) (by omega) |> fun h => own_base h (by omega)
              · exact (rdr_set (rdr_set (rdr_set (rdr_set HR.out (by omega)) (by omega)) (by omega)) (by omega)).more (by omega)
              · exact grown_set_up (grown_set_up (grown_set_up (grown_set_up HG.out (by omega)) (by omega)) (by omega)) (by omega)
            ·
              have HC2 := Lib.hid (box_four HL.out.box).1.2.2.1
              have hne : b ≠ g := hbg
              go_wp2_with fail
              refine wp_region_typed 8 (by kernel_rfl) (by kernel_rfl) (DW ws B g (q + 95)) (Kp g) (fun i => ([tIs (.pointer (some ⟨b, 2, none⟩)), tIs (.slice A l.path.length c), tRow g 5 (cTxt 100 5), tIs (.pointer (some ⟨g, 0, none⟩)), tNum 5, tAdrS g 100, tTxt 100, tOneS g 100] : List Ty).getD i tAny) ?hW4 ?hkeep4 ?hstep4 ?hfin4
              case hkeep4 =>
                refine all_lt_succ (all_lt_succ (all_lt_succ (all_lt_succ (all_lt_succ (all_lt_succ (all_lt_succ (all_lt_succ all_lt_zero ?_) ?_) ?_) ?_) ?_) ?_) ?_) ?_
                · exact stays_is _
                · exact stays_is _
                · exact stays_row _ _
                · exact stays_is _
                · exact stays_num _
                · exact stays_adrS _
                · exact stays_txt _
                · exact stays_tOneS
              case hstep4 =>
                refine all_lt_succ (all_lt_succ (all_lt_succ (all_lt_succ (all_lt_succ (all_lt_succ (all_lt_succ (all_lt_succ all_lt_zero ?_) ?_) ?_) ?_) ?_) ?_) ?_) ?_
                · (intro o ho m a w1 hm hW hb hd K Q hK; obtain rfl := Option.some.inj ho; have e0 : a.tmps[5]?.getD undef = .pointer (some ⟨b, 0, none⟩) := (by rw [hb 5 (by decide +kernel)]; simp); go_simp; exact hK _ _ hW.same (kp_refl _) rfl)
                · (intro o ho m a w1 hm hW hb hd K Q hK; obtain rfl := Option.some.inj ho; have e1 := slotE (hd 0 (by kernel_rfl) 72 rfl); have hcw := kp_cell hW.2 hne HC2.out; go_simp; exact hK _ _ hW.same (kp_refl _) rfl)
                · (intro o ho m a w1 hm hW hb hd K Q hK; obtain rfl := Option.some.inj ho; go_simp; exact hK _ _ (hW.next ((Below.refl _ _).alloc (Nat.le_refl _) _)) (kp_below ((Below.refl _ _).alloc (Nat.le_refl _) _)) ⟨_, _, _, _, rfl, hW.new, heap_alloc_new w1 _, by decide +kernel⟩)
                · (intro o ho m a w1 hm hW hb hd K Q hK; obtain rfl := Option.some.inj ho; have e0 : a.tmps[0]?.getD undef = (.pointer (some ⟨g, 0, none⟩)) := (by rw [hb 0 (by decide +kernel)]; simp); go_simp; exact hK _ _ hW.same (kp_refl _) rfl)
                · (intro o ho m a w1 hm hW hb hd K Q hK; obtain rfl := Option.some.inj ho; have e1 := slotE (hd 3 (by kernel_rfl) 75 rfl); go_simp; refine (spec_pick _ _ _ _ w1 hW.1 (by omega) (by omega) (by omega)).mono ?_; rintro e w2 ⟨k, rfl, hk, hr2, hg2⟩; exact hK _ _ ⟨hr2.more (by omega), grown_trans hW.2 hg2⟩ hg2 ⟨k, rfl, hk⟩)
                · (intro o ho m a w1 hm hW hb hd K Q hK; obtain rfl := Option.some.inj ho; obtain ⟨b, cs, t, fr, e1, hbg, hh, hC⟩ := (hd 2 (by kernel_rfl) 74 rfl); obtain ⟨k, e2, hk⟩ := (hd 4 (by kernel_rfl) 76 rfl); have e1 := slotE e1; have e2 := slotE e2; have hk2 := num_lt hk (by omega); go_simp; exact hK _ _ hW.same (kp_refl _) (row_txt hbg hh hC (by omega)))
                · (intro o ho m a w1 hm hW hb hd K Q hK; obtain rfl := Option.some.inj ho; obtain ⟨b, o, x, e1, hbg, hc, hx⟩ := (hd 5 (by kernel_rfl) 77 rfl); have e1 := slotE e1; go_simp; exact hK _ _ hW.same (kp_refl _) ⟨x, rfl, hx⟩)
                · (intro o ho m a w1 hm hW hb hd K Q hK; obtain rfl := Option.some.inj ho; obtain ⟨x, e1, hx⟩ := (hd 6 (by kernel_rfl) 78 rfl); have e1 := slotE e1; go_simp; exact hK _ _ (hW.next ((Below.refl _ _).alloc (Nat.le_refl _) _)) (kp_below ((Below.refl _ _).alloc (Nat.le_refl _) _)) ⟨_, x, rfl, hW.new, heap_alloc_new w1 _, hx⟩)
              case hW4 => exact ⟨(HR.out.keep (Below.refl _ _).drew).more (by omega), grown_drew (grown_refl _ _)⟩
              case hfin4 =>
                intro vs w3 hW hF
                simp only [putAll, hdst, List.getElem?_cons_succ, List.getElem?_cons_zero, Option.bind, List.drop_succ_cons, List.drop_zero, Act.put]
                have h1 : vs 1 = .slice A l.path.length c := hF 1 (by omega)
                obtain ⟨b2, x2, h7, hbg2, hh2, hx2⟩ := hF 7 (by omega)
                rw [h1, h7]
                obtain ⟨hr3, hg3⟩ := hW
                have HL3 := Lib.hid (HL.out.grow hg3)
                have HR3 := Lib.hid hr3
                have HG3 := Lib.hid (grown_trans HG.out hg3)
                have hsz3 := HL3.out.size
                have hl9 := HS.out.2
                clear hF h1 h7 hr3 hg3
                go_simp
                go_wp2_with (at_builtin; refine app_str_at rfl _ _ rfl (b + 1) A c l.path x2 (by rfl) HL3.out.own b2 (by rfl) hh2 ?_ ?_ ?_; (focus omega); (focus omega); intro A6 c6 w6 ho6 hg6; obtain ⟨⟨f0, f1, f2, f3⟩, f4, f5, f6, f7⟩ := box_four (HL3.out.boxApp hg6); obtain ⟨⟨r0, r1, r2, r3⟩, r4, r5, r6, r7⟩ := box_four (HL3.out.app ho6 hg6 (.slice A6 (l.path.length + 1) c6) (by simp)).res; obtain ⟨⟨p0, p1, p2, p3⟩, -⟩ := box_four (HL3.out.app ho6 hg6 (.slice A6 (l.path.length + 1) c6) (by simp)).box)
                have HL := Lib.hid (HL3.out.app ho6 hg6 (.slice A6 (l.path.length + 1) c6) (by simp))
                have HR := Lib.hid (rdr_set (o := 2) (u := .slice A6 (l.path.length + 1) c6) (k := b) (HR3.out.frame hg6 (own_lt HL3.out.own (by have h2 := HL.out.lt; have h3 := HL.out.old; omega))) (by have h2 := HL.out.lt; have h3 := HL.out.old; omega))
                have HG := Lib.hid (grown_set_up (o := 2) (u := .slice A6 (l.path.length + 1) c6) (k := b) (grown_own HG3.out hg6 (by have h2 := HL.out.lt; omega) (ownS_row HL3.out.own)) (by have h2 := HL.out.lt; omega))
                refine bodyPost_ret (v := lcV { l with path := l.path ++ [x2] } A6 c6) (by simp [results, Tryd.results62, go_sem, *]) rfl ?_
                have HZ := HL.out
                have HN := HZ.lt
                have HO := HZ.old
                refine ⟨A6, c6, { l with path := l.path ++ [x2] }, rfl, ?_, ⟨HS.out.1.1, HS.out.1.2.1, HS.out.1.2.2.1, shortS_snoc HS.out.1.2.2.2 hx2⟩, by simp; omega, ?_, ?_⟩
                · exact own_off (own_off (own_off (own_off (own_base HZ.own (b := w.heap.size + 1) (by omega)) (by omega)) (by omega)) (by omega)) (by omega) |> fun h => own_base h (by omega)
                · exact (rdr_set (rdr_set (rdr_set (rdr_set HR.out (by omega)) (by omega)) (by omega)) (by omega)).more (by omega)
                · exact grown_set_up (grown_set_up (grown_set_up (grown_set_up HG.out (by omega)) (by omega)) (by omega)) (by omega)
            ·
              go_wp2_with fail
              refine (spec_pick B g _ 2 _ (HR.out.keep ((Below.refl _ _).alloc (Nat.le_refl _) _)) (by omega) (by omega) (by omega)).mono ?_
              rintro e w7 ⟨k7, rfl, hk7, hr7, hg7⟩
              have hsz7 : ws.heap.size < w7.heap.size := by have := hg7.size; simp at this; omega
              have hlit : w7.heap[ws.heap.size]? = _ := (hg7.block ws.heap.size (by simp) (by have h1 := HL.out.size; have h2 := HL.out.lt; have h3 := HL.out.old; simp; omega)).trans (heap_alloc_new ws _)
              obtain ⟨x7, hx7c, hx7⟩ := lit_str (k := k7) (B := 100) (n := 2) hlit (by decide +kernel) (by rcases hk7 with hk7 | hk7 <;> omega)
              have HL7 := Lib.hid ((HL.out.alloc _).grow hg7)
              have HR7 := Lib.hid hr7
              have HG7 := Lib.hid (grown_trans (grown_alloc HG.out _) hg7)
              clear hlit hr7 hg7
              obtain ⟨⟨f0, f1, f2, f3⟩, f4, f5, f6, f7⟩ := box_four HL7.out.box
              have HSX : Hid (SmL { l with qu := x7 } ∧ ({ l with qu := x7 } : Lc).path.length ≤ 9) := ⟨⟨HS.out.1.1, HS.out.1.2.1, hx7, HS.out.1.2.2.2⟩, HS.out.2⟩
              have HLX := Lib.hid (HL7.out.set 3 (sv x7) (l' := { l with qu := x7 }) rfl rfl)
              have HRX := Lib.hid (rdr_set (o := 3) (u := sv x7) (k := b) HR7.out (by have h2 := HL.out.lt; have h3 := HL.out.old; omega))
              have HGX := Lib.hid (grown_set_up (o := 3) (u := sv x7) (k := b) HG7.out (by have h2 := HL.out.lt; omega))
              generalize ({ l with qu := x7 } : Lc) = l at HLX HSX
              have HL := HLX
              have HS := HSX
              have HR := HRX
              have HG := HGX
              clear HLX HSX HRX HGX
              obtain ⟨⟨f0, f1, f2, f3⟩, f4, f5, f6, f7⟩ := box_four HL.out.box
              obtain ⟨⟨r0, r1, r2, r3⟩, r4, r5, r6, r7⟩ := box_four HL.out.res
              go_wp2
              refine bodyPost_ret (v := lcV l A c) (by simp [results, Tryd.results62, go_sem, *]) rfl ?_
              have HZ := HL.out
              have HN := HZ.lt
              have HO := HZ.old
              refine ⟨A, c, l, rfl, ?_, HS.out.1, by have := HS.out.2; omega, ?_, ?_⟩
              · exact own_off (own_off (own_off (own_off (own_base HZ.own (b := w.heap.size + 1) (by omega)) (by omega)) (by omega)) (by omega)) (by omega) |> fun h => own_base h (by omega)
              · exact (rdr_set (rdr_set (rdr_set (rdr_set HR.out (by omega)) (by omega)) (by omega)) (by omega)).more (by omega)
              · exact grown_set_up (grown_set_up (grown_set_up (grown_set_up HG.out (by omega)) (by omega)) (by omega)) (by omega)
end Go.Proofs.YtmijnkiopmpjdaaDoor
