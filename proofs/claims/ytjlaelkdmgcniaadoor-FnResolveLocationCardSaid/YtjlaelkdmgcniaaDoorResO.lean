/- A location of its own, of spec: a walk. -/
import Derived.Test.YtjlaelkdmgcniaaDoorResI
namespace Go.Proofs.YtjlaelkdmgcniaaDoor
open Go.RowKit

theorem app_fresh {ops : Array Oper} {rest : List Oper} {o : Oper} {a : Act} {Q : Exit → Act → World → Prop} {W : World} (hgd : o.guard = none) (s x : Operand)
    (ho : o.op = .call { callee := .builtin .append, args := #[s, x], argTypes := #[23, 23] }) (B g : Nat)
    (hs : a.eval s = .slice (some ⟨g, 0, none⟩) 0 0) (hBg : B ≤ g) (hg : W.heap[g]? = some (.cells #[] 9 (0, 0))) (A' : Option Addr) (c' : Nat) (ys : List Tx) (hx : a.eval x = .slice A' ys.length c') (hrd : Rd W W.heap.size A' (scells ys))
    (hlen : ys.length ≤ 4294967296) (hB : B ≤ W.heap.size)
    (h : ∀ A2 c2 w', OwnS w' B A2 c2 ys → Below W.heap.size W w' → wpList Tryd.prog ops Q rest (a.put o.dst (.slice A2 ys.length c2)) w') : wpList Tryd.prog ops Q (o :: rest) a W :=
  wpList_plain hgd fun _ hK => wp_app_fresh s x ho B g hs hBg hg A' c' ys hx hrd hlen hB fun A2 c2 w' h1 h2 => hK _ _ (h A2 c2 w' h1 h2)
theorem three_boxes (w : World) (cs ds es : Array Value) (t u v : TypeId) : Below w.heap.size w (((w.alloc (.cells cs t)).alloc (.cells ds u)).alloc (.cells es v)) ∧ (((w.alloc (.cells cs t)).alloc (.cells ds u)).alloc (.cells es v)).heap[w.heap.size]? = some (.cells cs t (0, 0)) ∧ (((w.alloc (.cells cs t)).alloc (.cells ds u)).alloc (.cells es v)).heap[w.heap.size + 1]? = some (.cells ds u (0, 0)) ∧ (((w.alloc (.cells cs t)).alloc (.cells ds u)).alloc (.cells es v)).heap[w.heap.size + 2]? = some (.cells es v (0, 0)) := by
  obtain ⟨h1, h2, h3⟩ := two_boxes w cs ds t u
  have hs : ((w.alloc (.cells cs t)).alloc (.cells ds u)).heap.size = w.heap.size + 2 := by simp
  have h4 := heap_alloc_new ((w.alloc (.cells cs t)).alloc (.cells ds u)) (.cells es v)
  rw [hs] at h4
  exact ⟨h1.alloc h1.size _, (heap_alloc_old _ _ (by omega)).trans h2, (heap_alloc_old _ _ (by omega)).trans h3, h4⟩
set_option maxRecDepth 100000 in
set_option maxHeartbeats 2000000 in
theorem spec_l1OwnLocation (l : Lc) (A : Option Addr) (c : Nat) (w : World) (hr : Rd w w.heap.size A (scells l.path)) (hpl : l.path.length ≤ 4294967296) :
    Calls Tryd.prog 19 #[lcV l A c] w (NewL w l) := by
  obtain ⟨hB0, hX0, hZ0, hY0⟩ := three_boxes w (lcCells l A c) #[.string ⟨#[]⟩, .string ⟨#[]⟩, .slice none 0 0, .string ⟨#[]⟩] (lcCells l A c) 25 25 25
  have hs0 : (((w.alloc (.cells (lcCells l A c) 25)).alloc (.cells #[.string ⟨#[]⟩, .string ⟨#[]⟩, .slice none 0 0, .string ⟨#[]⟩] 25)).alloc (.cells (lcCells l A c) 25)).heap.size = w.heap.size + 3 := by simp
  have HB0 := Lib.hid hB0
  have HX0 := Lib.hid hX0
  have HZ0 := Lib.hid hZ0
  have HY0 := Lib.hid hY0
  have HS0 := Lib.hid hs0
  have HR0 := Lib.hid (hr.below hB0 |>.more hB0.size)
  obtain ⟨hBt, hXt, hZt⟩ := two_boxes w (lcCells l A c) #[.string ⟨#[]⟩, .string ⟨#[]⟩, .slice none 0 0, .string ⟨#[]⟩] 25 25
  obtain ⟨⟨t0, t1, t2, t3⟩, -⟩ := box_four hXt
  clear hB0 hX0 hZ0 hY0 hs0 hr
  go_enter Tryd.func19, Tryd.ntmps19
  go_upto_region 2 with fail
  generalize ((w.alloc (.cells (lcCells l A c) 25)).alloc (.cells #[.string ⟨#[]⟩, .string ⟨#[]⟩, .slice none 0 0, .string ⟨#[]⟩] 25)).alloc (.cells (lcCells l A c) 25) = w0 at *
  have HA1 := Lib.hid ((Below.refl w0.heap.size w0).alloc (Nat.le_refl _) (.cells #[] 9))
  have HXA := Lib.hid (heap_alloc_new w0 (.cells #[] 9))
  have HR1 := Lib.hid (HR0.out.below HA1.out |>.more HA1.out.size)
  have hs0 := HS0.out
  have HXB : Hid ((w0.alloc (.cells #[] 9)).heap[w.heap.size + 3]? = some (.cells #[] 9 (0, 0))) := by show _ = _; rw [← hs0]; exact HXA.out
  have hza : (w0.alloc (.cells #[] 9)).heap.size = w0.heap.size + 1 := by simp
  obtain ⟨⟨f0, f1, f2, f3⟩, -⟩ := box_four HX0.out
  have hx0 : w.heap.size < w0.heap.size := by omega
  clear t0 t1 t2 t3 hBt hXt hZt
  go_wp2_with (at_builtin; refine app_fresh rfl _ _ rfl (w.heap.size + 3) (w.heap.size + 3) (by rfl) ?_ HXB.out A c l.path (by rfl) HR1.out hpl ?_ ?_; (focus omega); (focus omega); intro A2 c2 w5 ho5 hb5; obtain ⟨⟨q0, q1, q2, q3⟩, q4, q5, q6, q7⟩ := box_four (bx_keep (bx_keep HY0.out HA1.out) hb5); obtain ⟨⟨z0, z1, z2, z3⟩, z4, z5, z6, z7⟩ := box_four (bx_keep (bx_keep HZ0.out HA1.out) hb5))
  refine bodyPost_ret (v := lcV l A2 c2) (by simp [results, Tryd.results19, go_sem, *]) rfl ?_
  have hb15 := HA1.out.trans (hb5.mono HA1.out.size)
  refine ⟨A2, c2, rfl, own_base (own_off (own_off (own_off (own_off (own_off ho5 (by omega)) (by omega)) (by omega)) (by omega)) (by omega)) (by omega), ?_⟩
  exact put4_below (Below.setCell (HB0.out.trans (hb15.mono HB0.out.size)) (p := ⟨w.heap.size + 2, 2, none⟩) (by show w.heap.size ≤ w.heap.size + 2; omega) _) (w.heap.size + 1) _ _ _ _ (by omega)
end Go.Proofs.YtjlaelkdmgcniaaDoor
