/- What the library's calls read of its own variables. No function of the program is walked here. -/
import Derived.Test.YtdmmnjnbjigdeaaDoorHm
import Derived.Test.YtdmmnjnbjigdeaaDoorRows
import Derived.Lib.LaidTab
import Derived.Lib.SmallJoins
import Derived.LaidLaws
namespace Go.Proofs.YtdmmnjnbjigdeaaDoor
open Go.RowKit

/-- the library's own variables: bytealg.MaxLen, the powers of ten -/
structure Env (w : World) : Prop where
  hm : Hm w
  tab : Lib.TabIs Tryd.prog w "internal/strconv.uint64pow10" .u64 Lib.pow10Tab
theorem Env.below {w w' : World} (h : Env w) (hb : Below w.heap.size w w') : Env w' :=
  ⟨h.hm.below hb, Joins.tab_stays (g := 2) (by kernel_rfl) h.tab hb (Nat.le_refl _)⟩
/-- and ErrSyntax -/
def ErrIs (w : World) : Prop := ∃ te pe, w.cell? ⟨0, 0, none⟩ = some (.iface te pe)
theorem ErrIs.below {w w' : World} (h : ErrIs w) (hb : Below w.heap.size w w') : ErrIs w' := by
  obtain ⟨te, pe, h⟩ := h
  refine ⟨te, pe, (hb.cell (p := ⟨0, 0, none⟩) ?_).trans h⟩
  rcases Nat.lt_or_ge 0 w.heap.size with h0 | h0
  · exact h0
  · have : w.heap[(0 : Nat)]? = none := Array.getElem?_eq_none h0
    simp [World.cell?, this] at h
theorem laid_mem {P : Program} {w : World} : ∀ {l : List (String × DataW Unit)} {ps : List MemPlace}, DataW.LaidVars P w l ps → ∀ {n : String} {d : DataW Unit}, (n, d) ∈ l →
    ∃ g t cs fuel p, P.globalNamed n = some g ∧ (P.globals[g]?).map (·.type) = some t ∧ w.var? P n = some cs ∧ DataW.trod (fun _ => ()) P w 0 (fun _ => true) false fuel t cs.toList = some (d, p)
  | (n', d') :: r, ps, h, n, d, hm => by
    obtain ⟨g, t, cs, fuel, p, q, h1, h2, h3, h4, h5, _⟩ := h
    rcases List.mem_cons.1 hm with e | hm
    · injection e with e1 e2
      subst e1 e2
      exact ⟨g, t, cs, fuel, p, h1, h2, h3, h4⟩
    · exact laid_mem h5 hm
theorem tabIs_of_mem {P : Program} {W : World} {name : String} {k : IntKind} {zs : List Int} {l : List (String × DataW Unit)} {g : Nat} {t e : TypeId} {n : Nat}
    (hg : P.globalNamed name = some g) (hty : (P.globals[g]?).map (·.type) = some t) (ht : P.underlying t = some (.array n e)) (he : P.underlying e = some (.int k)) (hce : P.cellsOf e = 1) (hct : P.cellsOf t = n)
    (h : laidMet P l W) (hmem : (name, Lib.tabData k zs) ∈ l) : Lib.TabIs P W name k zs := by
  obtain ⟨ps, h, _⟩ := h
  obtain ⟨g', t', cs, fuel, p, hg', ht', hvar, hd⟩ := laid_mem h hmem
  obtain rfl := Option.some.inj (hg.symm.trans hg')
  obtain rfl := Option.some.inj (hty.symm.trans ht')
  unfold Lib.TabIs
  rw [hvar, ← Lib.cells_of_tab ht he hce hct hd]
theorem errIs_of_mem {W : World} {l : List (String × DataW Unit)} {nm : String} {d : DataW Unit} {t : TypeId} {ms : Array (String × TypeId)}
    (hty : (Tryd.prog.globals[(0 : Nat)]?).map (·.type) = some t) (hi : Tryd.prog.underlying t = some (.interface ms)) (h : laidMet Tryd.prog l W) (hmem : ("strconv.ErrSyntax", DataW.iface nm d) ∈ l) : ErrIs W := by
  have hg : Tryd.prog.globalNamed "strconv.ErrSyntax" = some 0 := by kernel_rfl
  obtain ⟨ps, h, _⟩ := h
  obtain ⟨g', t', cs, fuel, p, hg', ht', hvar, hd⟩ := laid_mem h hmem
  obtain rfl := Option.some.inj (hg.symm.trans hg')
  obtain rfl := Option.some.inj (hty.symm.trans ht')
  obtain ⟨f', u, v, hcs, _, _⟩ := iface_of_trod hi hd
  have h0 := World.var?_cell hg hvar 0
  refine ⟨u, v, ?_⟩
  have : cs[0]? = some (.iface u v) := by rw [← Array.getElem?_toList, hcs]; rfl
  rw [this] at h0
  exact h0
theorem env_of {W : World} {l : List (String × DataW Unit)} (hsh : W.ShapedOpen Tryd.prog) (h : laidMet Tryd.prog l W) (hmem : ("internal/strconv.uint64pow10", Lib.tabData .u64 Lib.pow10Tab) ∈ l) : Env W :=
  ⟨hm_shaped hsh, tabIs_of_mem (g := 2) (by kernel_rfl) (by kernel_rfl) Tryd.underlying121 Tryd.underlying103 (by kernel_rfl) (by kernel_rfl) h hmem⟩
end Go.Proofs.YtdmmnjnbjigdeaaDoor
