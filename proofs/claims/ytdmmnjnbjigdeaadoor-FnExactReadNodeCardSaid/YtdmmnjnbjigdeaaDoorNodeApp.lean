/- Texts that lie elsewhere, appended to texts of the call's own, whatever a nil slice's capacity. No function of the program is walked here. -/
import Derived.Test.YtdmmnjnbjigdeaaDoorNodeBx
namespace Go.Proofs.YtdmmnjnbjigdeaaDoor
open Go.RowKit

theorem run_append_none_any {P : Program} {w : World} (base : Nat) (t ty e : TypeId) (i : TypeInfo) (size c' : Nat) (ht : P.underlying t = some (.slice e)) (hi : P.info? e = some i)
    (v : Value) (n : Nat) (xs : List Value) (hown : w.ownsRow base e size v n xs) : (Builtin.append_ #[t, t] ty #[v, .slice none 0 c']).run P w = .ok v w := by
  rcases hown.2 with ⟨rfl, rfl⟩ | ⟨g, cap, cur, rfl, _, _, hnc, _⟩
  · simp [Builtin.append_, run_underlying ht, sizeOf, typeInfo, hi, Builtin.lenOf, Builtin.firstCells]
  · simp [Builtin.append_, run_underlying ht, sizeOf, typeInfo, hi, Builtin.lenOf, Builtin.firstCells, hnc, storeCells]
theorem scells_sv (ys : List Tx) : scells ys = ys.map sv := rfl
theorem app_texts {ops : Array Oper} {rest : List Oper} {o : Oper} {a : Act} {Q : Exit → Act → World → Prop} {W : World} (hgd : o.guard = none) (s x : Operand)
    (ho : o.op = .call { callee := .builtin .append, args := #[s, x], argTypes := #[23, 23] }) (base : Nat) (A : Option Addr) (c : Nat) (xs : List Tx)
    (hs : a.eval s = .slice A xs.length c) (hown : OwnS W base A c xs) (A' : Option Addr) (c' : Nat) (ys : List Tx) (hx : a.eval x = .slice A' ys.length c') {S : Nat → Prop} (hrd : RdIn W S A' (scells ys)) (hS : ∀ b, S b → b < W.heap.size)
    (hlen : xs.length + ys.length ≤ 4294967296) (hbase : base ≤ W.heap.size)
    (h : ∀ A2 c2 w', OwnS w' base A2 c2 (xs ++ ys) → W.grownBy w' (Value.ownBlock (.slice A xs.length c)) → wpList Tryd.prog ops Q rest (a.put o.dst (.slice A2 (xs.length + ys.length) c2)) w') :
    wpList Tryd.prog ops Q (o :: rest) a W := by
  obtain ⟨i0, hi, hz0, hz1, hz2⟩ := info_parts Tryd.info_string
  cases A' with
  | none =>
    have hy : ys = [] := by
      refine Classical.byContradiction fun hne => ?_
      obtain ⟨b, o', e', _⟩ := hrd (by simpa [scells] using hne)
      cases e'
    subst hy
    have hr := run_append_none_any (P := Tryd.prog) base 23 o.type _ i0 1 c' Tryd.underlying23 hi _ _ _ hown
    refine wpList_plain hgd fun _ hK => ?_
    unfold Oper.wp execOp
    simp only [ho, resolve, invoke, builtin, Sem.run_bind, Sem.run_pure, Result.andThen_ok, List.map_toArray, List.map_cons, List.map_nil, hs, hx, List.length_nil, hr]
    exact hK _ _ (h A c W (by simpa using hown) (grown_refl _ _))
  | some ad =>
    refine app_rows hgd s x ho Tryd.underlying23 hi hz0 hz1 hz2 rfl (by decide) _ hs hown (some ad) ys.length c' (ys.map sv) hx (fun e => by cases e) (by simp) (hrd.rd hS) (fun u hu => by obtain ⟨y, _, rfl⟩ := List.mem_map.1 hu; rfl) (by unfold maxLen; omega) (by omega) hbase ?_
    intro v' w' ho' hg'
    obtain ⟨A2, c2, rfl, _, _⟩ := own_shape ho'
    refine h A2 c2 w' ?_ hg'
    unfold OwnS
    rw [List.length_append, List.map_append]
    exact ho'
end Go.Proofs.YtdmmnjnbjigdeaaDoor
