/- What an operation of a drawing region yields, at cookies. -/
import Derived.Test.YtlafdpndpjcklaaDrawT
import Derived.Test.YtlafdpndpjcklaaCookieS
import Derived.Test.YtlafdpndpjcklaaOpenC
namespace Go.Proofs.Ytlafdpndpjcklaa
open Go.RowKit

def tCk (B : Nat) : Ty := fun _ v => ∃ a b : Tx, ∃ z : Int, v = .agg #[sv a, sv b, .int .i64 z] ∧ a.length ≤ B ∧ b.length ≤ B ∧ -10000 ≤ z ∧ z ≤ 10000
def tCz : Ty := fun _ v => ∃ z : Int, v = .agg #[sv [122], sv [], .int .i64 z] ∧ -10000 ≤ z ∧ z ≤ 10000
def tOneC (g B : Nat) (t : TypeId) : Ty := fun w v => ∃ b, ∃ x y : Tx, ∃ z : Int, v = .slice (some ⟨b, 0, none⟩) 1 1 ∧ b ≠ g ∧ w.heap[b]? = some (.cells #[sv x, sv y, .int .i64 z] t (0, 0)) ∧ x.length ≤ B ∧ y.length ≤ B ∧ -10000 ≤ z ∧ z ≤ 10000
def tByte : Ty := fun _ v => ∃ c : UInt8, v = .int .u8 (c.toNat : Int)
def tOneB (g : Nat) : Ty := fun w v => ∃ b, ∃ c : UInt8, ∃ t, v = .slice (some ⟨b, 0, none⟩) 1 1 ∧ b ≠ g ∧ w.heap[b]? = some (.cells #[.int .u8 (c.toNat : Int)] t (0, 0))
def tAdrC (g B : Nat) : Ty := fun w v => ∃ b o, ∃ x y : Tx, ∃ z : Int, v = .pointer (some ⟨b, o, none⟩) ∧ b ≠ g ∧ w.cell? ⟨b, o, none⟩ = some (sv x) ∧ w.cell? ⟨b, o + 1, none⟩ = some (sv y) ∧ w.cell? ⟨b, o + 2, none⟩ = some (.int .i64 z) ∧ x.length ≤ B ∧ y.length ≤ B ∧ -10000 ≤ z ∧ z ≤ 10000
section
variable {g : Nat}
theorem stays_tCk {n : Nat} : Stays g (tCk n) := fun _ _ _ _ h => h
theorem stays_tCz : Stays g tCz := fun _ _ _ _ h => h
theorem stays_tByte : Stays g tByte := fun _ _ _ _ h => h
theorem stays_tOneC {n : Nat} {t : TypeId} : Stays g (tOneC g n t) := fun _ _ _ hk ⟨b, x, y, z, h1, h2, h3, h4⟩ => ⟨b, x, y, z, h1, h2, kp_block hk h2 h3, h4⟩
theorem stays_tOneB : Stays g (tOneB g) := fun _ _ _ hk ⟨b, c, t, h1, h2, h3⟩ => ⟨b, c, t, h1, h2, kp_block hk h2 h3⟩
theorem stays_tAdrC {n : Nat} : Stays g (tAdrC g n) := fun _ _ _ hk ⟨b, o, x, y, z, h1, h2, h3, h4, h5, h6⟩ => ⟨b, o, x, y, z, h1, h2, kp_cell hk h2 h3, kp_cell hk h2 h4, kp_cell hk h2 h5, h6⟩
end
theorem byte_in (z : Int) (h0 : 0 ≤ z) (h1 : z ≤ 255) {w : World} : tByte w (.int .u8 z) := by
  refine ⟨UInt8.ofNat z.toNat, ?_⟩
  have : ((UInt8.ofNat z.toNat).toNat : Int) = z := by rw [UInt8.toNat_ofNat']; omega
  rw [this]
theorem byte_wrap (z : Int) {w : World} : tByte w (.int .u8 (IntKind.u8.wrap z)) := by
  refine byte_in _ ?_ ?_ <;> simp only [IntKind.wrap, IntKind.bits, IntKind.signed] <;> simp <;> omega
theorem bytes_str (w : World) {b : Nat} {c : UInt8} {t : TypeId} (hh : w.heap[b]? = some (.cells #[.int .u8 (c.toNat : Int)] t (0, 0))) :
    (convert 22 9 (.slice (some ⟨b, 0, none⟩) 1 1)).run Try.prog w = .ok (.string ⟨[c].toArray⟩) w := by
  refine run_convert_bytes_back w 22 9 5 ⟨b, 0, none⟩ 1 [c] Try.underlying22 Try.underlying5 Try.underlying9 ?_
  intro j hj
  have hj0 : j = 0 := by simpa using hj
  subst hj0
  simp only [List.getElem_cons_zero]
  show w.cell? ⟨b, 0, none⟩ = _
  rw [cell_of_row w b 0 _ _ _ hh]; rfl
/-- n cookies of short texts -/
def okC : Nat → Nat → List Value → Bool
  | _, 0, [] => true
  | B, n + 1, .string a :: .string b :: .int .i64 z :: t => decide (a.size ≤ B) && decide (b.size ≤ B) && decide (-10000 ≤ z) && decide (z ≤ 10000) && okC B n t
  | _, _, _ => false
theorem okC_get : ∀ (B n : Nat) (cs : List Value), okC B n cs = true → ∀ k, k < n → ∃ a b : Tx, ∃ z : Int, cs[k * 3]? = some (sv a) ∧ cs[k * 3 + 1]? = some (sv b) ∧ cs[k * 3 + 2]? = some (.int .i64 z) ∧ a.length ≤ B ∧ b.length ≤ B ∧ -10000 ≤ z ∧ z ≤ 10000
  | B, n + 1, .string a :: .string b :: .int .i64 z :: t, h, 0, _ => by
    simp only [okC, Bool.and_eq_true, decide_eq_true_eq] at h
    obtain ⟨x, rfl⟩ := tx_of a
    obtain ⟨y, rfl⟩ := tx_of b
    exact ⟨x, y, z, rfl, rfl, rfl, h.1.1.1.1, h.1.1.1.2, h.1.1.2, h.1.2⟩
  | B, n + 1, .string a :: .string b :: .int .i64 z :: t, h, k + 1, hk => by
    simp only [okC, Bool.and_eq_true] at h
    obtain ⟨x, y, z', h1, h2, h3, h4⟩ := okC_get B n t h.2 k (by omega)
    refine ⟨x, y, z', ?_, ?_, ?_, h4⟩
    · rw [show (k + 1) * 3 = k * 3 + 1 + 1 + 1 by omega]; simpa using h1
    · rw [show (k + 1) * 3 + 1 = k * 3 + 1 + 1 + 1 + 1 by omega]; simpa using h2
    · rw [show (k + 1) * 3 + 2 = k * 3 + 2 + 1 + 1 + 1 by omega]; simpa using h3
  | _, 0, _, _, k, hk => absurd hk (by omega)
abbrev cCk (B n : Nat) (cs : List Value) : Prop := okC B n cs = true
theorem row_ck {g B n : Nat} {w : World} {b k : Nat} {cs : Array Value} {t : TypeId} {fr : Nat × Nat} (hb : b ≠ g) (h : w.heap[b]? = some (.cells cs t fr)) (hC : cCk B n cs.toList) (hk : k < n) : tAdrC g B w (.pointer (some ⟨b, k * 3, none⟩)) := by
  obtain ⟨x, y, z, h1, h2, h3, h4⟩ := okC_get B n _ hC k hk
  refine ⟨b, k * 3, x, y, z, rfl, hb, ?_, ?_, ?_, h4⟩
  · rw [cell_of_row w b _ cs t fr h, ← Array.getElem?_toList]; exact h1
  · rw [cell_of_row w b _ cs t fr h, ← Array.getElem?_toList]; exact h2
  · rw [cell_of_row w b _ cs t fr h, ← Array.getElem?_toList]; exact h3
/-- a cookie that lies in a block of its own, appended to cookies of the call's own -/
theorem app_cookie_at {ops : Array Oper} {rest : List Oper} {o : Oper} {a : Act} {Q : Exit → Act → World → Prop} {W : World} (hgd : o.guard = none) (s x : Operand)
    (ho : o.op = .call { callee := .builtin .append, args := #[s, x], argTypes := #[23, 23] }) (base : Nat) (A : Option Addr) (c : Nat) (ps : List Ck) (u v : Tx) (z : Int)
    (hs : a.eval s = .slice A ps.length c) (hown : OwnC W base A c ps) (b : Nat) (hx : a.eval x = .slice (some ⟨b, 0, none⟩) 1 1) (hh : W.heap[b]? = some (.cells #[sv u, sv v, .int .i64 z] 25 (0, 0))) (hlen : ps.length ≤ 4294967296) (hbase : base ≤ W.heap.size)
    (h : ∀ A' c' w', OwnC w' base A' c' (ps ++ [(u, v, z)]) → W.grownBy w' (Value.ownBlock (.slice A ps.length c)) → wpList Try.prog ops Q rest (a.put o.dst (.slice A' (ps ++ [(u, v, z)]).length c')) w') :
    wpList Try.prog ops Q (o :: rest) a W := by
  obtain ⟨i0, hi, hz0, hz1, hz2⟩ := info_parts Try.info_Cookie
  refine wpList_append_own _ hgd s x _ ho base _ i0 _ 3 40 Try.underlying23 hi hz0 hz1 hz2 rfl (by decide) _ _ _ hs hown ⟨b, 0, none⟩ 1 1 [sv u, sv v, .int .i64 z] hx rfl ?_ ?_ (by unfold maxLen; omega) (by omega) hbase ?_
  · intro j y hj
    rw [Addr.add_lit, Nat.zero_add, cell_of_row W b j _ _ _ hh]
    simpa using hj
  · intro y hy
    simp at hy
    rcases hy with rfl | rfl | rfl <;> rfl
  · intro v' w' ho' hg' _
    obtain ⟨A', c', rfl, _, _⟩ := own_shape ho'
    have hl : (ps ++ [(u, v, z)]).length = ps.length + 1 := by simp
    rw [hl] at h
    refine h A' c' w' ?_ hg'
    unfold OwnC
    rw [List.length_append, ccells_append]
    exact ho'

/-- short texts, small times -/
def SmallC (ps : List Ck) : Prop := ps.length ≤ 2000000 ∧ ∀ p ∈ ps, p.1.length ≤ 100 ∧ p.2.1.length ≤ 100 ∧ -10000 ≤ p.2.2 ∧ p.2.2 ≤ 10000
def DrawnCs (w : World) (B g q m : Nat) (e : Ending) (w' : World) : Prop :=
  ∃ A c ps, e = .returned (.slice A (List.length ps) c) ∧ OwnC w' w.heap.size A c ps ∧ SmallC ps ∧ ps.length ≤ 10 ∧ Rdr w' B g (q + m) ∧ w.grownBy w' (some g)
def DrewCs (w : World) (e : Ending) (w' : World) : Prop :=
  ∃ A c ps, e = .returned (.slice A (List.length ps) c) ∧ OwnC w' w.heap.size A c ps ∧ SmallC ps ∧ ps.length ≤ 10 ∧ Below w.heap.size w w'
theorem drewCs_of {w w1 w2 : World} {A : Option Addr} {c q : Nat} {ps : List Ck} (hb1 : Below w.heap.size w w1) (ho : OwnC w2 w1.heap.size A c ps) (hs : SmallC ps) (hn : ps.length ≤ 10) (_ : Rdr w2 w.heap.size w.heap.size q) (hg : w1.grownBy w2 (some w.heap.size)) :
    DrewCs w (.returned (.slice A (List.length ps) c)) w2 :=
  ⟨A, c, ps, rfl, own_base ho hb1.size, hs, hn, hb1.trans (grown_to_below hg hb1.size (fun g h => by injection h; omega))⟩
theorem smallC_fit {ps : List Ck} (h : SmallC ps) : FitC ps := fun p hp => by
  have := h.2 p hp
  unfold maxLen
  omega
theorem smallC_snoc {ps : List Ck} {u v : Tx} {z : Int} (h : SmallC ps) (hn : ps.length ≤ 100) (hu : u.length ≤ 100) (hv : v.length ≤ 100) (h0 : -10000 ≤ z) (h1 : z ≤ 10000) : SmallC (ps ++ [(u, v, z)]) :=
  ⟨by simp; omega, fun p hp => by
    rcases List.mem_append.1 hp with hp | hp
    · exact h.2 p hp
    · simp at hp; subst hp; exact ⟨hu, hv, h0, h1⟩⟩
/-- an operation whose guard holds -/
theorem wpList_strike {P : Program} {ops : Array Oper} {rest : List Oper} {o : Oper} {a : Act} {Q : Exit → Act → World → Prop} {W : World} (hw : Region.wanted o (yielded ops a.tmps) = true)
    (h : wpList P ops Q ({ o with guard := none } :: rest) a W) : wpList P ops Q (o :: rest) a W := by
  unfold wpList at *
  rw [if_pos hw]
  rw [if_pos (wanted_plain rfl _)] at h
  exact h
end Go.Proofs.Ytlafdpndpjcklaa
