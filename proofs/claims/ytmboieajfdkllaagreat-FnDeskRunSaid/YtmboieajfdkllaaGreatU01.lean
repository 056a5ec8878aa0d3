import Derived.Test.YtmboieajfdkllaaGreatRows
import Derived.WalkKit
import Derived.WalkSpells
import Derived.WalkLawsBesides
import Derived.ProofKit
import Derived.Lib.Hide
import Derived.Lib.SmallJoins
import Derived.Deep.Slices
import Derived.Deep.DeepCutAuto
import Derived.Deep.LoopGhost
import Derived.Deep.Draws
import Derived.Deep.Light
import Derived.Handy
import Derived.StillTail
import Derived.Outline
import Derived.Deep.QuietTactic
import Derived.BigQuiet
import Derived.Laws.BitsAllLaws
import Derived.Laws.BitsLemmas
import Derived.Deep.SlicePairs
import Derived.Lib.Join
import Derived.Deep.AppendLies
import Derived.Deep.RegionHeld3
import Derived.OneCell
set_option maxHeartbeats 2000000
set_option maxRecDepth 100000
open Go.Proofs.Tryz
namespace Go.Proofs.YtmboieajfdkllaaGreat
open Go.RowKit Go.ChangeShapes Go.WideShapes Go.ChangeAt
theorem qb {p : Prop} (h : p) : Hid p := Lib.hid h
theorem qa3 {w w1 w2 : World} (h : Below w.heap.size w w1) (k : Below w1.heap.size w1 w2) : Below w.heap.size w w2 := Below.trans h (Below.mono k h.size)
theorem qc {a c : Int} (h : a = c) (k : Int) (r : Bool) (e : (c == k) = r) : (a == k) = r := by subst h; exact e
theorem qe {a c : Int} (h : a = c) (k : Int) (r : Bool) (e : (c != k) = r) : (a != k) = r := by subst h; exact e
theorem qf {P : Program} {f : FuncId} {xs : Array Value} {w : World} {X : Ending} {Q : Ending -> World -> Prop} (h : Calls P f xs w fun e w' => e = X /\ w = w') (k : Q X w) : Calls P f xs w Q := h.mono (fun e w' g => by obtain ⟨g1, g2⟩ := g; subst g1; subst g2; exact k)
theorem Tryz.own : ownKnob Tryz.prog.godebug = none := by kernel_rfl
theorem Tryz.laidOut : laidOutB Tryz.prog = true := by kernel_rfl
abbrev Tx := List UInt8
abbrev sv (l : Tx) : Value := .string ⟨l.toArray⟩
theorem ba_get (l : List UInt8) (k : Nat) (h : k < (⟨l.toArray⟩ : ByteArray).size) :
  (⟨l.toArray⟩ : ByteArray)[k]'h = l[k]'(by simpa [ByteArray.size] using h) := rfl
attribute [go_sem] ba_get
theorem vB (a b : List UInt8) : ((⟨a.toArray⟩ : ByteArray) == ⟨b.toArray⟩) = (a == b) := by
 show (a.toArray == b.toArray) = (a == b)
 simp
theorem ba_bne (a b : List UInt8) : ((⟨a.toArray⟩ : ByteArray) != ⟨b.toArray⟩) = (a != b) := by simp only [bne, vB]
attribute [go_sem] vB ba_bne
theorem vC (l : List UInt8) (a b : Nat) : (⟨l.toArray⟩ : ByteArray).extract a b = ⟨((l.take b).drop a).toArray⟩ := by
 apply ByteArray.ext
 rw [ByteArray.data_extract]
 simp [List.drop_take]
theorem VF (l : List UInt8) (a : Nat) : (⟨l.toArray⟩ : ByteArray).extract a l.length = ⟨(l.drop a).toArray⟩ := by
 rw [vC, List.take_length]
theorem VG (l : List UInt8) (b : Nat) : (⟨l.toArray⟩ : ByteArray).extract 0 b = ⟨(l.take b).toArray⟩ := by
 rw [vC, List.drop_zero]
attribute [go_sem low] vC
attribute [go_sem] VF VG
theorem VH (a b : List UInt8) : (⟨a.toArray⟩ : ByteArray) ++ ⟨b.toArray⟩ = ⟨(a ++ b).toArray⟩ := by
 apply ByteArray.ext
 simp
attribute [go_sem] VH
theorem xa (s : ByteArray) : ∃ l : Tx, s = ⟨l.toArray⟩ := ⟨s.data.toList, by simp⟩
theorem YG (c : UInt8) : (c.toNat : Int) < 256 := by have := c.toNat_lt; omega
theorem qw {a b : Bool} (h : a = b) : Ending.returned (.bool a) = .returned (.bool b) := by rw [h]
theorem qA {a b : Int} (h : a = b) : Ending.returned (.int .i64 a) = .returned (.int .i64 b) := by rw [h]
theorem qM {a b : Tx} (h : a = b) : Ending.returned (sv a) = .returned (sv b) := by rw [h]
theorem qX {α : Type} (l : List α) (k : Nat) (h : k < l.length) : l.drop k = l[k] :: l.drop (k + 1) := List.drop_eq_getElem_cons h
theorem zc {α : Type} (l : List α) (k : Nat) (h : l.length <= k) : l.drop k = [] := List.drop_eq_nil_of_le h
theorem zu {α : Type} (l : List α) (k : Nat) (h : k < l.length) : l.take (k + 1) = l.take k ++ [l[k]] := List.take_succ_eq_append_getElem h
theorem add_add (a : Addr) (i j : Nat) : (a.add i).add j = a.add (i + j) := Go.Deep.add_add a i j
def Rd (w : World) (B : Nat) (A : Option Addr) (xs : List Value) : Prop :=
 xs ≠ [] -> ∃ b o, A = some ⟨b, o, none⟩ /\ b < B /\ ∀ j u, xs[j]? = some u -> w.cell? ⟨b, o + j, none⟩ = some u
section
variable {w w' : World} {B B' : Nat} {A : Option Addr} {xs : List Value}
theorem Rd.nil_ : Rd w B A [] := fun h => absurd rfl h
theorem Rd.keep (h : Rd w B A xs) (hk : ∀ p : Addr, p.block < B -> w'.cell? p = w.cell? p) : Rd w' B A xs := fun hne => by
 obtain ⟨b, o, e, hb, hc⟩ := h hne
 exact ⟨b, o, e, hb, fun j u hu => (hk ⟨b, o + j, none⟩ hb).trans (hc j u hu)⟩
theorem Rd.more (h : Rd w B A xs) (hB : B <= B') : Rd w B' A xs := fun hne => by
 obtain ⟨b, o, e, hb, hc⟩ := h hne
 exact ⟨b, o, e, by omega, hc⟩
theorem Rd.below (h : Rd w B A xs) (hb : Below B w w') : Rd w' B A xs := h.keep fun _ hp => hb.cell hp
theorem Rd.front {ys : List Value} (h : Rd w B A (xs ++ ys)) : Rd w B A xs := fun hne => by
 obtain ⟨b, o, e, hb, hc⟩ := h (by simp [hne])
 refine ⟨b, o, e, hb, fun j u hu => hc j u ?_⟩
 rw [List.getElem?_append_left (List.getElem?_eq_some_iff.1 hu).1]; exact hu
theorem Rd.of_own {base size n c : Nat} {e : TypeId} (h : w.ownsRow base e size (.slice A n c) n xs) : Rd w w.heap.size A xs := fun hne => by
 rcases h.2 with ⟨_, h2⟩ | ⟨g, cap, cur, hv, _, hg, _⟩
 ·exact absurd (List.eq_nil_of_length_eq_zero (by rw [h.1, h2]; simp)) hne
 simp only [Value.slice.injEq] at hv
 obtain ⟨rfl, _, _⟩ := hv
 refine ⟨g, 0, rfl, ?_, fun j u hu => ?_⟩
 ·rcases Nat.lt_or_ge g w.heap.size with hlt | hge
  ·exact hlt
  rw [Array.getElem?_eq_none hge] at hg; cases hg
 have := h.cells (g := g) rfl j u hu
 rwa [Addr.add_lit] at this
theorem jf {base size n : Nat} {e : TypeId} {v : Value} (h : w.ownsRow base e size v n xs) : ∃ A c, v = .slice A n c /\ n <= c /\ c <= maxLen := by
 rcases h.2 with ⟨rfl, rfl⟩ | ⟨g, cap, cur, rfl, _, _, h1, h2, _⟩
 ·exact ⟨none, 0, rfl, Nat.le_refl _, by simp [maxLen]⟩
 exact ⟨_, cap, rfl, h1, h2⟩
end
section
variable {w w' : World} {base B size n c : Nat} {A : Option Addr} {e : TypeId} {v : Value} {xs : List Value}
theorem jg (hb : Below w.heap.size w w') (row : Option Nat) : w.grownBy w' row := ⟨hb.os, hb.tape, hb.output, hb.size, fun k hk _ => hb.block k hk⟩
theorem xb (w : World) (row : Option Nat) : w.grownBy w row := ⟨rfl, rfl, rfl, Nat.le_refl _, fun _ _ _ => rfl⟩
theorem jF {a b c : World} {row : Option Nat} (h : a.grownBy b row) (k : b.grownBy c row) : a.grownBy c row :=
 ⟨k.os.trans h.os, k.tape.trans h.tape, k.output.trans h.output, Nat.le_trans h.size k.size, fun i hi hn => (k.block i (Nat.lt_of_lt_of_le hi h.size) hn).trans (h.block i hi hn)⟩
theorem VI {a b c : World} {row : Option Nat} (h : a.grownBy b row) (k : Below b.heap.size b c) : a.grownBy c row := jF h (jg k row)
theorem vD {a b : World} {g : Nat} (h : a.grownBy b (some g)) (o : Nat) (u : Value) : a.grownBy (b.setCell ⟨g, o, none⟩ u) (some g) :=
 jF h ⟨rfl, rfl, rfl, by simp [World.setCell], fun k _ hn => Below.heap_setCell _ _ _ _ (fun e => hn (by rw [e]))⟩
theorem zo {a b : World} {row : Option Nat} (h : a.grownBy b row) {B : Nat} (hB : B <= a.heap.size) (hr : ∀ g, row = some g -> B <= g) : Below B a b :=
 ⟨h.os, h.tape, h.output, h.size, fun k hk => h.block k (by omega) (fun e => by have := hr k e.symm; omega)⟩
theorem zJ (h : w.ownsRow base e size (.slice A n c) n xs) (hn : 0 < n) : ∃ g, A = some ⟨g, 0, none⟩ /\ base <= g /\ g < w.heap.size := by
 rcases h.2 with ⟨_, h2⟩ | ⟨g, cap, cur, hv, hbg, hg, _⟩
 ·omega
 simp only [Value.slice.injEq] at hv
 refine ⟨g, hv.1, hbg, ?_⟩
 rcases Nat.lt_or_ge g w.heap.size with hlt | hge
 ·exact hlt
 rw [Array.getElem?_eq_none hge] at hg; cases hg
theorem YA {row : Option Nat} {lo hi : Nat} (h : w.ownsRow lo e size v n xs) (hh : ∀ g, v.ownBlock = some g -> g < hi) (hg : w.grownBy w' row) (hr : ∀ g, row = some g -> g < lo \/ hi <= g) : w'.ownsRow lo e size v n xs := by
 refine h.kept hg ?_
 cases ho : v.ownBlock with
 | none => exact .inl rfl
 | some g =>
  right
  intro he
  have h1 := (h.lt g ho).1
  have h2 := hh g ho
  rcases hr g he.symm with h3 | h3 <;> omega
theorem jy (h : w.ownsRow base e size v n xs) (hb : Below w.heap.size w w') : w'.ownsRow base e size v n xs := by
 cases ho : v.ownBlock with
 | none => exact h.kept (jg hb none) (.inl ho)
 | some g => exact h.kept (jg hb none) (.inr (by rw [ho]; simp))
theorem zC (h : w.ownsRow base e size v n xs) {b : Nat} (hb : b <= base) : w.ownsRow b e size v n xs := by
 rcases h.2 with h2 | ⟨g, cap, cur, h1, h2, h3⟩
 ·exact ⟨h.1, .inl h2⟩
 exact ⟨h.1, .inr ⟨g, cap, cur, h1, by omega, h3⟩⟩
theorem own_any {g : Nat} (h : w.ownsRow base e size (.slice (some ⟨g, 0, none⟩) n c) n xs) (j : Nat) (hj : j < n * size) : ∃ u, w.cell? ⟨g, j, none⟩ = some u /\ w.frozen? ⟨g, j, none⟩ = false := by
 have hl := h.1
 exact ⟨xs[j]'(by omega), by rw [h.cellAt j hj]; exact List.getElem?_eq_getElem (by omega), h.frozenAt j⟩
theorem VJ {P : Program} {ops : Array Oper} {rest : List Oper} {o : Oper} {a : Act} {Q : Exit -> Act -> World -> Prop} {W : World} (hgd : o.guard = none) (s x : Operand) {t : TypeId}
  (ho : o.op = .call { callee := .builtin .append, args := #[s, x], argTypes := #[t, t] }) {i : TypeInfo} {z : Value} {bytes : Nat} (ht : P.underlying t = some (.slice e)) (hi : P.info? e = some i) (hz : i.zero = some z)
  (hsize : i.size = size) (hby : i.bytes = bytes) (hzs : z.cells.size = size) (hsz : 0 < size) (v : Value) (hs : a.eval s = v) (hown : W.ownsRow base e size v n xs)
  (A' : Option Addr) (m c' : Nat) (ys : List Value) (hx : a.eval x = .slice A' m c') (hA' : A' = none -> c' = 0) (hm : ys.length = m * size) (hrd : Rd W B A' ys) (h1 : ∀ u ∈ ys, u.oneCell' = true)
  (h63 : n + m <= maxLen) (hbytes : (n + m) * bytes <= 140737488355328) (hbase : base <= W.heap.size)
  (h : ∀ v' w', w'.ownsRow base e size v' (n + m) (xs ++ ys) -> W.grownBy w' v.ownBlock -> wpList P ops Q rest (a.put o.dst v') w') : wpList P ops Q (o :: rest) a W := by
 cases A' with
 | none =>
  have hc := hA' rfl
  subst hc
  have hy : ys = [] := by
   refine Classical.byContradiction fun hne => ?_
   obtain ⟨b, o', e', _⟩ := hrd hne
   cases e'
  subst hy
  have hm0 : m = 0 := by
   rcases Nat.eq_zero_or_pos m with h | h
   ·exact h
   have := Nat.mul_pos h hsz; simp at hm; omega
  subst hm0
  have hr := run_append_owned_none (P := P) W base t o.type e i size ht hi v n xs hown
  refine wpList_plain hgd fun _ hK => ?_
  unfold Oper.wp execOp
  simp only [ho, resolve, invoke, builtin, Sem.run_bind, Sem.run_pure, Result.andThen_ok, List.map_toArray, List.map_cons, List.map_nil, hs, hx, hr]
  exact hK _ _ (h v W (by simpa using hown) (xb _ _))
 | some ad =>
  refine wpList_append_own W hgd s x t ho base e i z size bytes ht hi hz hsize hby hzs hsz v n xs hs hown ad m c' ys hx hm ?_ h1 h63 hbytes hbase fun v' w' h2 h3 _ => h v' w' h2 h3
  intro j u hj
  have hne : ys ≠ [] := by intro h; rw [h] at hj; simp at hj
  obtain ⟨b, o', e', _, hc⟩ := hrd hne
  simp only [Option.some.injEq] at e'
  subst e'
  rw [Go.WideShapes.add_plain]
  exact hc j u hj
theorem vE {P : Program} {t e : TypeId} {i : TypeInfo} {z : Value} (ht : P.underlying t = some (.slice e)) (hi : P.info? e = some i) (hz : i.zero = some z) {size bytes : Nat} (hs : i.size = size) (hby : i.bytes = bytes)
  (n : Nat) (hb : bytes * n <= 281474976710656) (h63 : n <= 9223372036854775807) (w : World) :
  (Instr.makeSlice t (.int .i64 (n : Int)) (.int .i64 (n : Int))).run P w = .ok (.slice (some ⟨w.heap.size, 0, none⟩) n n) (w.alloc (.cells (madeCells z.cells (n * size)) e)) := by
 subst hs
 subst hby
 have h : ((i.bytes * n : Nat) : Int) <= 281474976710656 := by omega
 rw [Int.natCast_mul] at h
 have hr := run_make (P := P) w t e i z ht hi hz .i64 .i64 (n : Int) (n : Int) (by omega) (Int.le_refl _) h (by omega)
 simpa only [Int.toNat_natCast] using hr
end
theorem zN {P : Program} {src dst e : TypeId} (hs : P.underlying src = some (.slice e)) (he : P.underlying e = some (.int .u8)) (hd : P.underlying dst = some .string) (c : UInt8) (z : Int) (hz : z = (c.toNat : Int)) (W : World) :
  (convert src dst (.slice (some ⟨W.heap.size, 0, none⟩) 1 1)).run P (W.alloc (.cells #[.int .u8 z] e)) = .ok (.string ⟨[c].toArray⟩) (W.alloc (.cells #[.int .u8 z] e)) := by
 subst hz
 refine run_convert_bytes_back (W.alloc (.cells #[.int .u8 (c.toNat : Int)] e)) src dst e ⟨W.heap.size, 0, none⟩ 1 [c] hs he hd ?_
 intro j hj
 have hj0 : j = 0 := by simpa using hj
 subst hj0
 simp only [List.getElem_cons_zero]
 show (W.alloc _).cell? ⟨W.heap.size, 0, none⟩ = _
 rw [World.cell?_alloc_at _ _ _ _ rfl]; rfl
theorem jn {B : Nat} {a w : World} (h : Below B a w) (n : Nat) : Below B a (w.drewN n) := ⟨h.os, h.tape, h.output, h.size, h.block⟩
section
variable {H : Type} {enc : TypeId × Value -> H} {P : Program}
theorem Qs {W W' : World} (hl : laidOutB P = true) (hb : Below W.heap.size W W') :
  ∀ {ts : List TypeId} {vs : List Value} {ds : List (DataW H)} {ps : List MemPlace}, (∀ t ∈ ts, P.readableRec t = true /\ t < P.types.size) →
   DataW.TrodAll enc P W 0 (fun _ => true) true ts vs ds ps -> (∀ x ∈ ps, x.block < W.heap.size) →
   DataW.TrodAll enc P W' 0 (fun b => decide (b < W.heap.size)) true ts vs ds ps
 | [], [], [], _, _, h, _ => h
 | t :: ts, v :: vs, d :: ds, ps, hr, ⟨p, q, h1, h2, e⟩, hlt =>
   ⟨p, q, Below.trod hl (hr t (by simp)).1 (hr t (by simp)).2 h1 hb (fun x hx => hlt x (by rw [e]; exact List.mem_append_left _ hx)),
    Qs hl hb (fun t ht => hr t (List.mem_cons_of_mem _ ht)) h2 (fun x hx => hlt x (by rw [e]; exact List.mem_append_right _ hx)), e⟩
 | [], _ :: _, _, _, _, h, _ => by cases h
 | [], [], _ :: _, _, _, h, _ => by cases h
 | _ :: _, [], _, _, _, h, _ => by cases h
 | _ :: _, _ :: _, [], _, _, h, _ => by cases h
theorem VK {f : Func} {s : ChangeSpec} {W W' : World} {args : Array Value} {ds : List (DataW H)} {before : List MemPlace} {tb : TypeId}
  (hW : DataW.Whole enc P f.params.toList s.vars false W args.toList ds [] before) (hv : s.vars = [])
  (hf : s.fn H (ds ++ []) = { results := [.lit (.bool true)], args := ds })
  (hr : f.resultTypes = #[tb]) (ht : P.underlying tb = some .bool) (hl : laidOutB P = true)
  (hrd : ∀ t ∈ f.params.toList, P.readableRec t = true /\ t < P.types.size) (hb : Below W.heap.size W W') :
  s.post enc P f false true false false W args (.bool true) W' := by
 have hlt : ∀ x ∈ before, x.block < W.heap.size := fun x hx => hW.lt x hx
 obtain ⟨p, q, hA, hV, hpq, hz, hn⟩ := id hW
 rw [hv] at hV
 have hq : q = [] := hV
 subst hq
 have hpp : before = p := by rw [hpq, List.append_nil]
 subst hpp
 refine ⟨ds, [], before, [], before, [], hW, ?_, ?_, ?_, World.keptBut_mono (fun x hx => ⟨hx, Or.inr (Or.inl hx)⟩) (hb.frame (· ∈ before)), fun h => by cases h⟩
 ·rw [hf, hr]
  exact trodAll_mk1 (shut_bool ht true)
 ·rw [hf]
  exact Qs hl hb hrd hA hlt
 rw [hf, hv]
 exact rfl
end
open Go
def cnt (listed : Array Bool) (n : Nat) : Nat := (List.range n).countP fun i => !listed.getD i false
theorem jw (listed : Array Bool) (n : Nat) : cnt listed (n + 1) = cnt listed n + (if listed.getD n false then 0 else 1) := by
 unfold cnt
 rw [List.range_succ, List.countP_append]
 congr 1
 rw [List.countP_cons, List.countP_nil]
 cases listed.getD n false <;> rfl
theorem ZT {a b : Array Bool} : ∀ {n : Nat}, (∀ i < n, a.getD i false = b.getD i false) -> cnt a n = cnt b n
 | 0, _ => rfl
 | n + 1, h => by rw [jw, jw, ZT (n := n) fun i hi => h i (by omega), h n (by omega)]
theorem xn {listed : Array Bool} {i : Nat} (h : i < listed.size) : (listed.setIfInBounds i true).getD i false = true := by
 simp [h]
theorem ke {listed : Array Bool} {i : Nat} (hs : i < listed.size) (hu : listed.getD i false = false) : ∀ {n : Nat}, i < n -> cnt (listed.setIfInBounds i true) n + 1 = cnt listed n
 | 0, h => absurd h (by omega)
 | n + 1, h => by
  rw [jw, jw]
  by_cases hin : i = n
  ·subst hin
   rw [xn hs, hu, ZT (n := i) (b := listed) fun j hj => getD_set_ne false (by omega)]
   simp
  have := ke hs hu (n := n) (by omega)
  rw [getD_set_ne false hin]
  omega
theorem vu (listed : Array Bool) : ∀ n, cnt listed n <= n
 | 0 => by simp [cnt]
 | n + 1 => by
  rw [jw]
  have := vu listed n
  split <;> omega
theorem xo {listed : Array Bool} : ∀ {n : Nat}, cnt listed n = 0 -> ∀ i < n, listed.getD i false = true
 | 0, _, i, hi => absurd hi (by omega)
 | n + 1, h, i, hi => by
  rw [jw] at h
  by_cases hin : i = n
  ·subst hin
   cases hl : listed.getD i false
   ·rw [hl] at h; simp at h
   rfl
  exact xo (n := n) (by omega) i (by omega)
theorem kf {listed : Array Bool} : ∀ {n : Nat}, cnt listed n ≠ 0 -> ∃ i < n, listed.getD i false = false /\ ∀ j < i, listed.getD j false = true
 | 0, h => absurd rfl h
 | n + 1, h => by
  by_cases h0 : cnt listed n = 0
  ·rw [jw, h0] at h
   refine ⟨n, by omega, ?_, fun j hj => xo h0 j hj⟩
   cases hl : listed.getD n false
   ·rfl
   rw [hl] at h; simp at h
  obtain ⟨i, hi, h1, h2⟩ := kf h0
  exact ⟨i, by omega, h1, h2⟩
theorem xp (k : Nat) : ∀ n, n <= k -> cnt (Array.replicate k false) n = n
 | 0, _ => rfl
 | n + 1, h => by rw [jw, xp k n (by omega), getD_replicate_false]; simp
def hdst (l : List Oper) (i : Nat) : Option Tmp := (l[i]?).bind (·.dst)
def jc (l : List Oper) (i : Nat) : Bool := match l[i]? with
 | some o => o.guard.isNone && o.after.all fun e => !Region.binds .any e || decide (e.on < i)
 | none => false
def kg (l : List Oper) (m i : Nat) : Bool := match hdst l i with
 | some d => decide (d < m) && (List.range i).all fun j => hdst l j != some d
 | none => false
def xq (n k : Nat) : Array Bool := Array.replicate n true ++ Array.replicate k false
def jx (l : List Oper) (n m : Nat) : Bool :=
 decide (n < l.length) && Region.sinkB .any l.toArray n && Region.chainB .any l.toArray n && ((List.range n).all fun i => jc l i && kg l m i) && Region.seqB .any l.toArray (l.length - n) n (xq n (l.length - n))
def qF (l : List Oper) (vs : Nat -> Value) : Nat -> Act -> Act
 | 0, a => a
 | k + 1, a => (qF l vs k a).put (hdst l k) (vs k)
section
variable {P : Program} {l : List Oper} {n : Nat} {a0 : Act} {W : Nat -> World -> Prop} {Keep : World -> World -> Prop} {F : Nat -> World -> Value -> Prop}
def YF (P : Program) (l : List Oper) (n : Nat) (a0 : Act) (W : Nat -> World -> Prop) (Keep : World -> World -> Prop) (F : Nat -> World -> Value -> Prop) (i : Nat) : Prop :=
 ∀ o, l[i]? = some o -> ∀ (m : Nat) (a : Act) (w : World), m < n -> W m w -> (∀ s, (∀ j < n, hdst l j ≠ some s) -> a.tmps[s]? = a0.tmps[s]?) →
  (∀ j, Region.waitsFor .any l.toArray i j = true -> ∀ d, hdst l j = some d -> F j w (a.tmps.getD d undef)) →
  ∀ (K : Act -> World -> Prop) (Q : Exit -> Act -> World -> Prop), (∀ v w', W (m + 1) w' -> Keep w w' -> F i w' v -> K (a.put o.dst v) w') -> o.wp P a w K Q
structure TInv (l : List Oper) (n : Nat) (a0 : Act) (W : Nat -> World -> Prop) (F : Nat -> World -> Value -> Prop) (listed : Array Bool) (a : Act) (w : World) : Prop where
 head : HeadInv .any l.toArray n listed
 world : W (n - cnt listed n) w
 defers : a.defers = a0.defers
 size : a.tmps.size = a0.tmps.size
 base : ∀ s, (∀ i < n, listed.getD i false = true -> hdst l i ≠ some s) -> a.tmps[s]? = a0.tmps[s]?
 vals : ∀ i < n, listed.getD i false = true -> ∀ d, hdst l i = some d -> F i w (a.tmps.getD d undef)
theorem vv {o : Oper} (h : o.guard.isNone = true) (y : Nat -> Option Bool) : Region.wanted o y = true := by
 cases hg : o.guard with
 | none => simp [Region.wanted, hg]
 | some g => rw [hg] at h; cases h
theorem zS {m i : Nat} (h : kg l m i = true) : ∃ d, hdst l i = some d /\ d < m /\ ∀ j < i, hdst l j ≠ some d := by
 unfold kg at h
 split at h
 ·rename_i d hd
  simp only [Bool.and_eq_true, decide_eq_true_eq, List.all_eq_true, List.mem_range, bne_iff_ne, ne_eq] at h
  exact ⟨d, hd, h.1, h.2⟩
 cases h
theorem vw (vs : Nat -> Value) (hr : ∀ i < n, kg l a0.tmps.size i = true) : ∀ k, k <= n →
  (qF l vs k a0).defers = a0.defers /\ (qF l vs k a0).tmps.size = a0.tmps.size /\ (∀ i < k, ∀ d, hdst l i = some d -> (qF l vs k a0).tmps[d]? = some (vs i)) ∧
   (∀ s, (∀ i < k, hdst l i ≠ some s) -> (qF l vs k a0).tmps[s]? = a0.tmps[s]?)
 | 0, _ => ⟨rfl, rfl, fun i hi => absurd hi (by omega), fun _ _ => rfl⟩
 | k + 1, hk => by
  obtain ⟨h1, h2, h3, h4⟩ := vw vs hr k (by omega)
  obtain ⟨d, hd, hdm, hnew⟩ := zS (hr k (by omega))
  simp only [qF, hd, Act.put]
  refine ⟨h1, by simpa using h2, fun i hi d' hd' => ?_, fun s hs => ?_⟩
  ·by_cases hik : i = k
   ·subst hik
    rw [hd] at hd'
    cases hd'
    simp [h2, hdm]
   have hne : d ≠ d' := fun e => hnew i (by omega) (by rw [hd', e])
   rw [Array.getElem?_setIfInBounds_ne hne]
   exact h3 i (by omega) d' hd'
  have hne : d ≠ s := fun e => hs k (by omega) (by rw [hd, e])
  rw [Array.getElem?_setIfInBounds_ne hne]
  exact h4 s fun i hi => hs i (by omega)
theorem ZU {a : Act} {d : Tmp} (h : d < a.tmps.size) (v : Value) : (a.put (some d) v).tmps.getD d undef = v := by
 simp [Act.put, h]
theorem jd {a : Act} {d s : Tmp} (h : d ≠ s) (v : Value) : (a.put (some d) v).tmps[s]? = a.tmps[s]? := by
 simp [Act.put, Array.getElem?_setIfInBounds_ne h]
theorem ZV {a b : Array Value} {s : Nat} (h : a[s]? = b[s]?) : a.getD s undef = b.getD s undef := by
 rw [Array.getD_eq_getD_getElem?, Array.getD_eq_getD_getElem?, h]
theorem ZW {listed : Array Bool} (hn : n <= l.length) (hs : listed.size = l.length) (h1 : ∀ i < n, listed.getD i false = true) (h2 : ∀ t, n <= t -> t < l.length -> listed.getD t true = false) :
  listed = xq n (l.length - n) := by
 apply Array.ext
 ·simp [xq]; omega
 intro i hi hi'
 by_cases hin : i < n
 ·have := h1 i hin
  simp [hi] at this
  simp [xq, hin, this]
 have := h2 i (by omega) (by omega)
 simp [hi] at this
 simp [xq, Array.getElem_append, hin, this]
theorem KP {Q : Exit -> Act -> World -> Prop} (hB : jx l n a0.tmps.size = true) (hkeep : ∀ j < n, ∀ w w' v, Keep w w' -> F j w v -> F j w' v)
  (hstep : ∀ i < n, YF P l n a0 W Keep F i)
  (hfin : ∀ (vs : Nat -> Value) (w' : World), W n w' -> (∀ i < n, F i w' (vs i)) -> wpList P l.toArray Q (l.drop n) (qF l vs n a0) w') :
  ∀ (f : Nat) (listed : Array Bool) (a : Act) (w : World), cnt listed n = f -> TInv l n a0 W F listed a w -> wpAny P .any l.toArray Q (f + (l.length - n)) listed a w := by
 simp only [jx, Bool.and_eq_true, decide_eq_true_eq, List.all_eq_true, List.mem_range] at hB
 obtain ⟨⟨⟨⟨hn, hsink⟩, hchain⟩, hall⟩, hseq⟩ := hB
 have hn' : n < l.toArray.size := by simpa using hn
 intro f
 induction f with
 | zero =>
  intro listed a w hc inv
  rw [Nat.zero_add]
  have hl1 := xo hc
  have hls : listed.size = l.length := by simpa using inv.head.size
  have hl := ZW (l := l) (by omega) hls hl1 (fun t ht htl => inv.head.tail t ht (by simpa using htl))
  have hfa : a = qF l (fun i => match hdst l i with | some d => a.tmps.getD d undef | none => undef) n a0 := by
   obtain ⟨p1, p2, p3, p4⟩ := vw (l := l) (n := n) (a0 := a0) (fun i => match hdst l i with | some d => a.tmps.getD d undef | none => undef) (fun i hi => (hall i hi).2) n (Nat.le_refl _)
   generalize qF l (fun i => match hdst l i with | some d => a.tmps.getD d undef | none => undef) n a0 = b at *
   have e1 : a.tmps = b.tmps := by
    apply Array.ext_getElem?
    intro s
    by_cases hex : ∃ i, i < n /\ hdst l i = some s
    ·obtain ⟨i, hi, hd⟩ := hex
     rw [p3 i hi s hd]
     simp only [hd]
     have hsz : s < a.tmps.size := by
      obtain ⟨d, hd2, hdm, _⟩ := zS (hall i hi).2
      rw [hd] at hd2
      cases hd2
      rw [inv.size]; exact hdm
     simp [hsz]
    have hno : ∀ i < n, hdst l i ≠ some s := fun i hi e => hex ⟨i, hi, e⟩
    rw [p4 s hno]
    exact inv.base s fun i hi _ => hno i hi
   have e2 : a.defers = b.defers := by rw [inv.defers, p1]
   cases a; cases b
   simp only at e1 e2
   rw [e1, e2]
  have hsz := hfin (fun i => match hdst l i with | some d => a.tmps.getD d undef | none => undef) w (by have := inv.world; rw [hc] at this; simpa using this) (fun i hi => by
   obtain ⟨d, hd, _, _⟩ := zS (hall i hi).2
   simp only [hd]
   exact inv.vals i hi (hl1 i hi) d hd)
  rw [<- hfa] at hsz
  have := wpAny_of_seq (md := .any) (Q' := Q) (l.drop n) n listed a w (fun j => by simp [List.getElem?_drop]) (by rw [List.length_drop, hl]; exact hseq) hsz
  rwa [List.length_drop] at this
 | succ f ih =>
  intro listed a w hc inv
  have hls : listed.size = l.length := by simpa using inv.head.size
  obtain ⟨i0, hi0, hu0, hbef⟩ := kf (listed := listed) (n := n) (by omega)
  have hi0r : i0 ∈ Region.ready .any l.toArray listed := by
   have h1 := (hall i0 hi0).1
   unfold jc at h1
   split at h1
   ·rename_i o ho
    simp only [Bool.and_eq_true, Array.all_eq_true'] at h1
    refine mem_ready.2 ⟨getD_in (by omega) hu0, o, by simpa using ho, fun e he hb => ?_⟩
    have := h1.2 e he
    simp only [hb, Bool.not_true, Bool.false_or, decide_eq_true_eq] at this
    exact hbef _ this
   cases h1
  rw [show f + 1 + (l.length - n) = f + (l.length - n) + 1 by omega]
  refine ⟨fun h0 => (by rw [h0] at hi0r; cases hi0r), fun i hi => ?_⟩
  have hin : i < n := by
   rcases Nat.lt_or_ge i n with h | h
   ·exact h
   exact absurd hi (tail_waits hsink hchain hn' inv.head _ i0 rfl hi0 (getD_in (by omega) hu0) i h)
  obtain ⟨hun, o, ho, haft⟩ := mem_ready.1 hi
  have hol : l[i]? = some o := by simpa using ho
  have hgu : o.guard.isNone = true := by
   have h1 := (hall i hin).1
   unfold jc at h1
   rw [hol] at h1
   simp only [Bool.and_eq_true] at h1
   exact h1.1
  obtain ⟨d, hd, hdm, _⟩ := zS (hall i hin).2
  have hod : o.dst = some d := by simpa [hdst, hol] using hd
  have hunf := getD_both hun
  unfold wpOp
  simp only [ho, vv hgu, if_true]
  left
  have hcs := ke (n := n) (by omega) hunf hin
  have hm : n - cnt listed n < n := by have := vu listed n; omega
  refine hstep i hin o hol (n - cnt listed n) a w hm inv.world (fun s hs => inv.base s fun j hj _ => hs j hj) (fun j hj d' hd' => ?_) _ Q fun v w' hw' hk hv => ?_
  ·obtain ⟨oi, hoi, e, he, hb, hon⟩ := Region.waitsFor_spec hj
   have : oi = o := Option.some.inj (hoi.symm.trans ho)
   subst this
   have hl2 := haft e he hb
   rw [hon] at hl2
   have hjn : j < n := by
    have h1 := (hall i hin).1
    unfold jc at h1
    rw [hol] at h1
    simp only [Bool.and_eq_true, Array.all_eq_true'] at h1
    have := h1.2 e he
    simp only [hb, Bool.not_true, Bool.false_or, decide_eq_true_eq] at this
    omega
   exact inv.vals j hjn hl2 d' hd'
  rw [hod]
  refine ih _ _ w' (by omega) ⟨inv.head.set hi hin, ?_, ?_, ?_, ?_, ?_⟩
  ·have : n - cnt (listed.setIfInBounds i true) n = n - cnt listed n + 1 := by have := vu listed n; omega
   rw [this]; exact hw'
  ·simpa [Act.put] using inv.defers
  ·simpa [Act.put] using inv.size
  ·intro s hs
   have hne : d ≠ s := fun e => hs i hin (xn (by omega)) (by rw [hd, e])
   rw [jd hne]
   exact inv.base s fun j hj hl => hs j hj (getD_set_true hl)
  intro j hj hl d' hd'
  by_cases hij : i = j
  ·subst hij
   rw [hd] at hd'
   cases hd'
   rw [ZU (by rw [inv.size]; exact hdm)]
   exact hv
  rw [getD_set_ne false hij] at hl
  have hne : d ≠ d' := by
   intro e
   subst e
   obtain ⟨di, hdi, _, hi2⟩ := zS (hall i hin).2
   obtain ⟨dj, hdj, _, hj2⟩ := zS (hall j hj).2
   rw [hd] at hdi; cases hdi
   rw [hd'] at hdj; cases hdj
   rcases Nat.lt_or_gt_of_ne hij with h | h
   ·exact hj2 i h hd
   exact hi2 j h hd'
  rw [ZV (jd hne v)]
  exact hkeep j hj w w' _ hk (inv.vals j hj hl d' hd')
theorem qU {id : Nat} {Q : Exit -> Act -> World -> Prop} {w : World} (n : Nat) (hm : P.follows .mixedOrders = true) (hB : jx l n a0.tmps.size = true)
  (W : Nat -> World -> Prop) (Keep : World -> World -> Prop) (F : Nat -> World -> Value -> Prop) (hW : W 0 w.drew) (hkeep : ∀ j < n, ∀ w w' v, Keep w w' -> F j w v -> F j w' v)
  (hstep : ∀ i < n, YF P l n a0 W Keep F i)
  (hfin : ∀ (vs : Nat -> Value) (w' : World), W n w' -> (∀ i < n, F i w' (vs i)) -> wpList P l.toArray Q (l.drop n) (qF l vs n a0) w') :
  (Code.region id l.toArray true).wp P Q a0 w := by
 have hB' := hB
 simp only [jx, Bool.and_eq_true, decide_eq_true_eq, List.all_eq_true, List.mem_range] at hB'
 obtain ⟨⟨⟨⟨hn, _⟩, _⟩, _⟩, _⟩ := hB'
 refine wp_region_any hm ?_
 have hsz : l.toArray.size = l.length := by simp
 rw [hsz]
 have h := KP (Q := Q) hB hkeep hstep hfin n (Array.replicate l.length false) a0 w.drew (xp _ n (by omega))
  ⟨⟨by simp, fun j oj _ hl => (by rw [getD_replicate_false] at hl; cases hl), fun t _ ht => getD_in (by simpa using ht) (getD_replicate_false _ _)⟩,
   (by rw [xp _ n (by omega), Nat.sub_self]; exact hW), rfl, rfl, fun _ _ => rfl, fun i _ hl => (by rw [getD_replicate_false] at hl; cases hl)⟩
 rw [show n + (l.length - n) = l.length by omega] at h
 exact h
end
theorem qG {p : Nat -> Prop} : ∀ i < 0, p i := fun i h => absurd h (by omega)
theorem qg {p : Nat -> Prop} {n : Nat} (h : ∀ i < n, p i) (h1 : p n) : ∀ i < n + 1, p i := fun i hi => by
 rcases Nat.lt_or_ge i n with h2 | h2
 ·exact h i h2
 have : i = n := by omega
 subst this; exact h1
def qK (c : UInt8) : Bool := decide (48 <= (c.toNat : Int)) && decide ((c.toNat : Int) <= 57)
def zi (c : UInt8) : Bool := decide (97 <= (c.toNat : Int)) && decide ((c.toNat : Int) <= 122)
def isUp (c : UInt8) : Bool := decide (65 <= (c.toNat : Int)) && decide ((c.toNat : Int) <= 90)
def zw (c : UInt8) : Bool := decide (32 <= (c.toNat : Int)) && decide ((c.toNat : Int) <= 126)
def zx (l : Tx) : Bool := decide (l.length <= 600) && l.all zw
def qT (l : Tx) : Bool := decide (l.length <= 40) && zx l
def zG (c : UInt8) : Bool := zi c || qK c || decide ((c.toNat : Int) = 45)
def qJ (l : Tx) : Bool := decide (1 <= l.length) && decide (l.length <= 10) && (l.take 1).all zi && l.all zG
theorem ZM {p : UInt8 -> Bool} {l : Tx} {k : Nat} {r : Bool} (h : (l.drop k).all p = r) (hk : k < l.length) :
  (p l[k] && (l.drop (k + 1)).all p) = r := by rw [<- h, qX l k hk, List.all_cons]
theorem jD {p : UInt8 -> Bool} {l : Tx} {k : Nat} {r : Bool} (h : (l.drop k).all p = r) (hk : k < l.length) (hp : p l[k] = true) :
  (l.drop (k + 1)).all p = r := by have := ZM h hk; rwa [hp, Bool.true_and] at this
theorem jU {p : UInt8 -> Bool} {l : Tx} {k : Nat} {r : Bool} (h : (l.drop k).all p = r) (hk : k < l.length) (hp : p l[k] = false) :
  false = r := by have := ZM h hk; rwa [hp, Bool.false_and] at this
theorem jV {p : UInt8 -> Bool} {l : Tx} {k : Nat} {r : Bool} (h : (l.drop k).all p = r) (hk : ¬ k < l.length) : true = r := by
 rw [zc l k (by omega)] at h; exact h
theorem vk {p : UInt8 -> Bool} {l : Tx} (h : 0 < l.length) : (l.take 1).all p = p l[0] := by
 cases l with
 | nil => simp at h
 | cons c t => simp
theorem Kx {l : Tx} (h0 : 0 < l.length) (h1 : l.length <= 10) (hc : zi l[0] = true) : qJ l = l.all zG := by
 simp [qJ, vk h0, hc, h1]; omega
theorem Ky {l : Tx} (h0 : 0 < l.length) (hc : zi l[0] = true) : qJ l = (decide (l.length <= 10) && l.all zG) := by
 have h1 : decide (1 <= l.length) = true := decide_eq_true h0
 rw [qJ, vk h0, hc, h1]; simp
theorem ZN {l : Tx} (h0 : 0 < l.length) (hc : zi l[0] = false) : qJ l = false := by
 simp [qJ, vk h0, hc]
theorem zf (c : UInt8) (w : World) :
  Calls Tryz.prog 144 #[.int .u8 (c.toNat : Int)] w fun e w' => e = .returned (.bool (qK c)) /\ w = w' := by
 go_enter func144, ntmps144
 go_wp2
 all_goals (go_ret; refine ⟨qw ?_, rfl⟩; simp [qK, *]; try omega)
theorem xW (c : UInt8) (w : World) :
  Calls Tryz.prog 143 #[.int .u8 (c.toNat : Int)] w fun e w' => e = .returned (.bool (qK c)) /\ w = w' := by
 go_enter func143, ntmps143
 go_wp2
 all_goals (go_ret; refine ⟨qw ?_, rfl⟩; simp [qK, *]; try omega)
theorem qN (n lo hi : Int) (w : World) :
  Calls Tryz.prog 86 #[.int .i64 n, .int .i64 lo, .int .i64 hi] w fun e w' => e = .returned (.bool (decide (lo <= n) && decide (n <= hi))) /\ w = w' := by
 go_enter func86, ntmps86
 go_wp2
 all_goals (go_ret; refine ⟨qw ?_, rfl⟩; simp [*]; try omega)
theorem Zq (l : Tx) (hl : l.length <= maxLen) (w : World) :
  Calls Tryz.prog 145 #[.string ⟨l.toArray⟩] w fun e w' => e = .returned (.bool (zx l)) /\ w = w' := by
 unfold maxLen at hl
 go_enter func145, ntmps145
 by_cases h6 : l.length <= 600
 ·have d6 : decide (600 < (l.length : Int)) = false := by simp; omega
  have T6 : Hid (zx l = l.all zw) := by show zx l = _; simp [zx, h6]
  go_wp2
  go_loop [3] (fun i => ∃ k : Nat, k <= l.length /\ i = .int .i64 k /\ (l.drop k).all zw = l.all zw) (fun i => l.length - (intOf i).toNat)
  case atStart => exact ⟨0, Nat.zero_le _, rfl, rfl⟩
  obtain ⟨k, hk, rfl, hall⟩ := hrel
  have H := qb hall
  clear hall
  by_cases hlt : k < l.length
  ·go_wp2
   all_goals first
    | (go_round; (case rel => exact ⟨k + 1, by omega, by go_num, jD H.out hlt (by simp [zw]; omega)⟩); (case measure => simp [intOf]; omega))
    | (go_ret; exact ⟨qw (by rw [T6.out]; exact jU H.out hlt (by simp [zw]; omega)), rfl⟩)
  ·go_wp2
   go_ret
   exact ⟨qw (by rw [T6.out]; exact jV H.out hlt), rfl⟩
 go_wp2
 go_ret
 exact ⟨qw (by simp [zx, h6]), rfl⟩
theorem Zr (l : Tx) (hl : l.length <= maxLen) (w : World) :
  Calls Tryz.prog 140 #[.string ⟨l.toArray⟩] w fun e w' => e = .returned (.bool (zx l)) /\ w = w' := by
 unfold maxLen at hl
 go_enter func140, ntmps140
 go_wp2
 go_loop [3] (fun i => ∃ k : Nat, k <= l.length /\ i = .int .i64 k /\ (l.drop k).all zw = l.all zw) (fun i => l.length - (intOf i).toNat)
 case atStart => exact ⟨0, Nat.zero_le _, rfl, rfl⟩
 obtain ⟨k, hk, rfl, hall⟩ := hrel
 have H := qb hall
 clear hall
 by_cases hlt : k < l.length
 ·go_wp2
  all_goals first
   | (go_round; (case rel => exact ⟨k + 1, by omega, by go_num, jD H.out hlt (by simp [zw]; omega)⟩); (case measure => simp [intOf]; omega))
   | (go_ret; exact ⟨qw (by rw [zx, <- jU H.out hlt (by simp [zw]; omega), Bool.and_false]), rfl⟩)
 ·go_wp2
  go_ret
  exact ⟨qw (by rw [zx, <- jV H.out hlt]; simp; try omega), rfl⟩
theorem Zs (l : Tx) (hl : l.length <= maxLen) (w : World) :
  Calls Tryz.prog 110 #[.string ⟨l.toArray⟩] w fun e w' => e = .returned (.bool (qT l)) /\ w = w' := by
 have hl' := hl
 unfold maxLen at hl
 go_enter func110, ntmps110
 by_cases h4 : (l.length : Int) <= 40
 ·have HL := qb hl'
  clear hl'
  go_wp2_with (go_at_call 145; refine (Zq _ HL.out _).mono ?_; rintro e w' ⟨rfl, rfl⟩)
  go_ret
  exact ⟨qw (by simp [qT]; omega), rfl⟩
 go_wp2
 go_ret
 exact ⟨qw (by simp [qT]; omega), rfl⟩
theorem jR (l : Tx) (hl : l.length <= maxLen) (w : World) :
  Calls Tryz.prog 109 #[.string ⟨l.toArray⟩] w fun e w' => e = .returned (.bool (qJ l)) /\ w = w' := by
 unfold maxLen at hl
 rcases Nat.eq_zero_or_pos l.length with h0 | h0
 ·obtain rfl := List.eq_nil_of_length_eq_zero h0
  clear h0
  go_enter func109, ntmps109
  go_wp2
  go_ret
  exact ⟨qw (by simp [qJ]), rfl⟩
 by_cases h10 : l.length <= 10
 ·have g0 : decide ((l.length : Int) < 1) = false := by simp; omega
  have g1 : decide (10 < (l.length : Int)) = false := by simp; omega
  by_cases hc : zi l[0] = true
  ·have T6 : Hid (qJ l = l.all zG) := Kx h0 h10 hc
   have hc1 : 97 <= (l[0].toNat : Int) := by simp [zi] at hc; omega
   have hc2 : (l[0].toNat : Int) <= 122 := by simp [zi] at hc; omega
   clear hc
   go_enter func109, ntmps109
   go_wp2
   go_loop [3] (fun i => ∃ k : Nat, k <= l.length /\ i = .int .i64 k /\ (l.drop k).all zG = l.all zG) (fun i => l.length - (intOf i).toNat)
   case atStart => exact ⟨0, Nat.zero_le _, rfl, rfl⟩
   obtain ⟨k, hk, rfl, hall⟩ := hrel
   have H := qb hall
   clear hall
   by_cases hlt : k < l.length
   ·go_wp2_with (go_at_call 144; refine (zf _ _).mono ?_; rintro e w' ⟨rfl, rfl⟩)
    all_goals first
     | (go_round; (case rel => refine ⟨k + 1, by omega, by go_num, jD H.out hlt ?_⟩; go_light; simp_all [zG, zi]; try omega); (case measure => simp [intOf]; omega))
     | (go_ret; refine ⟨qw ?_, rfl⟩; rw [T6.out]; refine jU H.out hlt ?_; go_light; simp_all [zG, zi]; try omega)
   ·go_wp2
    go_ret
    exact ⟨qw (by rw [T6.out]; exact jV H.out hlt), rfl⟩
  have hc' : zi l[0] = false := by simpa using hc
  have T6 : Hid (qJ l = false) := ZN h0 hc'
  have hc1 : (l[0].toNat : Int) < 97 \/ 122 < (l[0].toNat : Int) := by simp [zi] at hc'; omega
  clear hc hc'
  go_enter func109, ntmps109
  go_wp2
  all_goals (go_ret; exact ⟨qw T6.out.symm, rfl⟩)
 go_enter func109, ntmps109
 go_wp2
 go_ret
 exact ⟨qw (by simp [qJ]; omega), rfl⟩
theorem jS (l : Tx) (hl : l.length <= maxLen) (w : World) :
  Calls Tryz.prog 106 #[.string ⟨l.toArray⟩] w fun e w' => e = .returned (.bool (qJ l)) /\ w = w' := by
 unfold maxLen at hl
 rcases Nat.eq_zero_or_pos l.length with h0 | h0
 ·obtain rfl := List.eq_nil_of_length_eq_zero h0
  clear h0
  go_enter func106, ntmps106
  go_wp2
  refine wp_loop_rounds 1 ?_
  rw [rounds_succ]
  go_wp2_with (go_at_call 86; refine (qN _ _ _ _).mono ?_; rintro e w' ⟨rfl, rfl⟩)
  go_ret
  exact ⟨qw (by simp [qJ]), rfl⟩
 have hd := fun (h : zi l[0] = true) => Ky h0 h
 have hn := fun (h : zi l[0] = false) => ZN h0 h
 have HD := qb hd
 have HN := qb hn
 clear hd hn
 go_enter func106, ntmps106
 go_wp2
 go_loop [3] (fun i => ∃ k : Nat, k <= l.length /\ i = .int .i64 k /\ (k = 0 \/ zi l[0] = true) /\ (l.drop k).all zG = l.all zG) (fun i => l.length - (intOf i).toNat)
 case atStart => exact ⟨0, Nat.zero_le _, rfl, .inl rfl, rfl⟩
 obtain ⟨k, hk, rfl, hz, hall⟩ := hrel
 have H := qb hall
 have HZ := qb hz
 clear hall hz
 by_cases hlt : k < l.length
 ·by_cases hk0 : k = 0
  ·subst hk0
   go_wp2
   all_goals first
    | (go_round; (case rel => refine ⟨1, by omega, rfl, .inr ?_, jD H.out hlt ?_⟩ <;> go_light <;> simp_all [zG, zi] <;> try omega); (case measure => simp [intOf]; omega))
    | (go_ret; refine ⟨qw ?_, rfl⟩; refine (HN.out ?_).symm; go_light; simp_all [zi]; try omega)
  ·have hk1 : ((k : Int) == 0) = false := by simp; omega
   have HL := qb (HZ.out.resolve_left hk0)
   go_wp2_with (go_at_call 143; refine (xW _ _).mono ?_; rintro e w' ⟨rfl, rfl⟩)
   all_goals first
    | (go_round; (case rel => refine ⟨k + 1, by omega, by go_num, .inr HL.out, jD H.out hlt ?_⟩; go_light; simp_all [zG, zi]; try omega); (case measure => simp [intOf]; omega))
    | (go_ret; refine ⟨qw ?_, rfl⟩; rw [HD.out HL.out]; rw [<- jU H.out hlt ?_]; · simp
       go_light; simp_all [zG, zi]; try omega)
 go_wp2_with (go_at_call 86; refine (qN _ _ _ _).mono ?_; rintro e w' ⟨rfl, rfl⟩)
 go_ret
 refine ⟨qw ?_, rfl⟩
 rw [HD.out (HZ.out.resolve_left (by omega)), <- jV H.out hlt]
 go_light
 have h1 : (1 : Int) <= (l.length : Int) := by omega
 simp [h1]
 try omega
abbrev Pr := Tx × Tx
def Yk (bs : Tx) : List Value := bs.map fun b => .int .u8 (b.toNat : Int)
def Rdr (w : World) (B g q : Nat) : Prop :=
 ∃ (bs : Tx) (A : Option Addr) (c p : Nat), B <= g /\ p <= q /\ bs.length <= 2000 /\ w.heap[g]? = some (.cells #[.slice A bs.length c, .int .i64 (p : Int)] 128 (0, 0)) /\ Rd w B A (Yk bs)
theorem Rdr.lt {w : World} {B g q : Nat} (h : Rdr w B g q) : g < w.heap.size := by
 obtain ⟨bs, A, c, p, _, _, _, hh, _⟩ := h
 rcases Nat.lt_or_ge g w.heap.size with hlt | hge
 ·exact hlt
 rw [Array.getElem?_eq_none hge] at hh; cases hh
theorem Rdr.more {w : World} {B g q q' : Nat} (h : Rdr w B g q) (hq : q <= q') : Rdr w B g q' := by
 obtain ⟨bs, A, c, p, h1, h2, h3⟩ := h
 exact ⟨bs, A, c, p, h1, by omega, h3⟩
theorem Rdr.keep {w w' : World} {B g q : Nat} (h : Rdr w B g q) (hb : Below w.heap.size w w') : Rdr w' B g q := by
 have hlt := h.lt
 obtain ⟨bs, A, c, p, h1, h2, h3, h4, h5⟩ := h
 exact ⟨bs, A, c, p, h1, h2, h3, (hb.block g hlt).trans h4, h5.keep fun x hx => hb.cell (by omega)⟩
theorem Rdr.frame {w w' : World} {B g q : Nat} {row : Option Nat} (h : Rdr w B g q) (hg : w.grownBy w' row) (hr : ∀ k, row = some k -> g < k) : Rdr w' B g q := by
 have hlt := h.lt
 obtain ⟨bs, A, c, p, h1, h2, h3, h4, h5⟩ := h
 have hne : ∀ k, k <= g -> some k ≠ row := fun k hk e => by have := hr k e.symm; omega
 exact ⟨bs, A, c, p, h1, h2, h3, (hg.block g hlt (hne g (Nat.le_refl _))).trans h4, h5.keep fun x hx => World.cell?_of_block (hg.block _ (by omega) (hne _ (by omega)))⟩
theorem YI {a b : World} {row : Option Nat} (h : a.grownBy b row) {p : Addr} (hp : a.heap.size <= p.block) (u : Value) : a.grownBy (b.setCell p u) row :=
 ⟨h.os, h.tape, h.output, by simpa [World.setCell] using h.size, fun i hi hn => (Below.heap_setCell _ _ _ _ (by omega)).trans (h.block i hi hn)⟩
theorem Yp {a b : World} {row : Option Nat} (h : a.grownBy b row) : a.grownBy b.drew row := ⟨h.os, h.tape, h.output, h.size, h.block⟩
def okP : Nat -> Nat -> List Value -> Bool
 | _, 0, [] => true
 | B, n + 1, .string a :: .string b :: t => decide (a.size <= B) && decide (b.size <= B) && okP B n t
 | _, _, _ => false
theorem okP_get : ∀ (B n : Nat) (cs : List Value), okP B n cs = true -> ∀ k, k < n -> ∃ a b : Tx, cs[k * 2]? = some (sv a) /\ cs[k * 2 + 1]? = some (sv b) /\ a.length <= B /\ b.length <= B
 | B, n + 1, .string a :: .string b :: t, h, 0, _ => by
  simp only [okP, Bool.and_eq_true, decide_eq_true_eq] at h
  obtain ⟨x, rfl⟩ := xa a
  obtain ⟨y, rfl⟩ := xa b
  exact ⟨x, y, rfl, rfl, h.1.1, h.1.2⟩
 | B, n + 1, .string a :: .string b :: t, h, k + 1, hk => by
  simp only [okP, Bool.and_eq_true] at h
  obtain ⟨x, y, h1, h2, h3⟩ := okP_get B n t h.2 k (by omega)
  refine ⟨x, y, ?_, ?_, h3⟩
  ·rw [show (k + 1) * 2 = k * 2 + 1 + 1 by omega]; simpa using h1
  rw [show (k + 1) * 2 + 1 = k * 2 + 1 + 1 + 1 by omega]; simpa using h2
 | _, 0, _, _, k, hk => absurd hk (by omega)
def okS : Nat -> Nat -> List Value -> Bool
 | _, 0, [] => true
 | B, n + 1, .string a :: t => decide (a.size <= B) && okS B n t
 | _, _, _ => false
theorem Wb : ∀ (B n : Nat) (cs : List Value), okS B n cs = true -> ∀ k, k < n -> ∃ a : Tx, cs[k]? = some (sv a) /\ a.length <= B
 | B, n + 1, .string a :: t, h, 0, _ => by
  simp only [okS, Bool.and_eq_true, decide_eq_true_eq] at h
  obtain ⟨x, rfl⟩ := xa a
  exact ⟨x, rfl, h.1⟩
 | B, n + 1, .string a :: t, h, k + 1, hk => by
  simp only [okS, Bool.and_eq_true] at h
  obtain ⟨x, h1, h3⟩ := Wb B n t h.2 k (by omega)
  exact ⟨x, by simpa using h1, h3⟩
 | _, 0, _, _, k, hk => absurd hk (by omega)
theorem Ym {w : World} {g k B n : Nat} {cs : Array Value} {t : TypeId} {fr : Nat × Nat} (h : w.heap[g]? = some (.cells cs t fr)) (hok : okS B n cs.toList = true) (hk : k < n) :
  ∃ a : Tx, w.cell? ⟨g, k, none⟩ = some (sv a) /\ a.length <= B := by
 obtain ⟨a, h1, h3⟩ := Wb B n _ hok k hk
 refine ⟨a, ?_, h3⟩
 rw [cell_of_row w g _ cs t fr h, <- Array.getElem?_toList]; exact h1
def Picked (w : World) (B g q : Nat) (n : Int) (e : Ending) (w' : World) : Prop :=
 ∃ k : Nat, e = .returned (.int .i64 (k : Int)) /\ ((k : Int) < n \/ k = 0) /\ Rdr w' B g (q + 1) /\ w.grownBy w' (some g)
def Odd (w : World) (B g q : Nat) (e : Ending) (w' : World) : Prop :=
 ∃ b : Bool, e = .returned (.bool b) /\ Rdr w' B g (q + 1) /\ w.grownBy w' (some g)
theorem Wy (a b : Nat) (ha : a < 4611686018427387904) (hb : b < 4611686018427387904) : ∃ x : Nat, x < 4611686018427387904 /\ bits .xor .i64 (a : Int) (b : Int) = (x : Int) := by
 have hx : a ^^^ b < 2 ^ 62 := Nat.xor_lt_two_pow (by omega) (by omega)
 refine ⟨a ^^^ b, by omega, ?_⟩
 show IntKind.i64.wrap ((BitVec.ofInt 64 (a : Int) ^^^ BitVec.ofInt 64 (b : Int)).toNat : Int) = _
 have e1 : (BitVec.ofInt 64 (a : Int)).toNat = a := by rw [BitVec.ofInt_natCast, BitVec.toNat_ofNat]; exact Nat.mod_eq_of_lt (by omega)
 have e2 : (BitVec.ofInt 64 (b : Int)).toNat = b := by rw [BitVec.ofInt_natCast, BitVec.toNat_ofNat]; exact Nat.mod_eq_of_lt (by omega)
 rw [BitVec.toNat_xor, e1, e2, IntKind.wrap_i64]
 omega
theorem Yf (B g q : Nat) (n : Int) (w : World) (h : Rdr w B g q) (hq : q <= 1000000000) (hn : n <= 1000000000) (hn0 : -1000000000 <= n) :
  Calls Tryz.prog 60 #[.pointer (some ⟨g, 0, none⟩), .int .i64 n] w (Picked w B g q n) := by
 obtain ⟨bs, A, c, p, hBg, hpq, hbs, hheap, hrd⟩ := h
 have hc0 : w.cell? ⟨g, 0, none⟩ = some (.slice A bs.length c) := by rw [cell_of_row w g 0 _ _ _ hheap]; rfl
 have hc1 : w.cell? ⟨g, 1, none⟩ = some (.int .i64 (p : Int)) := by rw [cell_of_row w g 1 _ _ _ hheap]; rfl
 have hf1 : w.frozen? ⟨g, 1, none⟩ = false := frozen_of_row w g 1 _ _ hheap
 have hR : Hid (Rdr (w.setCell ⟨g, 1, none⟩ (.int .i64 ((p : Int) + 1))) B g (q + 1)) := by
  refine ⟨bs, A, c, p + 1, hBg, by omega, hbs, ?_, hrd.keep fun x hx => World.cell?_setCell_other _ _ _ _ (fun e => by rw [<- e] at hx; exact absurd hx (by show ¬ g < B; omega))⟩
  rw [heap_setCell_same w g 1 _ _ _ hheap]
  rfl
 have hG : Hid (w.grownBy (w.setCell ⟨g, 1, none⟩ (.int .i64 ((p : Int) + 1))) (some g)) := vD (xb _ _) _ _
 have HD := qb hrd
 have HH := qb hheap
 clear hrd hheap
 by_cases h1 : n < 1
 ·go_enter func60, ntmps60
  go_wp2
  go_ret
  exact ⟨0, rfl, .inr rfl, hR.out, hG.out⟩
 by_cases h2 : bs.length = 0
 ·have h2' : ((bs.length : Int) == 0) = true := by simp [h2]
  clear h2
  go_enter func60, ntmps60
  go_wp2
  go_ret
  exact ⟨0, rfl, .inr rfl, hR.out, hG.out⟩
 have h2'' : 0 < bs.length := Nat.pos_of_ne_zero h2
 have h2' : ((bs.length : Int) == 0) = false := by rw [beq_eq_false_iff_ne]; omega
 clear h2
 have hne : Yk bs ≠ [] := by intro e; have := congrArg List.length e; rw [Yk, List.length_map] at this; simp at this; rw [this] at h2''; simp at h2''
 obtain ⟨b, o, rfl, hbB, zz⟩ := HD.out hne
 have hat : ∀ i (hi : i < bs.length), (w.setCell ⟨g, 1, none⟩ (.int .i64 ((p : Int) + 1))).cell? ⟨b, o + i, none⟩ = some (.int .u8 (bs[i].toNat : Int)) := fun i hi => by
  rw [World.cell?_setCell_other _ _ _ _ (by intro e; have := congrArg Addr.block e; simp at this; omega)]
  exact zz i _ (by simp [Yk, List.getElem?_eq_getElem hi])
 have HAT := qb hat
 clear hat zz hne
 by_cases h3 : p < bs.length
 ·have hx := HAT.out p h3
  have hb8 := YG bs[p]
  go_enter func60, ntmps60
  go_wp2
  go_ret
  refine ⟨bs[p].toNat % n.toNat, ?_, .inl ?_, hR.out, hG.out⟩
  ·refine qA ?_
   have : (n.toNat : Int) = n := by omega
   rw [Int.natCast_emod, this]
  have : (n.toNat : Int) = n := by omega
  rw [Int.natCast_emod, this]
  exact Int.emod_lt_of_pos _ (by omega)
 obtain ⟨i1, hi1⟩ : ∃ i1, p % bs.length = i1 := ⟨_, rfl⟩
 obtain ⟨i2, hi2⟩ : ∃ i2, (p * 7 + 3) % bs.length = i2 := ⟨_, rfl⟩
 obtain ⟨i3, hi3⟩ : ∃ i3, p / bs.length = i3 := ⟨_, rfl⟩
 have l1 : i1 < bs.length := by rw [<- hi1]; exact Nat.mod_lt _ h2''
 have l2 : i2 < bs.length := by rw [<- hi2]; exact Nat.mod_lt _ h2''
 have l3 : i3 <= 1000000000 := by rw [<- hi3]; exact Nat.le_trans (Nat.div_le_self _ _) (by omega)
 have e1 : (p : Int) % (bs.length : Int) = (i1 : Int) := by rw [<- hi1, Int.natCast_emod]
 have e2 : ((p : Int) * 7 + 3) % (bs.length : Int) = (i2 : Int) := by rw [<- hi2, Int.natCast_emod]; simp
 have e3 : (p : Int) / (bs.length : Int) = (i3 : Int) := by rw [<- hi3, Int.natCast_ediv]
 clear hi1 hi2 hi3
 have hx1 := HAT.out _ l1
 have hx2 := HAT.out _ l2
 have b1 := YG bs[i1]
 have b2 := YG bs[i2]
 go_enter func60, ntmps60
 go_wp2_with fail
 go_quiet (fail)
 go_wp2_with fail
 go_ret
 obtain ⟨x, hx, hxb⟩ : ∃ x : Nat, (bs[i1].toNat : Int) * 131 + (bs[i2].toNat : Int) * 1117 + (p : Int) * 29 + (i3 : Int) * 53 = (x : Int) /\ x < 4611686018427387904 := ⟨bs[i1].toNat * 131 + bs[i2].toNat * 1117 + p * 29 + i3 * 53, by omega, by omega⟩
 have hx64 : (x : Int) / 64 = ((x / 64 : Nat) : Int) := by omega
 obtain ⟨y, hy, hyx⟩ := Wy x (x / 64) hxb (by omega)
 rw [hx, hx64, hyx]
 have hnn : (n.toNat : Int) = n := by omega
 have hb0 := jn (Below.refl (w.setCell ⟨g, 1, none⟩ (.int .i64 ((p : Int) + 1))).heap.size (w.setCell ⟨g, 1, none⟩ (.int .i64 ((p : Int) + 1)))) nq
 refine ⟨y % n.toNat, ?_, .inl ?_, hR.out.keep hb0, VI hG.out hb0⟩
 ·refine qA ?_
  rw [Int.natCast_emod, hnn]
  exact Int.tmod_eq_emod_of_nonneg (by omega)
 rw [Int.natCast_emod, hnn]
 exact Int.emod_lt_of_pos _ (by omega)
theorem Yu (B g q : Nat) (n : Int) (w : World) (h : Rdr w B g q) (hq : q <= 1000000000) (hn : n <= 1000000000) (hn0 : -1000000000 <= n) :
  Calls Tryz.prog 62 #[.pointer (some ⟨g, 0, none⟩), .int .i64 n] w (Odd w B g q) := by
 by_cases h1 : 0 < n
 ·have HP := qb (Yf B g q n w h hq hn hn0)
  go_enter func62, ntmps62
  go_wp2_with fail
  refine HP.out.mono ?_
  rintro e w1 ⟨k, rfl, _, hr, hg⟩
  have HR := qb hr
  have HG := qb hg
  clear hr hg
  go_wp2
  go_ret
  exact ⟨_, rfl, HR.out, HG.out⟩
 have HR := qb (h.more (Nat.le_succ q))
 clear h
 go_enter func62, ntmps62
 go_wp2
 go_ret
 exact ⟨_, rfl, HR.out, xb _ _⟩
theorem Wk (bs : Tx) (B : Nat) (A : Option Addr) (c : Nat) (w : World) (hr : Rd w B A (Yk bs)) (hB : B <= w.heap.size) (hc : bs.length <= c) (hm : bs.length <= 1048576) :
  Calls Tryz.prog 58 #[.slice A bs.length c] w fun e w' => e = .returned (.pointer (some ⟨w.heap.size, 0, none⟩)) /\ Rdr w' B w.heap.size 0 /\ Below w.heap.size w w' := by
 have hnew : ∀ (m cc : Nat), Rdr (w.alloc (.cells #[.slice A m cc, .int .i64 0] 128)) B w.heap.size 0 \/ ¬ (m <= bs.length /\ m <= 2000) := fun m cc => by
  by_cases hle : m <= bs.length /\ m <= 2000
  ·left
   have hlen : (bs.take m).length = m := by rw [List.length_take]; omega
   refine ⟨bs.take m, A, cc, 0, hB, Nat.le_refl _, by omega, ?_, ?_⟩
   ·rw [hlen]; exact heap_alloc_new w _
   have hf : Rd w B A (Yk (bs.take m)) := by
    refine Rd.front (ys := Yk (bs.drop m)) ?_
    have : Yk (bs.take m) ++ Yk (bs.drop m) = Yk bs := by simp only [Yk]; rw [<- List.map_append, List.take_append_drop]
    rw [this]; exact hr
   exact hf.keep fun x hx => World.cell?_alloc_lt w _ x (by omega)
  exact .inr hle
 have HN := qb hnew
 clear hnew hr
 by_cases h2 : 2000 < bs.length
 ·go_enter func58, ntmps58
  go_wp2
  go_ret
  refine ⟨rfl, ?_, (Below.refl _ _).alloc (Nat.le_refl _) _⟩
  rcases HN.out 2000 c with h | h
  ·exact h
  exact absurd ⟨by omega, by omega⟩ h
 go_enter func58, ntmps58
 go_wp2
 go_ret
 refine ⟨rfl, ?_, (Below.refl _ _).alloc (Nat.le_refl _) _⟩
 rcases HN.out bs.length c with h | h
 ·exact h
 exact absurd ⟨by omega, by omega⟩ h
open Go.Deep
def Fit (ps : List Pr) : Prop := ∀ p ∈ ps, p.1.length <= maxLen /\ p.2.length <= maxLen
section
variable {H : Type} {enc : TypeId × Value -> H} {P : Program} {w : World} {spare : Nat -> Bool} {held : Bool}
theorem Wt {w : World} {a : Addr} {v : Value} (h : w.cell? a = some v) : ∃ b o, a = ⟨b, o, none⟩ /\ b < w.heap.size := by
 obtain ⟨b, o, spot⟩ := a
 have hs : spot = none := World.cell?_spot h
 subst hs
 refine ⟨b, o, rfl, ?_⟩
 rcases Nat.lt_or_ge b w.heap.size with hlt | hge
 ·exact hlt
 simp [World.cell?, Array.getElem?_eq_none hge] at h
theorem YV {t e : TypeId} {v : Value} {d : DataW H} {p : List MemPlace} (ht : P.underlying t = some (.slice e)) (he : P.underlying e = some (.int .u8)) (ce : P.cellsOf e = 1)
  (hv : Value.okWide P w .any 0 t v) (h : DataW.Trod enc P w 0 spare held t v d p) :
  ∃ (A : Option Addr) (c : Nat) (bs : Tx), v = .slice A bs.length c /\ Rd w w.heap.size A (bs.map fun b => .int .u8 (b.toNat : Int)) /\ bs.length <= c /\ c <= maxLen := by
 obtain ⟨a0, len0, cap0, rfl⟩ := okWide_slice ht hv
 obtain ⟨fuel, hf⟩ := h
 rcases open_slice1 ht ce hf with ⟨hcs, _⟩ | ⟨a, len, cap, m, n, V, D, Pl, hcs, _, hl, hm, hmm, _, hx⟩
 ·simp [Value.cells] at hcs
  obtain ⟨rfl, rfl, rfl⟩ := hcs
  exact ⟨none, 0, [], rfl, Rd.nil_, by simp, by simp [maxLen]⟩
 simp [Value.cells] at hcs
 obtain ⟨rfl, rfl, rfl⟩ := hcs
 have hlm : len0 <= m := by rw [hmm]; split <;> omega
 have each : ∀ i, i < len0 -> ∃ q : UInt8, w.cell? (a.add i) = some (.int .u8 (q.toNat : Int)) := by
  intro i hi
  obtain ⟨h1, h2⟩ := hx i (by omega)
  obtain ⟨z, e0, _, wz⟩ := DataW.trod_int he h2
  simp at e0
  have hz : 0 <= z /\ z <= 255 := by
   simp only [Lit.wf, IntKind.min, IntKind.max, IntKind.signed, IntKind.bits, Bool.and_eq_true] at wz
   simp at wz
   omega
  refine ⟨UInt8.ofNat z.toNat, ?_⟩
  rw [h1, e0]
  have : ((UInt8.ofNat z.toNat).toNat : Int) = z := by rw [UInt8.toNat_ofNat']; omega
  rw [this]
 obtain ⟨q, hq⟩ := choose_lt each
 have hlen : ((List.range len0).map q).length = len0 := by simp
 refine ⟨some a, cap0, (List.range len0).map q, by rw [hlen], ?_, by rw [hlen]; exact hl, hm⟩
 intro hne
 have h0 : 0 < len0 := by
  rcases Nat.eq_zero_or_pos len0 with h | h
  ·subst h; exact absurd rfl hne
  exact h
 obtain ⟨b, o, rfl, hb⟩ := Wt (by simpa [Addr.add] using hq 0 h0)
 refine ⟨b, o, rfl, hb, fun j u hu => ?_⟩
 have hj : j < len0 := by
  have := (List.getElem?_eq_some_iff.1 hu).1
  simpa using this
 have := hq j hj
 rw [add_plain] at this
 rw [this]
 simp [hj] at hu
 rw [<- hu]
end
section
variable {g : Nat} {w w' : World}
end
section
variable {g : Nat}
end
theorem Yb {w : World} {g base size n : Nat} {e : TypeId} {v : Value} {xs : List Value} (h : w.ownsRow base e size v n xs) (hlt : g < base) : ∀ k, v.ownBlock = some k -> g < k := fun k hk => by have := (h.lt k hk).1; omega
theorem Ya {w0 w w' : World} {g base : Nat} {row : Option Nat} (h : w0.grownBy w (some g)) (hg : w.grownBy w' row) (hb : w0.heap.size <= base) (hr : ∀ k, row = some k -> base <= k) : w0.grownBy w' (some g) :=
 ⟨hg.os.trans h.os, hg.tape.trans h.tape, hg.output.trans h.output, Nat.le_trans h.size hg.size, fun k hk hn => (hg.block k (Nat.lt_of_lt_of_le hk h.size) (fun e => by have := hr k e.symm; omega)).trans (h.block k hk hn)⟩
theorem Tryz.info_string : (Tryz.prog.info? 9).map (fun i => (i.zero, i.size, i.bytes)) = some (some (.string ⟨#[]⟩), 1, 16) := by kernel_rfl
def OwnS (w : World) (base : Nat) (A : Option Addr) (c : Nat) (xs : List Tx) : Prop := w.ownsRow base 9 1 (.slice A xs.length c) xs.length (xs.map sv)
def NewS (w : World) (xs : List Tx) (e : Ending) (w' : World) : Prop := ∃ A c, e = .returned (.slice A xs.length c) /\ OwnS w' w.heap.size A c xs /\ Below w.heap.size w w'
theorem Jo (w : World) (base : Nat) : OwnS w base none 0 [] := World.ownsRow_nil w base _ 1
theorem xF (w : World) (base : Nat) (h : base <= w.heap.size) : OwnS (w.alloc (.cells #[] 9)) base (some ⟨w.heap.size, 0, none⟩) 0 [] := World.ownsRow_lit w #[] 0 h (by simp [maxLen]) rfl
theorem kC {w w' : World} {base c : Nat} {A : Option Addr} {xs : List Tx} (h : OwnS w base A c xs) (hb : Below w.heap.size w w') : OwnS w' base A c xs := jy h hb
theorem yi {w : World} {base c : Nat} {A : Option Addr} {xs : List Tx} (h : OwnS w base A c xs) : Rd w w.heap.size A (xs.map sv) := Rd.of_own h
theorem Yo {w : World} {base c : Nat} {A : Option Addr} {xs : List Tx} (h : OwnS w base A c xs) : ∀ g, Value.ownBlock (.slice A xs.length c) = some g -> base <= g := fun g hg => (h.lt g hg).1
theorem Jp {w : World} {base c : Nat} {A : Option Addr} {xs : List Tx} (h : OwnS w base A c xs) : xs.length <= c := by
 obtain ⟨A', c', e, hc, _⟩ := jf h
 injection e with _ _ e3
 omega
theorem Wr {ops : Array Oper} {rest : List Oper} {o : Oper} {a : Act} {Q : Exit -> Act -> World -> Prop} {W : World} (hgd : o.guard = none) (s x : Operand)
  (ho : o.op = .call { callee := .builtin .append, args := #[s, x], argTypes := #[37, 37] }) (base : Nat) (A : Option Addr) (c : Nat) (xs : List Tx) (u : Tx)
  (hs : a.eval s = .slice A xs.length c) (hown : OwnS W base A c xs) (b : Nat) (hx : a.eval x = .slice (some ⟨b, 0, none⟩) 1 1) (hh : W.heap[b]? = some (.cells #[sv u] 9 (0, 0))) (hlen : xs.length <= 4294967296) (hbase : base <= W.heap.size)
  (h : ∀ A' c' w', OwnS w' base A' c' (xs ++ [u]) -> W.grownBy w' (Value.ownBlock (.slice A xs.length c)) -> wpList Tryz.prog ops Q rest (a.put o.dst (.slice A' (xs ++ [u]).length c')) w') :
  wpList Tryz.prog ops Q (o :: rest) a W := by
 obtain ⟨i0, hi, hz0, hz1, hz2⟩ := info_parts Tryz.info_string
 refine wpList_append_own _ hgd s x _ ho base _ i0 _ 1 16 underlying37 hi hz0 hz1 hz2 rfl (by decide) _ _ _ hs hown ⟨b, 0, none⟩ 1 1 [sv u] hx rfl ?_ ?_ (by unfold maxLen; omega) (by omega) hbase ?_
 ·intro j z hj
  rw [Addr.add_lit, Nat.zero_add, cell_of_row W b j _ _ _ hh]
  simpa using hj
 ·intro z hz
  simp at hz
  subst hz
  rfl
 intro v' w' ho' hg' _
 obtain ⟨A', c', rfl, _, _⟩ := jf ho'
 have hl : (xs ++ [u]).length = xs.length + 1 := by simp
 rw [hl] at h
 refine h A' c' w' ?_ hg'
 unfold OwnS
 rw [List.length_append, List.map_append]
 exact ho'
def DrawnT (w : World) (B g q m L : Nat) (e : Ending) (w' : World) : Prop :=
 ∃ l : Tx, e = .returned (.string ⟨l.toArray⟩) /\ l.length <= L /\ Rdr w' B g (q + m) /\ w.grownBy w' (some g)
def dgt (k : Nat) : UInt8 := UInt8.ofNat (48 + k % 10)
theorem KY (k : Nat) : ((dgt k).toNat : Int) = 48 + (k : Int) % 10 := by
 unfold dgt
 rw [UInt8.toNat_ofNat']
 omega
def digs : Nat -> Nat -> Tx -> Tx
 | 0, _, acc => acc
 | f + 1, k, acc => if k = 0 then acc else digs f (k / 10) (dgt k :: acc)
def qL (k : Nat) : Tx := 109 :: digs (k + 1) k []
theorem Qj : ∀ (f g k : Nat) (acc : Tx), k < f -> k < g -> digs f k acc = digs g k acc
 | 0, _, _, _, h, _ => absurd h (by omega)
 | _, 0, _, _, _, h => absurd h (by omega)
 | f + 1, g + 1, k, acc, h1, h2 => by
  unfold digs
  by_cases hk : k = 0
  ·simp [hk]
  simp only [hk, if_false]
  exact Qj f g (k / 10) _ (by omega) (by omega)
theorem KZ (k : Nat) (acc : Tx) (h : 0 < k) : digs (k + 1) k acc = digs (k / 10 + 1) (k / 10) (dgt k :: acc) := by
 rw [digs, if_neg (by omega)]
 exact Qj _ _ _ _ (by omega) (by omega)
theorem Va (k : Nat) (h0 : 0 < k) (h1 : k <= 4611686018427387904) (w : World) :
  Calls Tryz.prog 57 #[.int .i64 k] w fun e w' => e = .returned (.string ⟨(qL k).toArray⟩) /\ Below w.heap.size w w' := by
 have hk0 : ¬ k = 0 := by omega
 go_enter func57, ntmps57
 go_wp2
 go_loopw [0, 3] (fun n s wr => ∃ (j : Nat) (acc : Tx), n = .int .i64 j /\ s = .string ⟨acc.toArray⟩ /\ j + acc.length <= k /\ digs (j + 1) j acc = digs (k + 1) k [] /\ Below w.heap.size w wr) (fun n _ _ => (intOf n).toNat)
 case atStart => exact ⟨k, [], rfl, rfl, by simp, rfl, Below.refl _ _⟩
 obtain ⟨j, acc, rfl, rfl, hj, hd, hb⟩ := hrel
 have HB := qb hb
 have HD := qb hd
 clear hb hd
 by_cases hlt : 0 < j
 ·have hcv := fun W => zN (P := Tryz.prog) underlying44 underlying5 underlying9 (dgt j) (48 + (j : Int) % 10) (KY j).symm W
  go_wp2
  go_roundw
  case rel =>
   refine ⟨j / 10, dgt j :: acc, by go_num, rfl, by simp; omega, ?_, HB.out.alloc HB.out.size _⟩
   rw [<- HD.out, KZ j acc hlt]
  case measure => simp [intOf]; omega
 go_wp2
 go_ret
 have hj0 : j = 0 := by omega
 subst hj0
 refine ⟨qM ?_, HB.out⟩
 have e : acc = digs (k + 1) k [] := HD.out
 rw [e]
 rfl
theorem je (k : Nat) (z : Int) (hz : z = (k : Int)) (h0 : 0 < k) (h1 : k <= 4611686018427387904) (w : World) :
  Calls Tryz.prog 57 #[.int .i64 z] w fun e w' => e = .returned (.string ⟨(qL k).toArray⟩) /\ Below w.heap.size w w' := by
 subst hz; exact Va k h0 h1 w
abbrev qS (xs : List Tx) : List Value := xs.map sv
theorem Rd.str {w : World} {B : Nat} {A : Option Addr} {xs : List Tx} (h : Rd w B A (qS xs)) {k : Nat} (hk : k < xs.length) : ∃ b o, A = some ⟨b, o, none⟩ /\ b < B /\ w.cell? ⟨b, o + k, none⟩ = some (sv xs[k]) := by
 have hne : qS xs ≠ [] := by
  intro e
  have := congrArg List.length e
  simp at this
  subst this
  simp at hk
 obtain ⟨b, o, e, hb, hc⟩ := h hne
 exact ⟨b, o, e, hb, hc _ _ (by simp [hk])⟩
def FitS (xs : List Tx) : Prop := ∀ x ∈ xs, x.length <= maxLen
def qR : List Tx -> Nat
 | [] => 0
 | x :: t => x.length + qR t
theorem vh : ∀ (xs : List Tx) (k : Nat) (h : k < xs.length), qR (xs.drop k) = xs[k].length + qR (xs.drop (k + 1))
 | x :: t, 0, _ => by simp [qR]
 | x :: t, k + 1, h => by simpa using vh t k (by simpa using h)
theorem ZC : ∀ (xs : List Tx) (k : Nat), qR (xs.drop k) <= qR xs
 | [], k => by simp
 | x :: t, 0 => by simp
 | x :: t, k + 1 => by have := ZC t k; simp [qR]; omega
theorem Kj (xs : List Tx) (A : Option Addr) (c : Nat) (left : Int) (w : World) (hr : Rd w w.heap.size A (qS xs))
  (h0 : 0 <= left) (h1 : left <= 1048576) (hn : xs.length <= maxLen) (hfit : (xs.length : Int) + qR xs <= left) :
  Calls Tryz.prog 15 #[.slice A xs.length c, .int .i64 left] w fun e w' => e = .returned (.int .i64 (left - xs.length - qR xs)) /\ w = w' := by
 unfold maxLen at hn
 go_enter func15, ntmps15
 go_wp2
 go_loop [1, 5] (fun l i => ∃ (k : Nat) (lf : Int), k <= xs.length /\ i = .int .i64 k /\ l = .int .i64 lf /\ 0 <= lf /\ lf <= 1048576 /\ lf - qR (xs.drop k) = left - xs.length - qR xs) (fun _ i => xs.length - (intOf i).toNat)
 case atStart => exact ⟨0, _, Nat.zero_le _, rfl, rfl, by omega, by omega, by simp⟩
 obtain ⟨k, lf, hk, rfl, rfl, hlf0, hlf1, hrest⟩ := hrel
 have H := qb hrest
 by_cases hlt : k < xs.length
 ·obtain ⟨b, o, rfl, hab, hc0⟩ := hr.str hlt
  clear hrest
  have hps := vh xs k hlt
  have hle := ZC xs (k + 1)
  have hnn : 0 <= lf - (xs[k].length : Int) := by have := H.out; omega
  have HP := qb hps
  clear hps
  go_wp2
  go_round
  case rel =>
   have := HP.out; have := H.out
   exact ⟨k + 1, _, by omega, by go_num, rfl, by omega, by omega, by omega⟩
  case measure => simp [intOf]; omega
 go_wp2
 go_ret
 refine ⟨qA ?_, rfl⟩
 have e : xs.drop k = [] := zc xs k (by omega)
 rw [e] at hrest
 simp [qR] at hrest
 omega
theorem Kk (xs : List Tx) (A : Option Addr) (c : Nat) (left : Int) (w : World) (hr : Rd w w.heap.size A (qS xs)) (hl : FitS xs)
  (h0 : 0 <= left) (h1 : left <= 1048576) (hn : xs.length <= maxLen) (hfit : left < (xs.length : Int) + qR xs) :
  Calls Tryz.prog 15 #[.slice A xs.length c, .int .i64 left] w fun e w' => e = .returned (.int .i64 (-1)) /\ w = w' := by
 unfold maxLen at hn
 by_cases hz : left < xs.length
 ·go_enter func15, ntmps15
  go_wp2
  go_ret
  exact ⟨rfl, rfl⟩
 go_enter func15, ntmps15
 go_wp2
 go_loop [1, 5] (fun l i => ∃ (k : Nat) (lf : Int), k <= xs.length /\ i = .int .i64 k /\ l = .int .i64 lf /\ 0 <= lf /\ lf <= 1048576 /\ lf < qR (xs.drop k)) (fun _ i => xs.length - (intOf i).toNat)
 case atStart => exact ⟨0, _, Nat.zero_le _, rfl, rfl, by omega, by omega, by simp; omega⟩
 obtain ⟨k, lf, hk, rfl, rfl, hlf0, hlf1, hrest⟩ := hrel
 by_cases hlt : k < xs.length
 ·obtain ⟨b, o, rfl, hab, hc0⟩ := hr.str hlt
  have HP := qb (vh xs k hlt)
  have hla := hl _ (List.getElem_mem hlt)
  unfold maxLen at hla
  by_cases ho : lf < (xs[k].length : Int)
  ·go_wp2
   go_ret
   exact ⟨rfl, rfl⟩
  have hnn : 0 <= lf - (xs[k].length : Int) := by omega
  go_wp2
  go_round
  case rel =>
   have := HP.out
   exact ⟨k + 1, _, by omega, by go_num, rfl, by omega, by omega, by omega⟩
  case measure => simp [intOf]; omega
 exfalso
 have e : xs.drop k = [] := zc xs k (by omega)
 rw [e] at hrest
 simp [qR] at hrest
 omega
theorem ZD {α : Type} {P R : List α} {r0 u0 : α} {k : Nat} (hP : P.length = k) : (P ++ r0 :: R).set k u0 = P ++ u0 :: R := by
 rw [List.set_append_right _ _ (by omega)]
 have a1 : k - P.length = 0 := by omega
 rw [a1]
 rfl
theorem Kl {w : World} {base n g k c : Nat} {e : TypeId} {P R : List Value} {r0 u0 : Value} (h : w.ownsRow base e 1 (.slice (some ⟨g, 0, none⟩) n c) n (P ++ r0 :: R)) (hP : P.length = k) :
  (w.setCell ⟨g, k, none⟩ u0).ownsRow base e 1 (.slice (some ⟨g, 0, none⟩) n c) n (P ++ u0 :: R) := by
 have h1 := (h.stored k u0).1
 rwa [ZD hP] at h1
theorem Km {w : World} {base n g k c : Nat} {e : TypeId} {P R : List Value} {r0 : Value} (h : w.ownsRow base e 1 (.slice (some ⟨g, 0, none⟩) n c) n (P ++ r0 :: R)) (hP : P.length = k) :
  w.cell? ⟨g, k, none⟩ = some r0 /\ w.frozen? ⟨g, k, none⟩ = false := by
 have hl := h.1
 rw [List.length_append, hP] at hl
 simp only [List.length_cons] at hl
 refine ⟨?_, h.frozenAt _⟩
 rw [h.cellAt k (by omega), List.getElem?_append_right (by omega), hP]; simp
theorem Kn {n k : Nat} {P R : List Value} (hl : (P ++ R).length = n) (hP : P.length = k) (hk : k < n) : ∃ r0 R', R = r0 :: R' := by
 rw [List.length_append] at hl
 match R, hl with
 | [], hl => simp at hl; omega
 | r0 :: R', _ => exact ⟨r0, R', rfl⟩
theorem Ko (xs : List Tx) (A : Option Addr) (c : Nat) (w : World) (hr : Rd w w.heap.size A (qS xs)) (hn : xs.length <= 1048576) :
  Calls Tryz.prog 17 #[.slice A xs.length c] w (NewS w xs) := by
 obtain ⟨i0, hi, hz0, hz1, hz2⟩ := info_parts Tryz.info_string
 have hmk := fun w => vE (P := Tryz.prog) underlying37 hi hz0 hz1 hz2 xs.length (by omega) (by omega) w
 have hsz : (madeCells (Value.string ⟨#[]⟩).cells (xs.length * 1)).size = xs.length * 1 := size_madeCells _ _
 generalize hM : madeCells (Value.string ⟨#[]⟩).cells (xs.length * 1) = M at *
 clear hM hi hz0 hz1 hz2
 have HSZ := qb hsz
 clear hsz
 go_enter func17, ntmps17
 go_wp2
 go_loopw [4] (fun i wr => ∃ (k : Nat) (R : List Value), k <= xs.length /\ i = .int .i64 k /\ wr.ownsRow w.heap.size 9 1 (.slice (some ⟨w.heap.size, 0, none⟩) xs.length xs.length) xs.length (qS (xs.take k) ++ R) /\ Below w.heap.size w wr) (fun i _ => xs.length - (intOf i).toNat)
 case atStart => exact ⟨0, M.toList, Nat.zero_le _, rfl, World.ownsRow_lit w M xs.length (Nat.le_refl _) (by unfold maxLen; omega) HSZ.out, (Below.refl _ _).alloc (Nat.le_refl _) _⟩
 obtain ⟨k, R, hk, rfl, hown, hb⟩ := hrel
 have HB := qb hb
 have HO := qb hown
 by_cases hlt : k < xs.length
 ·obtain ⟨b, o, rfl, hab, hc0⟩ := (hr.below hb).str hlt
  have hP : (qS (xs.take k)).length = k := by rw [List.length_map, List.length_take]; omega
  obtain ⟨r0, R', rfl⟩ := Kn hown.1 hP (by omega)
  obtain ⟨hs0, hg0⟩ := Km hown hP
  have HP := qb hP
  clear hb hown hP
  go_wp2
  go_roundw
  case rel =>
   refine ⟨k + 1, R', by omega, by go_num, ?_, HB.out.setCell (Nat.le_refl _) _⟩
   have := Kl (u0 := sv xs[k]) HO.out HP.out
   rw [zu xs k hlt, qS, List.map_append, List.append_assoc]
   exact this
  case measure => simp [intOf]; omega
 go_wp2
 go_ret
 have hkn : k = xs.length := by omega
 subst hkn
 have hR : R = [] := by
  have h1 := hown.1
  rw [List.take_length, List.length_append, List.length_map] at h1
  exact List.eq_nil_of_length_eq_zero (by omega)
 subst hR
 rw [List.take_length, List.append_nil] at hown
 exact ⟨_, _, rfl, hown, hb⟩
theorem Kp (ps qs : List Tx) (A A' : Option Addr) (c c' : Nat) (w : World) (hp : Rd w w.heap.size A (qS ps)) (hq : Rd w w.heap.size A' (qS qs)) (hn : ps.length <= maxLen) :
  Calls Tryz.prog 19 #[.slice A ps.length c, .slice A' qs.length c'] w fun e w' => e = .returned (.bool (ps == qs)) /\ Below w.heap.size w w' := by
 unfold maxLen at hn
 by_cases hl : ps.length = qs.length
 ·have hb0 : ((ps.length : Int) != (qs.length : Int)) = false := by simp [hl]
  have HL := qb hl
  clear hl
  go_enter func19, ntmps19
  go_wp2
  go_loopw [5] (fun i wr => ∃ (k : Nat), k <= ps.length /\ i = .int .i64 k /\ (ps.drop k == qs.drop k) = (ps == qs) /\ Below w.heap.size w wr) (fun i _ => ps.length - (intOf i).toNat)
  case atStart => exact ⟨0, Nat.zero_le _, rfl, rfl, Below.refl _ _⟩
  obtain ⟨k, hk, rfl, heq, hb⟩ := hrel
  have HB := qb hb
  by_cases hlt : k < ps.length
  ·have hlq : k < qs.length := by have := HL.out; omega
   obtain ⟨b, o, rfl, hab, hc0⟩ := (hp.below hb).str hlt
   obtain ⟨b', o', rfl, hab', hc0'⟩ := (hq.below hb).str hlq
   have HQ : Hid ((ps[k] == qs[k] && (ps.drop (k + 1) == qs.drop (k + 1))) = (ps == qs)) := by
    show _ = _
    rw [<- heq, qX ps k hlt, qX qs k hlq, List.cons_beq_cons]
   clear hb heq
   generalize ps[k] = a0 at *
   generalize qs[k] = b0 at *
   cases h1 : (a0 == b0)
   all_goals
    have h1n : (a0 != b0) = !(a0 == b0) := rfl
    rw [h1] at h1n
    have H1 := qb h1
    go_wp2_with fail
    go_quiet (fail)
    go_wp2
   all_goals first
    | (go_ret; refine ⟨qw ?_, jn HB.out _⟩; rw [<- HQ.out, H1.out]; rfl)
    | (go_roundw; (case rel => exact ⟨k + 1, by omega, by go_num, by rw [<- HQ.out, H1.out]; rfl, jn HB.out _⟩); (case measure => simp [intOf]; omega))
  ·go_wp2
   go_ret
   refine ⟨qw ?_, hb⟩
   rw [<- heq, zc ps k (by omega), zc qs k (by have := HL.out; omega)]
   rfl
 have hb0 : ((ps.length : Int) != (qs.length : Int)) = true := by simp; omega
 have HL : Hid ((ps == qs) = false) := by show _ = _; simp; intro h; exact hl (by rw [h])
 clear hl
 go_enter func19, ntmps19
 go_wp2
 go_ret
 exact ⟨qw HL.out.symm, Below.refl _ _⟩
def zr : Nat -> Nat -> List Tx
 | _, 0 => []
 | k, n + 1 => zr k n ++ [qL (k + n)]
theorem ja : ∀ k n, (zr k n).length = n
 | _, 0 => rfl
 | k, n + 1 => by simp [zr, ja k n]
theorem ZE : ∀ (k n i : Nat) (h : i < (zr k n).length), (zr k n)[i] = qL (k + i)
 | k, 0, i, h => by simp [zr] at h
 | k, n + 1, i, h => by
  by_cases hi : i < n
  ·have hl : i < (zr k n).length := by rw [ja]; exact hi
   simp only [zr]
   rw [List.getElem_append_left hl]
   exact ZE k n i hl
  have hin : i = n := by rw [ja] at h; omega
  subst hin
  simp only [zr]
  rw [List.getElem_append_right (by rw [ja]; exact Nat.le_refl _)]
  simp [ja]
def MarkedS (w : World) (base : Nat) (A : Option Addr) (c k n : Nat) (e : Ending) (w' : World) : Prop :=
 e = .returned (.int .i64 ((k + n : Nat) : Int)) /\ OwnS w' base A c (zr k n) /\ w.grownBy w' (Value.ownBlock (.slice A n c))
theorem Kq (ps : List Tx) (base : Nat) (A : Option Addr) (c k : Nat) (w : World) (hown : OwnS w base A c ps) (hk0 : 0 < k) (hkn : k + ps.length <= 4611686018427387904) :
  Calls Tryz.prog 20 #[.slice A ps.length c, .int .i64 k] w (MarkedS w base A c k ps.length) := by
 have HOWN := qb hown
 clear hown
 go_enter func20, ntmps20
 go_wp2
 go_loopw [1, 5] (fun m i wr => ∃ (j : Nat), j <= ps.length /\ i = .int .i64 j /\ m = .int .i64 ((k + j : Nat) : Int) /\ wr.ownsRow base 9 1 (.slice A ps.length c) ps.length (qS (zr k j) ++ qS (ps.drop j)) /\ w.grownBy wr (Value.ownBlock (.slice A ps.length c))) (fun _ i _ => ps.length - (intOf i).toNat)
 case atStart => exact ⟨0, Nat.zero_le _, rfl, rfl, HOWN.out, xb _ _⟩
 obtain ⟨j, hj, rfl, rfl, ho, hg⟩ := hrel
 by_cases hlt : j < ps.length
 ·obtain ⟨g, rfl, hbg, hgs⟩ := zJ ho (by omega)
  have HG := qb hg
  have hP : (qS (zr k j)).length = j := by rw [List.length_map, ja]
  rw [qX ps j hlt] at ho
  have HO := qb ho
  have HP := qb hP
  clear hg ho hP
  go_wp2_with fail
  refine (je (k + j) _ (by omega) (by omega) (by omega) _).mono ?_
  rintro e w1 ⟨rfl, hb1⟩
  have ho1 := jy HO.out hb1
  obtain ⟨x0, hs0, hg0⟩ := own_any ho1 j (by omega)
  have HB1 := qb hb1
  have HO1 := qb (ho1.stored j (sv (qL (k + j)))).1
  clear hb1 ho1
  go_wp2
  go_roundw
  case rel =>
   refine ⟨j + 1, by omega, by go_num, by go_num, ?_, ?_⟩
   ·have h := HO1.out
    rw [show qS (ps[j] :: ps.drop (j + 1)) = sv ps[j] :: qS (ps.drop (j + 1)) from rfl, ZD HP.out] at h
    rw [zr, qS, List.map_append, List.append_assoc]
    exact h
   exact vD (VI HG.out HB1.out) _ _
  case measure => simp [intOf]; omega
 go_wp2
 go_ret
 have hjn : j = ps.length := by omega
 subst hjn
 rw [List.drop_length] at ho
 simp only [qS, List.map_nil, List.append_nil] at ho
 refine ⟨qA (by omega), ?_, hg⟩
 unfold OwnS
 rw [ja]
 exact ho
theorem Kr (n : Nat) (A : Option Addr) (c k : Nat) (w : World) (hr : Rd w w.heap.size A (qS (zr k n))) (hk0 : 0 < k) (hkn : k + n <= 4611686018427387904) :
  Calls Tryz.prog 21 #[.slice A n c, .int .i64 k] w fun e w' => e = .returned (.int .i64 ((k + n : Nat) : Int)) /\ Below w.heap.size w w' := by
 go_enter func21, ntmps21
 go_wp2
 go_loopw [1, 5] (fun m i wr => ∃ (j : Nat), j <= n /\ i = .int .i64 j /\ m = .int .i64 ((k + j : Nat) : Int) /\ Below w.heap.size w wr) (fun _ i _ => n - (intOf i).toNat)
 case atStart => exact ⟨0, Nat.zero_le _, rfl, rfl, Below.refl _ _⟩
 obtain ⟨j, hj, rfl, rfl, hb⟩ := hrel
 by_cases hlt : j < n
 ·have hl : j < (zr k n).length := by rw [ja]; exact hlt
  obtain ⟨b, o, rfl, hab, hc0⟩ := (hr.below hb).str hl
  rw [ZE] at hc0
  have HB := qb hb
  clear hb
  have hbw : b < wr.heap.size := by have := HB.out.size; omega
  have HC0 := qb hc0
  go_wp2_with fail
  go_region_held3 (fun w' => w'.cell? ⟨b, o + j, none⟩ = some (sv (qL (k + j)))) (first | go_keep | exact (hb1.cell (p := ⟨b, o + j, none⟩) hbw).trans HC0.out)
   (first | (go_at_call 57; refine (je (k + j) _ (by omega) (by omega) (by omega) _).mono ?_; rintro e w1 ⟨rfl, hb1⟩))
  have HB1 := qb (qa3 HB.out.drew hb1)
  clear hb1 hc0
  go_wp2
  go_roundw
  case rel => exact ⟨j + 1, by omega, by go_num, by go_num, HB1.out⟩
  case measure => simp [intOf]; omega
 go_wp2
 go_ret
 exact ⟨qA (by omega), hb⟩
abbrev TyB := World -> Value -> Prop
def KB (w w' : World) : Prop := Below w.heap.size w w'
def bIs (v0 : Value) : TyB := fun _ v => v = v0
def bAny : TyB := fun _ _ => True
def bBox (B : Nat) (cs : Array Value) (t : TypeId) : TyB := fun w v => ∃ b, v = .pointer (some ⟨b, 0, none⟩) /\ B <= b /\ w.heap[b]? = some (.cells cs t (0, 0))
theorem qj {v : Value} : ∀ w w' x, KB w w' -> bIs v w x -> bIs v w' x := fun _ _ _ _ h => h
theorem yb {B : Nat} {cs : Array Value} {t : TypeId} : ∀ w w' x, KB w w' -> bBox B cs t w x -> bBox B cs t w' x := fun _ _ _ hk ⟨b, h1, h2, h3⟩ => ⟨b, h1, h2, (hk.block b (lt_of_block h3)).trans h3⟩
def bRow (B n : Nat) (cs : Array Value) (t : TypeId) : TyB := fun w v => ∃ b, v = .slice (some ⟨b, 0, none⟩) n n /\ B <= b /\ w.heap[b]? = some (.cells cs t (0, 0))
theorem yc {B n : Nat} {cs : Array Value} {t : TypeId} : ∀ w w' x, KB w w' -> bRow B n cs t w x -> bRow B n cs t w' x := fun _ _ _ hk ⟨b, h1, h2, h3⟩ => ⟨b, h1, h2, (hk.block b (lt_of_block h3)).trans h3⟩
theorem qr {w : World} {b : Nat} {x y : Value} {t : TypeId} (h : w.heap[b]? = some (.cells #[x, y] t (0, 0))) : w.cell? ⟨b, 0, none⟩ = some x /\ w.cell? ⟨b, 1, none⟩ = some y /\ w.frozen? ⟨b, 0, none⟩ = false /\ w.frozen? ⟨b, 1, none⟩ = false := by
 simp [World.cell?, World.frozen?, h]
theorem qP {w : World} {b o : Nat} {cs : Array Value} {t : TypeId} {u : Value} (h : w.heap[b]? = some (.cells cs t (0, 0))) : (w.setCell ⟨b, o, none⟩ u).heap[b]? = some (.cells (cs.setIfInBounds o u) t (0, 0)) := by
 simp [World.setCell, Array.getElem?_modify, h]
theorem VQ {w : World} {b : Nat} {x y u v : Value} {t : TypeId} (h : w.heap[b]? = some (.cells #[x, y] t (0, 0))) : ((w.setCell ⟨b, 0, none⟩ u).setCell ⟨b, 1, none⟩ v).heap[b]? = some (.cells #[u, v] t (0, 0)) :=
 qP (qP h)
theorem qo {a : Array Value} {d : Nat} {v : Value} (h : a.getD d undef = v) : a[d]?.getD undef = v := by
 rw [<- h]; simp
theorem VY (w : World) : KB w w := Below.refl _ _
inductive Pt where
 | mk (kind : Int) (text name : Tx) (parts other : List Pt)
namespace Pt
def kind : Pt -> Int | mk k _ _ _ _ => k
def text : Pt -> Tx | mk _ t _ _ _ => t
def name : Pt -> Tx | mk _ _ n _ _ => n
def parts : Pt -> List Pt | mk _ _ _ xs _ => xs
def other : Pt -> List Pt | mk _ _ _ _ ys => ys
mutual
def deep : Pt -> Nat
 | mk _ _ _ xs ys => max (deeps xs) (deeps ys) + 1
def deeps : List Pt -> Nat
 | [] => 0
 | x :: t => max (deep x) (deeps t)
end
theorem deep_mem : ∀ {xs : List Pt} {x : Pt}, x ∈ xs -> deep x <= deeps xs
 | y :: t, x, h => by
  rcases List.mem_cons.1 h with h | h
  ·subst h; simp only [deeps]; omega
  have := deep_mem h; simp only [deeps]; omega
theorem ind {P : Pt -> Prop} (h : ∀ k t n xs ys, (∀ x ∈ xs, P x) -> (∀ y ∈ ys, P y) -> P (mk k t n xs ys)) (x : Pt) : P x := by
 have : ∀ d (x : Pt), deep x <= d -> P x := by
  intro d
  induction d with
  | zero => intro x hx; cases x; simp [deep] at hx
  | succ d ih =>
   intro x hx
   cases x with
   | mk k t n xs ys =>
    simp only [deep] at hx
    exact h k t n xs ys (fun y hy => ih y (by have := deep_mem hy; omega)) (fun y hy => ih y (by have := deep_mem hy; omega))
 exact this _ x (Nat.le_refl _)
mutual
def same : Pt -> Pt -> Bool
 | mk k t n xs ys, mk k' t' n' xs' ys' => k == k' && (t == t' && (n == n' && (sames xs xs' && sames ys ys')))
def sames : List Pt -> List Pt -> Bool
 | [], [] => true
 | x :: t, y :: s => same x y && sames t s
 | _, _ => false
end
theorem sames_iff {xs : List Pt} (h : ∀ x ∈ xs, ∀ y, same x y = true ↔ x = y) : ∀ ys, sames xs ys = true ↔ xs = ys := by
 induction xs with
 | nil => intro ys; cases ys <;> simp [sames]
 | cons x t ih =>
  intro ys
  cases ys with
  | nil => simp [sames]
  | cons y s => rw [sames, Bool.and_eq_true, h x (by simp), ih (fun z hz => h z (List.mem_cons_of_mem _ hz)), List.cons.injEq]
theorem same_iff (x : Pt) : ∀ y, same x y = true ↔ x = y := by
 induction x using ind with
 | h k t n xs ys ih1 ih2 =>
  intro y
  cases y with
  | mk k' t' n' xs' ys' => simp [same, sames_iff ih1, sames_iff ih2]
theorem same_self (x : Pt) : same x x = true := (same_iff x x).2 rfl
theorem sames_self (xs : List Pt) : sames xs xs = true := (sames_iff (fun x _ => same_iff x) xs).2 rfl
mutual
def size : Pt -> Nat
 | mk _ t n xs ys => t.length + n.length + (xs.length + sizes xs) + (ys.length + sizes ys)
def sizes : List Pt -> Nat
 | [] => 0
 | x :: t => size x + sizes t
end
theorem sizes_drop : ∀ (xs : List Pt) (k : Nat) (h : k < xs.length), sizes (xs.drop k) = size xs[k] + sizes (xs.drop (k + 1))
 | x :: t, 0, _ => by simp [sizes]
 | x :: t, k + 1, h => by simpa using sizes_drop t k (by simpa using h)
theorem sizes_drop_le : ∀ (xs : List Pt) (k : Nat), sizes (xs.drop k) <= sizes xs
 | [], k => by simp
 | x :: t, 0 => by simp
 | x :: t, k + 1 => by have := sizes_drop_le t k; simp [sizes]; omega
theorem size_mem : ∀ {xs : List Pt} {x : Pt}, x ∈ xs -> size x <= sizes xs
 | y :: t, x, h => by
  rcases List.mem_cons.1 h with h | h
  ·subst h; simp only [sizes]; omega
  have := size_mem h; simp only [sizes]; omega
mutual
def many : Pt -> Nat
 | mk _ _ _ xs ys => 1 + manys xs + manys ys
def manys : List Pt -> Nat
 | [] => 0
 | x :: t => many x + manys t
end
theorem manys_take : ∀ (xs : List Pt) (k : Nat) (h : k < xs.length), manys (xs.take (k + 1)) = manys (xs.take k) + many xs[k]
 | x :: t, 0, _ => by simp [manys]
 | x :: t, k + 1, h => by have := manys_take t k (by simpa using h); simp only [List.take_succ_cons, manys, List.getElem_cons_succ, this]; omega
theorem manys_take_le : ∀ (xs : List Pt) (k : Nat), manys (xs.take k) <= manys xs
 | [], k => by simp
 | x :: t, 0 => by simp [manys]
 | x :: t, k + 1 => by have := manys_take_le t k; simp [manys]; omega
theorem many_mem : ∀ {xs : List Pt} {x : Pt}, x ∈ xs -> many x <= manys xs
 | y :: t, x, h => by
  rcases List.mem_cons.1 h with h | h
  ·subst h; simp only [manys]; omega
  have := many_mem h; simp only [manys]; omega
theorem manys_len : ∀ (xs : List Pt), xs.length <= manys xs
 | [] => by simp
 | x :: t => by
  have := manys_len t
  cases x with
  | mk k t n xs ys => simp only [manys, many, List.length_cons]; omega
theorem manys_size {xs : List Pt} (h : ∀ x ∈ xs, many x <= 1 + size x) : manys xs <= xs.length + sizes xs := by
 induction xs with
 | nil => simp [manys]
 | cons x t ih =>
  have h1 := h x (by simp)
  have h2 := ih (fun y hy => h y (List.mem_cons_of_mem _ hy))
  simp only [manys, sizes, List.length_cons]
  omega
theorem many_size (x : Pt) : many x <= 1 + size x := by
 induction x using ind with
 | h k t n xs ys ih1 ih2 =>
  have h1 := manys_size ih1
  have h2 := manys_size ih2
  simp only [many, size]
  omega
mutual
def Fit : Pt -> Prop
 | mk _ t n xs ys => t.length <= maxLen /\ n.length <= maxLen /\ xs.length <= maxLen /\ ys.length <= maxLen /\ Fits xs /\ Fits ys
def Fits : List Pt -> Prop
 | [] => True
 | x :: t => Fit x /\ Fits t
end
theorem fits_mem : ∀ {xs : List Pt} {x : Pt}, Fits xs -> x ∈ xs -> Fit x
 | y :: t, x, h, hx => by
  simp only [Fits] at h
  rcases List.mem_cons.1 hx with e | hx
  ·subst e; exact h.1
  exact fits_mem h.2 hx
theorem fits_all : ∀ {xs : List Pt}, (∀ x ∈ xs, Fit x) -> Fits xs
 | [], _ => trivial
 | x :: t, h => ⟨h x (by simp), fits_all fun y hy => h y (List.mem_cons_of_mem _ hy)⟩
theorem fit_size (x : Pt) : size x <= 1048576 -> Fit x := by
 induction x using ind with
 | h k t n xs ys ih1 ih2 =>
  intro h
  simp only [size] at h
  unfold Fit maxLen
  exact ⟨by omega, by omega, by omega, by omega, fits_all fun y hy => ih1 y hy (by have := size_mem hy; omega), fits_all fun y hy => ih2 y hy (by have := size_mem hy; omega)⟩
end Pt
abbrev ptV (k : Int) (t n : Tx) (Ap : Option Addr) (lp cp : Nat) (Ao : Option Addr) (lo co : Nat) : Value := .agg #[.int .i64 k, sv t, sv n, .slice Ap lp cp, .slice Ao lo co]
abbrev qD (k : Int) (t n : Tx) (Ap : Option Addr) (lp cp : Nat) (Ao : Option Addr) (lo co : Nat) : Array Value := #[.int .i64 k, sv t, sv n, .slice Ap lp cp, .slice Ao lo co]
def At5 (w : World) (b o : Nat) (v : Value) : Prop :=
 ∃ c0 c1 c2 c3 c4, v = .agg #[c0, c1, c2, c3, c4] /\ w.cell? ⟨b, o, none⟩ = some c0 /\ w.cell? ⟨b, o + 1, none⟩ = some c1 /\ w.cell? ⟨b, o + 2, none⟩ = some c2 /\ w.cell? ⟨b, o + 3, none⟩ = some c3 /\ w.cell? ⟨b, o + 4, none⟩ = some c4
def RdIn (w : World) (S : Nat -> Prop) (A : Option Addr) (xs : List Value) : Prop :=
 xs ≠ [] -> ∃ b o, A = some ⟨b, o, none⟩ /\ S b /\ ∀ j u, xs[j]? = some u -> w.cell? ⟨b, o + j, none⟩ = some u
mutual
def InP (w : World) (S : Nat -> Prop) : Pt -> Value -> Prop
 | .mk k t n xs ys, v => ∃ Ap cp Ao co, v = ptV k t n Ap xs.length cp Ao ys.length co /\ xs.length <= cp /\ ys.length <= co /\ (xs ≠ [] -> ∃ b o, Ap = some ⟨b, o, none⟩ /\ S b /\ InPs w S b o xs) /\ (ys ≠ [] -> ∃ b o, Ao = some ⟨b, o, none⟩ /\ S b /\ InPs w S b o ys)
def InPs (w : World) (S : Nat -> Prop) (b : Nat) : Nat -> List Pt -> Prop
 | _, [] => True
 | o, x :: t => (∃ v, At5 w b o v /\ InP w S x v) /\ InPs w S b (o + 5) t
end
def RdP (w : World) (S : Nat -> Prop) (A : Option Addr) (xs : List Pt) : Prop := xs ≠ [] -> ∃ b o, A = some ⟨b, o, none⟩ /\ S b /\ InPs w S b o xs
abbrev All (w : World) : Nat -> Prop := fun b => b < w.heap.size
section
variable {w w' : World} {S S' : Nat -> Prop}
theorem RdIn.keep {A : Option Addr} {xs : List Value} (h : RdIn w S A xs) (hk : ∀ p : Addr, S p.block -> w'.cell? p = w.cell? p) (hS : ∀ b, S b -> S' b) : RdIn w' S' A xs := fun hne => by
 obtain ⟨b, o, e, hb, hc⟩ := h hne
 exact ⟨b, o, e, hS b hb, fun j u hu => (hk ⟨b, o + j, none⟩ hb).trans (hc j u hu)⟩
theorem RdIn.rd {A : Option Addr} {xs : List Value} {B : Nat} (h : RdIn w S A xs) (hB : ∀ b, S b -> b < B) : Rd w B A xs := fun hne => by
 obtain ⟨b, o, e, hb, hc⟩ := h hne
 exact ⟨b, o, e, hB b hb, hc⟩
theorem RdIn.of {A : Option Addr} {xs : List Value} {B : Nat} (h : Rd w B A xs) (hB : ∀ b, b < B -> S b) : RdIn w S A xs := fun hne => by
 obtain ⟨b, o, e, hb, hc⟩ := h hne
 exact ⟨b, o, e, hB b hb, hc⟩
theorem InPs.get {b : Nat} : ∀ {o : Nat} {xs : List Pt}, InPs w S b o xs -> ∀ i (h : i < xs.length), ∃ v, At5 w b (o + i * 5) v /\ InP w S xs[i] v
 | o, x :: t, h, 0, _ => by simp only [InPs] at h; simpa using h.1
 | o, x :: t, h, i + 1, hi => by
  simp only [InPs] at h
  obtain ⟨v, h1, h2⟩ := InPs.get h.2 i (by simpa using hi)
  exact ⟨v, by rw [show o + (i + 1) * 5 = o + 5 + i * 5 by omega]; exact h1, by simpa using h2⟩
theorem InPs.of_get {b : Nat} : ∀ {o : Nat} {xs : List Pt}, (∀ i (h : i < xs.length), ∃ v, At5 w b (o + i * 5) v /\ InP w S xs[i] v) -> InPs w S b o xs
 | _, [], _ => by simp only [InPs]
 | o, x :: t, h => by
  simp only [InPs]
  refine ⟨by have h0 := h 0 (by simp); rw [Nat.zero_mul, Nat.add_zero] at h0; exact h0, InPs.of_get fun i hi => ?_⟩
  obtain ⟨v, h1, h2⟩ := h (i + 1) (by simpa using hi)
  exact ⟨v, by rw [show o + 5 + i * 5 = o + (i + 1) * 5 by omega]; exact h1, h2⟩
theorem At5.keep {b o : Nat} {v : Value} (h : At5 w b o v) (hk : ∀ p : Addr, p.block = b -> w'.cell? p = w.cell? p) : At5 w' b o v := by
 obtain ⟨c0, c1, c2, c3, c4, e, h0, h1, h2, h3, h4⟩ := h
 exact ⟨c0, c1, c2, c3, c4, e, (hk ⟨b, o, none⟩ rfl).trans h0, (hk ⟨b, o + 1, none⟩ rfl).trans h1, (hk ⟨b, o + 2, none⟩ rfl).trans h2, (hk ⟨b, o + 3, none⟩ rfl).trans h3, (hk ⟨b, o + 4, none⟩ rfl).trans h4⟩
theorem InP.keep (hk : ∀ p : Addr, S p.block -> w'.cell? p = w.cell? p) (hS : ∀ b, S b -> S' b) (x : Pt) : ∀ v, InP w S x v -> InP w' S' x v := by
 induction x using Pt.ind with
 | h k t n xs ys ih1 ih2 =>
  intro v h
  simp only [InP] at h ⊢
  obtain ⟨Ap, cp, Ao, co, e, h1, h2, h3, h4⟩ := h
  refine ⟨Ap, cp, Ao, co, e, h1, h2, fun hne => ?_, fun hne => ?_⟩
  ·obtain ⟨b, o, e2, hb, hin⟩ := h3 hne
   refine ⟨b, o, e2, hS b hb, InPs.of_get fun i hi => ?_⟩
   obtain ⟨u, h4, h5⟩ := hin.get i hi
   exact ⟨u, h4.keep fun p hp => hk p (by rw [hp]; exact hb), ih1 _ (List.getElem_mem hi) u h5⟩
  obtain ⟨b, o, e2, hb, hin⟩ := h4 hne
  refine ⟨b, o, e2, hS b hb, InPs.of_get fun i hi => ?_⟩
  obtain ⟨u, h4, h5⟩ := hin.get i hi
  exact ⟨u, h4.keep fun p hp => hk p (by rw [hp]; exact hb), ih2 _ (List.getElem_mem hi) u h5⟩
theorem InP.now {x : Pt} {v : Value} (h : InP w (All w) x v) (hb : Below w.heap.size w w') : InP w' (All w') x v := InP.keep (fun _ hp => hb.cell hp) (fun _ h => Nat.lt_of_lt_of_le h hb.size) x v h
theorem InP.parts {k : Int} {t n : Tx} {xs ys : List Pt} {v : Value} (h : InP w S (.mk k t n xs ys) v) : ∃ Ap cp Ao co, v = ptV k t n Ap xs.length cp Ao ys.length co /\ xs.length <= cp /\ ys.length <= co /\ RdP w S Ap xs /\ RdP w S Ao ys := by
 simp only [InP] at h
 exact h
theorem InP.mk {k : Int} {t n : Tx} {xs ys : List Pt} {Ap Ao : Option Addr} {cp co : Nat} (h1 : xs.length <= cp) (h2 : ys.length <= co) (h3 : RdP w S Ap xs) (h4 : RdP w S Ao ys) : InP w S (.mk k t n xs ys) (ptV k t n Ap xs.length cp Ao ys.length co) := by
 simp only [InP]
 exact ⟨Ap, cp, Ao, co, rfl, h1, h2, h3, h4⟩
theorem RdP.nil_ {A : Option Addr} : RdP w S A [] := fun h => absurd rfl h
theorem RdP.keep {A : Option Addr} {xs : List Pt} (h : RdP w S A xs) (hk : ∀ p : Addr, S p.block -> w'.cell? p = w.cell? p) (hS : ∀ b, S b -> S' b) : RdP w' S' A xs := fun hne => by
 obtain ⟨b, o, e, hb, hin⟩ := h hne
 refine ⟨b, o, e, hS b hb, InPs.of_get fun i hi => ?_⟩
 obtain ⟨u, h4, h5⟩ := hin.get i hi
 exact ⟨u, h4.keep fun p hp => hk p (by rw [hp]; exact hb), InP.keep hk hS _ u h5⟩
theorem RdP.now {A : Option Addr} {xs : List Pt} (h : RdP w (All w) A xs) (hb : Below w.heap.size w w') : RdP w' (All w') A xs := h.keep (fun _ hp => hb.cell hp) (fun _ h => Nat.lt_of_lt_of_le h hb.size)
theorem RdP.at {A : Option Addr} {xs : List Pt} (h : RdP w S A xs) {k : Nat} (hk : k < xs.length) : ∃ b o, A = some ⟨b, o, none⟩ /\ S b /\ ∃ kd t n Ap lp cp Ao lo co, InP w S xs[k] (ptV kd t n Ap lp cp Ao lo co) ∧
  w.cell? ⟨b, o + k * 5, none⟩ = some (.int .i64 kd) /\ w.cell? ⟨b, o + k * 5 + 1, none⟩ = some (sv t) /\ w.cell? ⟨b, o + k * 5 + 2, none⟩ = some (sv n) /\ w.cell? ⟨b, o + k * 5 + 3, none⟩ = some (.slice Ap lp cp) /\ w.cell? ⟨b, o + k * 5 + 4, none⟩ = some (.slice Ao lo co) := by
 obtain ⟨b, o, e, hb, hin⟩ := h (by intro e; rw [e] at hk; simp at hk)
 obtain ⟨v, ⟨c0, c1, c2, c3, c4, e5, h0, h1, h2, h3, h4⟩, hv⟩ := hin.get k hk
 refine ⟨b, o, e, hb, ?_⟩
 generalize xs[k] = x at *
 cases x with
 | mk kd t n us vs =>
  have hv' := hv
  obtain ⟨Ap, cp, Ao, co, e6, _⟩ := hv'.parts
  subst e6
  injection e5 with e5
  simp only [Array.mk.injEq, List.cons.injEq, and_true] at e5
  obtain ⟨rfl, rfl, rfl, rfl, rfl⟩ := e5
  exact ⟨kd, t, n, Ap, us.length, cp, Ao, vs.length, co, hv, h0, h1, h2, h3, h4⟩
end
structure Fd where
 name : Tx
 text : Tx
 holds : Bool
 items : List Tx
deriving DecidableEq
namespace Fd
def size (f : Fd) : Nat := f.name.length + f.text.length + (f.items.length + qR f.items)
def sizes (xs : List Fd) : Nat := (xs.map size).sum
theorem sizes_drop : ∀ (xs : List Fd) (k : Nat) (h : k < xs.length), sizes (xs.drop k) = size xs[k] + sizes (xs.drop (k + 1))
 | x :: t, 0, _ => by simp [sizes]
 | x :: t, k + 1, h => by simpa using sizes_drop t k (by simpa using h)
theorem sizes_drop_le : ∀ (xs : List Fd) (k : Nat), sizes (xs.drop k) <= sizes xs
 | [], k => by simp
 | x :: t, 0 => by simp
 | x :: t, k + 1 => by have := sizes_drop_le t k; simp [sizes] at *; omega
theorem size_mem : ∀ {xs : List Fd} {x : Fd}, x ∈ xs -> size x <= sizes xs
 | y :: t, x, h => by
  rcases List.mem_cons.1 h with h | h
  ·subst h; simp [sizes]
  have := size_mem h; simp [sizes] at *; omega
def Fit (f : Fd) : Prop := f.name.length <= maxLen /\ f.text.length <= maxLen /\ FitS f.items /\ f.items.length <= maxLen
def same (f g : Fd) : Bool := f.name == g.name && (f.text == g.text && (f.holds == g.holds && f.items == g.items))
theorem same_self (f : Fd) : same f f = true := by simp [same]
def sames : List Fd -> List Fd -> Bool
 | [], [] => true
 | x :: t, y :: s => same x y && sames t s
 | _, _ => false
theorem sames_self : ∀ xs, sames xs xs = true
 | [] => rfl
 | x :: t => by rw [sames, same_self, sames_self t]; rfl
theorem fit_size {x : Fd} (h : size x <= 1048576) : Fit x := by
 unfold size at h
 unfold Fit maxLen
 refine ⟨by omega, by omega, fun y hy => ?_, by omega⟩
 have : y.length <= qR x.items := by
  clear h
  generalize x.items = ns at *
  induction ns with
  | nil => cases hy
  | cons z s ih2 =>
   rcases List.mem_cons.1 hy with e | hy
   ·subst e; simp only [qR]; omega
   have := ih2 hy; simp only [qR]; omega
 unfold maxLen
 omega
end Fd
abbrev fdV (n t : Tx) (h : Bool) (A : Option Addr) (l c : Nat) : Value := .agg #[sv n, sv t, .bool h, .slice A l c]
abbrev qC (n t : Tx) (h : Bool) (A : Option Addr) (l c : Nat) : Array Value := #[sv n, sv t, .bool h, .slice A l c]
def At4 (w : World) (b o : Nat) (v : Value) : Prop :=
 ∃ c0 c1 c2 c3, v = .agg #[c0, c1, c2, c3] /\ w.cell? ⟨b, o, none⟩ = some c0 /\ w.cell? ⟨b, o + 1, none⟩ = some c1 /\ w.cell? ⟨b, o + 2, none⟩ = some c2 /\ w.cell? ⟨b, o + 3, none⟩ = some c3
def InF (w : World) (S : Nat -> Prop) (f : Fd) (v : Value) : Prop := ∃ A c, v = fdV f.name f.text f.holds A f.items.length c /\ RdIn w S A (qS f.items) /\ f.items.length <= c
def RdF (w : World) (S : Nat -> Prop) (A : Option Addr) (xs : List Fd) : Prop := xs ≠ [] -> ∃ b o, A = some ⟨b, o, none⟩ /\ S b /\ ∀ i (h : i < xs.length), ∃ v, At4 w b (o + i * 4) v /\ InF w S xs[i] v
section
variable {w w' : World} {S S' : Nat -> Prop}
theorem At4.keep {b o : Nat} {v : Value} (h : At4 w b o v) (hk : ∀ p : Addr, p.block = b -> w'.cell? p = w.cell? p) : At4 w' b o v := by
 obtain ⟨c0, c1, c2, c3, e, h0, h1, h2, h3⟩ := h
 exact ⟨c0, c1, c2, c3, e, (hk ⟨b, o, none⟩ rfl).trans h0, (hk ⟨b, o + 1, none⟩ rfl).trans h1, (hk ⟨b, o + 2, none⟩ rfl).trans h2, (hk ⟨b, o + 3, none⟩ rfl).trans h3⟩
theorem InF.keep (hk : ∀ p : Addr, S p.block -> w'.cell? p = w.cell? p) (hS : ∀ b, S b -> S' b) (x : Fd) (v : Value) (h : InF w S x v) : InF w' S' x v := by
 obtain ⟨A, c, e, hr, hc⟩ := h
 exact ⟨A, c, e, hr.keep hk hS, hc⟩
theorem InF.now {x : Fd} {v : Value} (h : InF w (All w) x v) (hb : Below w.heap.size w w') : InF w' (All w') x v := InF.keep (fun _ hp => hb.cell hp) (fun _ h => Nat.lt_of_lt_of_le h hb.size) x v h
theorem RdF.keep {A : Option Addr} {xs : List Fd} (h : RdF w S A xs) (hk : ∀ p : Addr, S p.block -> w'.cell? p = w.cell? p) (hS : ∀ b, S b -> S' b) : RdF w' S' A xs := fun hne => by
 obtain ⟨b, o, e, hb, hin⟩ := h hne
 refine ⟨b, o, e, hS b hb, fun i hi => ?_⟩
 obtain ⟨u, h4, h5⟩ := hin i hi
 exact ⟨u, h4.keep fun p hp => hk p (by rw [hp]; exact hb), h5.keep hk hS _ u⟩
theorem RdF.now {A : Option Addr} {xs : List Fd} (h : RdF w (All w) A xs) (hb : Below w.heap.size w w') : RdF w' (All w') A xs := h.keep (fun _ hp => hb.cell hp) (fun _ h => Nat.lt_of_lt_of_le h hb.size)
theorem RdF.at {A : Option Addr} {xs : List Fd} (h : RdF w S A xs) {k : Nat} (hk : k < xs.length) : ∃ b o, A = some ⟨b, o, none⟩ /\ S b /\ ∃ n t hh Ai li ci, InF w S xs[k] (fdV n t hh Ai li ci) ∧
  w.cell? ⟨b, o + k * 4, none⟩ = some (sv n) /\ w.cell? ⟨b, o + k * 4 + 1, none⟩ = some (sv t) /\ w.cell? ⟨b, o + k * 4 + 2, none⟩ = some (.bool hh) /\ w.cell? ⟨b, o + k * 4 + 3, none⟩ = some (.slice Ai li ci) := by
 obtain ⟨b, o, e, hb, hin⟩ := h (by intro e; rw [e] at hk; simp at hk)
 obtain ⟨v, ⟨c0, c1, c2, c3, e5, h0, h1, h2, h3⟩, hv⟩ := hin k hk
 refine ⟨b, o, e, hb, ?_⟩
 have hv' := hv
 obtain ⟨Ai, ci, e6, _⟩ := hv'
 subst e6
 injection e5 with e5
 simp only [Array.mk.injEq, List.cons.injEq, and_true] at e5
 obtain ⟨rfl, rfl, rfl, rfl⟩ := e5
 exact ⟨_, _, _, Ai, _, ci, hv, h0, h1, h2, h3⟩
end
theorem qI {w : World} {b : Nat} {c0 c1 c2 c3 c4 : Value} {t : TypeId} (h : w.heap[b]? = some (.cells #[c0, c1, c2, c3, c4] t (0, 0))) :
  (w.cell? ⟨b, 0, none⟩ = some c0 /\ w.cell? ⟨b, 1, none⟩ = some c1 /\ w.cell? ⟨b, 2, none⟩ = some c2 /\ w.cell? ⟨b, 3, none⟩ = some c3 /\ w.cell? ⟨b, 4, none⟩ = some c4) /\ (w.frozen? ⟨b, 0, none⟩ = false /\ w.frozen? ⟨b, 1, none⟩ = false /\ w.frozen? ⟨b, 2, none⟩ = false /\ w.frozen? ⟨b, 3, none⟩ = false /\ w.frozen? ⟨b, 4, none⟩ = false) := by
 simp [World.cell?, World.frozen?, h]
theorem qi {w w' : World} {b : Nat} {o : Obj} (h : w.heap[b]? = some o) (hb : Below w.heap.size w w') : w'.heap[b]? = some o := by
 refine (hb.block b ?_).trans h
 rcases Nat.lt_or_ge b w.heap.size with h1 | h1
 ·exact h1
 rw [Array.getElem?_eq_none h1] at h; cases h
theorem qE (w : World) (cs ds : Array Value) (t u : TypeId) : Below w.heap.size w ((w.alloc (.cells cs t)).alloc (.cells ds u)) /\ ((w.alloc (.cells cs t)).alloc (.cells ds u)).heap[w.heap.size]? = some (.cells cs t (0, 0)) /\ ((w.alloc (.cells cs t)).alloc (.cells ds u)).heap[w.heap.size + 1]? = some (.cells ds u (0, 0)) := by
 have h := heap_alloc_new (w.alloc (.cells cs t)) (.cells ds u)
 rw [show (w.alloc (.cells cs t)).heap.size = w.heap.size + 1 by simp] at h
 exact ⟨Below.alloc (Below.alloc (Below.refl _ _) (Nat.le_refl _) _) (by simp) _, (heap_alloc_old (w.alloc (.cells cs t)) _ (by simp)).trans (heap_alloc_new w _), h⟩
theorem qh {w : World} {b : Nat} {c0 c1 c2 c3 : Value} {t : TypeId} (h : w.heap[b]? = some (.cells #[c0, c1, c2, c3] t (0, 0))) :
  (w.cell? ⟨b, 0, none⟩ = some c0 /\ w.cell? ⟨b, 1, none⟩ = some c1 /\ w.cell? ⟨b, 2, none⟩ = some c2 /\ w.cell? ⟨b, 3, none⟩ = some c3) /\ (w.frozen? ⟨b, 0, none⟩ = false /\ w.frozen? ⟨b, 1, none⟩ = false /\ w.frozen? ⟨b, 2, none⟩ = false /\ w.frozen? ⟨b, 3, none⟩ = false) := by
 simp [World.cell?, World.frozen?, h]
theorem zX {w : World} {b : Nat} {c0 c1 : Value} {t : TypeId} (h : w.heap[b]? = some (.cells #[c0, c1] t (0, 0))) :
  (w.cell? ⟨b, 0, none⟩ = some c0 /\ w.cell? ⟨b, 1, none⟩ = some c1) /\ (w.frozen? ⟨b, 0, none⟩ = false /\ w.frozen? ⟨b, 1, none⟩ = false) := by
 simp [World.cell?, World.frozen?, h]
theorem yp : ∀ {xs ys : List Pt}, xs.length ≠ ys.length -> Pt.sames xs ys = false
 | [], [], h => absurd rfl h
 | [], _ :: _, _ => by simp [Pt.sames]
 | _ :: _, [], _ => by simp [Pt.sames]
 | x :: t, y :: s, h => by rw [Pt.sames, yp (by simpa using h), Bool.and_false]
theorem Ju {xs ys : List Pt} {k : Nat} {r : Bool} (h : Pt.sames (xs.drop k) (ys.drop k) = r) (hx : k < xs.length) (hy : k < ys.length) : (Pt.same xs[k] ys[k] && Pt.sames (xs.drop (k + 1)) (ys.drop (k + 1))) = r := by
 rw [qX xs k hx, qX ys k hy, Pt.sames] at h
 exact h
theorem Jv {xs ys : List Pt} {k : Nat} {r : Bool} (h : Pt.sames (xs.drop k) (ys.drop k) = r) (hx : ¬ k < xs.length) (hl : xs.length = ys.length) : true = r := by
 rw [zc xs k (by omega), zc ys k (by omega), Pt.sames] at h
 exact h
theorem yq : ∀ {xs ys : List Fd}, xs.length ≠ ys.length -> Fd.sames xs ys = false
 | [], [], h => absurd rfl h
 | [], _ :: _, _ => by simp [Fd.sames]
 | _ :: _, [], _ => by simp [Fd.sames]
 | x :: t, y :: s, h => by rw [Fd.sames, yq (by simpa using h), Bool.and_false]
theorem Jw {xs ys : List Fd} {k : Nat} {r : Bool} (h : Fd.sames (xs.drop k) (ys.drop k) = r) (hx : k < xs.length) (hy : k < ys.length) : (Fd.same xs[k] ys[k] && Fd.sames (xs.drop (k + 1)) (ys.drop (k + 1))) = r := by
 rw [qX xs k hx, qX ys k hy, Fd.sames] at h
 exact h
theorem Jx {xs ys : List Fd} {k : Nat} {r : Bool} (h : Fd.sames (xs.drop k) (ys.drop k) = r) (hx : ¬ k < xs.length) (hl : xs.length = ys.length) : true = r := by
 rw [zc xs k (by omega), zc ys k (by omega), Fd.sames] at h
 exact h
def Yc (l : Int) (n : Nat) : Int := if (n : Int) <= l then l - n else -1
theorem zL {l : Int} {n : Nat} (h : (n : Int) <= l) : Yc l n = l - n := if_pos h
theorem zl {l : Int} {n : Nat} (h : ¬ (n : Int) <= l) : Yc l n = -1 := if_neg h
end Go.Proofs.YtmboieajfdkllaaGreat
