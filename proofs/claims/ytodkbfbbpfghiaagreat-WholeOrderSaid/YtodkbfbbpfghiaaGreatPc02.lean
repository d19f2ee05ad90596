/-
  Lemmas and walks for the laws on roads and boards: what each function of the program answers, for every input.
-/
import Derived.Test.YtodkbfbbpfghiaaGreatPc01
import Derived.WalkKit
import Derived.WalkSpells
import Derived.WalkLawsBesides
import Derived.Deep.QuietTactic
import Derived.BigQuiet
import Derived.Lib.Hide
import Derived.RegionTactic
import Derived.StillTailTactics
import Derived.Laws.AppendOwnNone
import Derived.Maps.AppendAt
import Derived.Deep.RegionHeld3
import Derived.Deep.DrawnRows
import Derived.Deep.DeepCutAuto
import Derived.Lib.SlKeysI
set_option linter.unusedSimpArgs false
set_option linter.unusedVariables false
set_option linter.unnecessarySimpa false
namespace Go.Proofs.YtodkbfbbpfghiaaGreat
open Go.RowKit
theorem bcell {W w1 : World} {B : Nat} (hb : Below B W w1) : (∀ b o, b < B → w1.cell? ⟨b, o, none⟩ = W.cell? ⟨b, o, none⟩) ∧ (∀ b o, b < B → w1.frozen? ⟨b, o, none⟩ = W.frozen? ⟨b, o, none⟩) :=
  ⟨fun b o h => hb.cell (p := ⟨b, o, none⟩) h, fun b o h => hb.frozen (p := ⟨b, o, none⟩) h⟩
theorem _root_.Go.RowKit.Below.up {B : Nat} {a b c : World} (h : Below B a b) (h2 : Below b.heap.size b c) (hB : B ≤ b.heap.size) : Below B a c := h.trans (h2.mono hB)
theorem belowN {B n : Nat} {a b : World} (h : Below B a b) : Below B a (b.drewN n) := ⟨h.os, h.tape, h.output, h.size, fun k hk => h.block k hk⟩
theorem lt_size {W w1 : World} (hb : Below W.heap.size W w1) {b : Nat} (h : b < W.heap.size) : b < w1.heap.size := Nat.lt_of_lt_of_le h hb.size
theorem ret_int {k : IntKind} {a b : Int} (h : a = b) : Ending.returned (.int k a) = Ending.returned (.int k b) := by rw [h]
theorem ret_bool {a b : Bool} (h : a = b) : Ending.returned (.bool a) = Ending.returned (.bool b) := by rw [h]

/-- A bound, a system, as data. -/
structure Bd where
  frm : Int
  tow : Int
  most : Int
  bid : Int
instance : Inhabited Bd := ⟨⟨0, 0, 0, 0⟩⟩
def Bd.v (b : Bd) : Value := .agg #[.int .i64 b.frm, .int .i64 b.tow, .int .i64 b.most, .int .i64 b.bid]
def Bd.cs (b : Bd) : List Value := [.int .i64 b.frm, .int .i64 b.tow, .int .i64 b.most, .int .i64 b.bid]

/-- A slice of bounds, as it lies in a world. -/
structure BdsAt (w : World) (a : Option Addr) (n cap : Nat) (bs : List Bd) : Prop where
  len : n = bs.length
  small : bs.length ≤ 140737488351232
  nil : a = none → bs = [] ∧ cap = 0
  at_ : ∀ x, a = some x → x.spot = none ∧ x.block < w.heap.size ∧ ∀ i, i < bs.length →
     w.cell? ⟨x.block, x.off + i * 4, none⟩ = some (.int .i64 (bs.getD i default).frm) ∧
     w.cell? ⟨x.block, x.off + i * 4 + 1, none⟩ = some (.int .i64 (bs.getD i default).tow) ∧
     w.cell? ⟨x.block, x.off + i * 4 + 2, none⟩ = some (.int .i64 (bs.getD i default).most) ∧
     w.cell? ⟨x.block, x.off + i * 4 + 3, none⟩ = some (.int .i64 (bs.getD i default).bid)
theorem BdsAt.below {w w' : World} {a : Option Addr} {n cap : Nat} {bs : List Bd} (h : BdsAt w a n cap bs) (hb : Below w.heap.size w w') : BdsAt w' a n cap bs := by
  refine ⟨h.len, h.small, h.nil, fun x hx => ?_⟩
  obtain ⟨h1, h2, h3⟩ := h.at_ x hx
  refine ⟨h1, by have := hb.size; omega, fun i hi => ?_⟩
  have hc := (bcell hb).1
  rw [hc _ _ h2, hc _ _ h2, hc _ _ h2, hc _ _ h2]
  exact h3 i hi
theorem BdsAt.get {w : World} {a : Option Addr} {n cap : Nat} {bs : List Bd} (h : BdsAt w a n cap bs) {i : Nat} (hi : i < bs.length) : ∃ b off, a = some ⟨b, off, none⟩ ∧ b < w.heap.size ∧
     w.cell? ⟨b, off + i * 4, none⟩ = some (.int .i64 (bs.getD i default).frm) ∧
     w.cell? ⟨b, off + i * 4 + 1, none⟩ = some (.int .i64 (bs.getD i default).tow) ∧
     w.cell? ⟨b, off + i * 4 + 2, none⟩ = some (.int .i64 (bs.getD i default).most) ∧
     w.cell? ⟨b, off + i * 4 + 3, none⟩ = some (.int .i64 (bs.getD i default).bid) := by
  match a, h with
  | none, h => have := (h.nil rfl).1; subst this; simp at hi
  | some ⟨b, off, sp⟩, h =>
    obtain ⟨h1, h2, h3⟩ := h.at_ _ rfl
    simp at h1
    subst h1
    exact ⟨b, off, rfl, h2, h3 i hi⟩
theorem BdsAt.nilAt (w : World) : BdsAt w none 0 0 [] := ⟨rfl, by simp, fun _ => ⟨rfl, rfl⟩, fun x h => by cases h⟩

/-- A row of cells, as it lies in a world. -/
structure RowAt (w : World) (a : Option Addr) (cap : Nat) (vs : List Value) : Prop where
  nil : a = none → vs = [] ∧ cap = 0
  at_ : ∀ x, a = some x → x.spot = none ∧ x.block < w.heap.size ∧ ∀ i u, vs[i]? = some u → w.cell? ⟨x.block, x.off + i, none⟩ = some u
theorem RowAt.below {w w' : World} {a : Option Addr} {cap : Nat} {vs : List Value} (h : RowAt w a cap vs) (hb : Below w.heap.size w w') : RowAt w' a cap vs := by
  refine ⟨h.nil, fun x hx => ?_⟩
  obtain ⟨h1, h2, h3⟩ := h.at_ x hx
  exact ⟨h1, Nat.lt_of_lt_of_le h2 hb.size, fun i u hi => by rw [(bcell hb).1 _ _ h2]; exact h3 i u hi⟩
theorem RowAt.nilAt (w : World) : RowAt w none 0 [] := ⟨fun _ => ⟨rfl, rfl⟩, fun x h => by cases h⟩
theorem add_none (b off j : Nat) : (⟨b, off, none⟩ : Addr).add j = ⟨b, off + j, none⟩ := by unfold Addr.add; split <;> simp_all

/-- A slice of ints, as it lies in a world. -/
structure IntsAt (w : World) (a : Option Addr) (n cap : Nat) (xs : List Int) : Prop where
  len : n = xs.length
  small : xs.length ≤ 140737488351232
  row : RowAt w a cap (xs.map (Value.int .i64))
theorem IntsAt.below {w w' : World} {a : Option Addr} {n cap : Nat} {xs : List Int} (h : IntsAt w a n cap xs) (hb : Below w.heap.size w w') : IntsAt w' a n cap xs := ⟨h.len, h.small, h.row.below hb⟩
theorem IntsAt.nilAt (w : World) : IntsAt w none 0 0 [] := ⟨rfl, by simp, RowAt.nilAt w⟩
theorem IntsAt.get {w : World} {a : Option Addr} {n cap : Nat} {xs : List Int} (h : IntsAt w a n cap xs) {i : Nat} (hi : i < xs.length) : ∃ b off, a = some ⟨b, off, none⟩ ∧ b < w.heap.size ∧
     w.cell? ⟨b, off + i, none⟩ = some (.int .i64 (xs.getD i 0)) := by
  match a, h with
  | none, h => have := (h.row.nil rfl).1; simp at this; subst this; simp at hi
  | some ⟨b, off, sp⟩, h =>
    obtain ⟨h1, h2, h3⟩ := h.row.at_ _ rfl
    simp at h1
    subst h1
    refine ⟨b, off, rfl, h2, ?_⟩
    exact h3 i _ (by simp [List.getD_eq_getElem?_getD, List.getElem?_eq_getElem hi])

/-- What a call owns reads as a row. -/
theorem RowAt.of_owns {w : World} {base : Nat} {e : TypeId} {size : Nat} {a : Option Addr} {n cap : Nat} {vs : List Value} (h : w.ownsRow base e size (.slice a n cap) n vs) : RowAt w a cap vs := by
  obtain ⟨hl, h⟩ := h
  rcases h with ⟨hv, hn⟩ | ⟨g, cap', cur, hv, hb, hg, hn, hm, hs, ht⟩
  · simp at hv
    obtain ⟨rfl, rfl, rfl⟩ := hv
    simp at hl
    exact ⟨fun _ => ⟨hl, rfl⟩, fun x h => by cases h⟩
  · simp at hv
    obtain ⟨rfl, rfl⟩ := hv
    refine ⟨(fun h => by cases h), fun x hx => ?_⟩
    simp at hx
    subst hx
    refine ⟨rfl, (Array.getElem?_eq_some_iff.1 hg).1, fun i u hi => ?_⟩
    simp only [Nat.zero_add]
    rw [← ht] at hi
    rw [cell_of_row w g i cur e (0, 0) hg]
    rw [List.getElem?_take] at hi
    split at hi
    · simpa using hi
    · cases hi
theorem IntsAt.of_owns {w : World} {base : Nat} {e : TypeId} {a : Option Addr} {n cap : Nat} {xs : List Int} (h : w.ownsRow base e 1 (.slice a n cap) n (xs.map (Value.int .i64))) (hs : xs.length ≤ 140737488351232) : IntsAt w a n cap xs := ⟨by have := h.1; simp at this; exact this.symm, hs, RowAt.of_owns h⟩
theorem _root_.Go.World.ownsRow.up {w w' : World} {base base' : Nat} {e : TypeId} {size : Nat} {v : Value} {n : Nat} {xs : List Value} (h : w.ownsRow base e size v n xs) (hb : Below w.heap.size w w') (hB : base' ≤ base) : w'.ownsRow base' e size v n xs := by
  obtain ⟨hl, ⟨hv, hn⟩ | ⟨g, cap', cur, hv, hbg, hg, hr⟩⟩ := h
  · exact ⟨hl, .inl ⟨hv, hn⟩⟩
  · exact ⟨hl, .inr ⟨g, cap', cur, hv, Nat.le_trans hB hbg, by rw [hb.block g (Array.getElem?_eq_some_iff.1 hg).1]; exact hg, hr⟩⟩
theorem RowAt.of_heap {w : World} {N : Nat} {cs : Array Value} {t : TypeId} {fr : Nat × Nat} {cap : Nat} (h : w.heap[N]? = some (.cells cs t fr)) : RowAt w (some ⟨N, 0, none⟩) cap cs.toList := by
  refine ⟨(fun h => by cases h), fun x hx => ?_⟩
  simp at hx
  subst hx
  refine ⟨rfl, (Array.getElem?_eq_some_iff.1 h).1, fun i u hi => ?_⟩
  rw [Nat.zero_add, cell_of_row w N i cs t fr h]
  simpa using hi

/-- What the tables say of an element's type. -/
structure Elem (P : Program) (t e : TypeId) (z : Value) (size bytes : Nat) : Prop where
  und : P.underlying t = some (.slice e)
  info : ∃ i, P.info? e = some i ∧ i.zero = some z ∧ i.size = size ∧ i.bytes = bytes
  zs : z.cells.size = size
  pos : 0 < size

/-- 'append(v, x...)', v the call's own, x whatever row. -/
theorem wp_app {P : Program} {w : World} {o : Oper} {a : Act} {K : Act → World → Prop} {Q : Exit → Act → World → Prop} {t e : TypeId} {z : Value} {size bytes : Nat} (T : Elem P t e z size bytes)
    (s x : Operand) (ho : o.op = .call { callee := .builtin .append, args := #[s, x], argTypes := #[t, t] })
    {base : Nat} {v : Value} {n : Nat} {xs : List Value} (hown : w.ownsRow base e size v n xs) (hs : a.eval s = v)
    {sa : Option Addr} {m c : Nat} {news : List Value} (hx : a.eval x = .slice sa m c) (hsrc : RowAt w sa c news) (hl : news.length = m * size) (h1 : ∀ u ∈ news, u.oneCell' = true)
    (h63 : n + m ≤ maxLen) (hbytes : (n + m) * bytes ≤ 140737488355328) (hbase : base ≤ w.heap.size)
    (h : ∀ v' w', w'.ownsRow base e size v' (n + m) (xs ++ news) → w.grownBy w' v.ownBlock → Below base w w' → (v' = .slice none 0 0 ↔ v = .slice none 0 0 ∧ m = 0) → (v'.ownBlock = v.ownBlock ∨ v'.ownBlock = some w.heap.size) → K (a.put o.dst v') w') : o.wp P a w K Q := by
  obtain ⟨i, hi, hz0, hz1, hz2⟩ := T.info
  have hlt := hown.lt
  have hbel : ∀ w', w.grownBy w' v.ownBlock → Below base w w' := fun w' hg => (Below.refl base w).grown hg hbase (fun k hk => (hlt k hk).1)
  match sa, hsrc, hx with
  | none, hsrc, hx =>
    obtain ⟨hn, hc⟩ := hsrc.nil rfl
    subst hn
    subst hc
    have hm : m = 0 := by
      have hp := T.pos
      rcases Nat.eq_zero_or_pos m with h | h
      · exact h
      · have := Nat.mul_pos h hp; simp at hl; omega
    subst hm
    have hrun := run_append_owned_none (P := P) (w := w) base t o.type e i size T.und hi v n xs hown
    unfold Oper.wp
    simp [execOp, ho, resolve, invoke, builtin, hs, hx, hrun, Result.andThen]
    exact h v w (by simpa using hown) ⟨rfl, rfl, rfl, Nat.le_refl _, fun _ _ _ => rfl⟩ (Below.refl _ _) (by simp) (.inl rfl)
  | some ⟨b, off, sp⟩, hsrc, hx =>
    obtain ⟨h2, h3, h4⟩ := hsrc.at_ _ rfl
    simp at h2
    subst h2
    obtain ⟨v', w', hrun, r1, r2, r3, r4⟩ := run_append_own_at (P := P) (w := w) base t o.type e i z size bytes T.und hi hz0 hz1 hz2 T.zs T.pos v n xs hown ⟨b, off, none⟩ m c news hl (fun j u hj => by rw [add_none]; exact h4 j u hj) h1 h63 hbytes hbase
    unfold Oper.wp
    simp [execOp, ho, resolve, invoke, builtin, hs, hx, hrun, Result.andThen]
    exact h v' w' r1 r2 (hbel w' r2) r3 r4
theorem wpList_app {P : Program} {w : World} {ops : Array Oper} {rest : List Oper} {o : Oper} {a : Act} {Q : Exit → Act → World → Prop} {t e : TypeId} {z : Value} {size bytes : Nat} (T : Elem P t e z size bytes)
    (hgd : o.guard = none) (s x : Operand) (ho : o.op = .call { callee := .builtin .append, args := #[s, x], argTypes := #[t, t] })
    {base : Nat} {v : Value} {n : Nat} {xs : List Value} (hown : w.ownsRow base e size v n xs) (hs : a.eval s = v)
    {sa : Option Addr} {m c : Nat} {news : List Value} (hx : a.eval x = .slice sa m c) (hsrc : RowAt w sa c news) (hl : news.length = m * size) (h1 : ∀ u ∈ news, u.oneCell' = true)
    (h63 : n + m ≤ maxLen) (hbytes : (n + m) * bytes ≤ 140737488355328) (hbase : base ≤ w.heap.size)
    (h : ∀ v' w', w'.ownsRow base e size v' (n + m) (xs ++ news) → w.grownBy w' v.ownBlock → Below base w w' → (v' = .slice none 0 0 ↔ v = .slice none 0 0 ∧ m = 0) → (v'.ownBlock = v.ownBlock ∨ v'.ownBlock = some w.heap.size) → wpList P ops Q rest (a.put o.dst v') w') : wpList P ops Q (o :: rest) a w :=
  wpList_plain hgd fun _ hK => wp_app T s x ho hown hs hx hsrc hl h1 h63 hbytes hbase fun v' w' k1 k2 k3 k4 k5 => hK _ _ (h v' w' k1 k2 k3 k4 k5)
theorem elemI : Elem Tryz.prog 34 3 (.int .i64 0) 1 8 := ⟨Tryz.underlying34, info_parts (by kernel_rfl), rfl, by decide⟩
theorem ones_int (xs : List Int) : ∀ u ∈ xs.map (Value.int .i64), u.oneCell' = true := by intro u hu; obtain ⟨_, _, rfl⟩ := List.mem_map.1 hu; rfl

/-- The cells of bounds. -/
def bcs (bs : List Bd) : List Value := bs.flatMap Bd.cs
theorem bcs_length (bs : List Bd) : (bcs bs).length = bs.length * 4 := by
  induction bs with
  | nil => rfl
  | cons b bs ih => simp [bcs, Bd.cs] at *; omega
theorem bcs_get : ∀ (bs : List Bd) (i : Nat), i < bs.length → (bcs bs)[i * 4]? = some (.int .i64 (bs.getD i default).frm) ∧ (bcs bs)[i * 4 + 1]? = some (.int .i64 (bs.getD i default).tow) ∧
    (bcs bs)[i * 4 + 2]? = some (.int .i64 (bs.getD i default).most) ∧ (bcs bs)[i * 4 + 3]? = some (.int .i64 (bs.getD i default).bid)
  | [], i, h => by simp at h
  | b :: bs, 0, _ => by simp [bcs, Bd.cs]
  | b :: bs, i + 1, h => by
    have ih := bcs_get bs i (by simpa using h)
    have e : ∀ j, j < 4 → (bcs (b :: bs))[(i + 1) * 4 + j]? = (bcs bs)[i * 4 + j]? := by
      intro j _
      show ([_, _, _, _] ++ bcs bs)[(i + 1) * 4 + j]? = _
      rw [List.getElem?_append_right (by simp; omega)]
      congr 1
      simp; omega
    have e0 := e 0 (by omega)
    simp only [Nat.add_zero] at e0
    rw [e0, e 1 (by omega), e 2 (by omega), e 3 (by omega)]
    simpa using ih
theorem bcs_cell (bs : List Bd) (j : Nat) (u : Value) (h : (bcs bs)[j]? = some u) : ∃ i k, i < bs.length ∧ k < 4 ∧ j = i * 4 + k := by
  have hl : j < (bcs bs).length := (List.getElem?_eq_some_iff.1 h).1
  rw [bcs_length] at hl
  exact ⟨j / 4, j % 4, by omega, by omega, by omega⟩
theorem BdsAt.row {w : World} {a : Option Addr} {n cap : Nat} {bs : List Bd} (h : BdsAt w a n cap bs) : RowAt w a cap (bcs bs) := by
  refine ⟨fun ha => ?_, fun x hx => ?_⟩
  · obtain ⟨rfl, rfl⟩ := h.nil ha; exact ⟨rfl, rfl⟩
  · obtain ⟨h1, h2, h3⟩ := h.at_ x hx
    refine ⟨h1, h2, fun j u hj => ?_⟩
    obtain ⟨i, k, hi, hk, rfl⟩ := bcs_cell bs j u hj
    have g := bcs_get bs i hi
    have c := h3 i hi
    rw [← Nat.add_assoc]
    match k, hk with
    | 0, _ => simp only [Nat.add_zero] at *; rw [c.1, ← g.1, hj]
    | 1, _ => rw [c.2.1, ← g.2.1, hj]
    | 2, _ => rw [c.2.2.1, ← g.2.2.1, hj]
    | 3, _ => rw [c.2.2.2, ← g.2.2.2, hj]
theorem BdsAt.of_row {w : World} {a : Option Addr} {n cap : Nat} {bs : List Bd} (h : RowAt w a cap (bcs bs)) (hn : n = bs.length) (hs : bs.length ≤ 140737488351232) : BdsAt w a n cap bs := by
  refine ⟨hn, hs, fun ha => ?_, fun x hx => ?_⟩
  · obtain ⟨h1, h2⟩ := h.nil ha
    refine ⟨?_, h2⟩
    have := bcs_length bs
    rw [h1] at this
    exact List.eq_nil_of_length_eq_zero (by simp at this; omega)
  · obtain ⟨h1, h2, h3⟩ := h.at_ x hx
    refine ⟨h1, h2, fun i hi => ?_⟩
    have g := bcs_get bs i hi
    exact ⟨h3 _ _ g.1, by simpa [Nat.add_assoc] using h3 _ _ g.2.1, by simpa [Nat.add_assoc] using h3 _ _ g.2.2.1, by simpa [Nat.add_assoc] using h3 _ _ g.2.2.2⟩
theorem BdsAt.of_owns {w : World} {base : Nat} {e : TypeId} {a : Option Addr} {n cap : Nat} {bs : List Bd} (h : w.ownsRow base e 4 (.slice a n cap) n (bcs bs)) (hs : bs.length ≤ 140737488351232) : BdsAt w a n cap bs := .of_row (RowAt.of_owns h) (by have := h.1; rw [bcs_length] at this; omega) hs

/-- What is owned is a slice of that many. -/
theorem owns_slice {w : World} {base : Nat} {e : TypeId} {size : Nat} {v : Value} {n : Nat} {xs : List Value} (h : w.ownsRow base e size v n xs) : ∃ a cap, v = .slice a n cap ∧ ∀ x, a = some x → base ≤ x.block ∧ x.block < w.heap.size := by
  obtain ⟨hl, ⟨hv, hn⟩ | ⟨g, cap', cur, hv, hb, hg, _⟩⟩ := h
  · exact ⟨none, 0, by rw [hv, hn], fun x hx => by cases hx⟩
  · exact ⟨_, _, hv, fun x hx => by simp at hx; subst hx; exact ⟨hb, (Array.getElem?_eq_some_iff.1 hg).1⟩⟩
def withinB (n lo hi : Int) : Bool := decide (lo ≤ n) && decide (n ≤ hi)
theorem withinB_iff {n lo hi : Int} : withinB n lo hi = true ↔ lo ≤ n ∧ n ≤ hi := by simp [withinB]
end Go.Proofs.YtodkbfbbpfghiaaGreat
namespace Go.Proofs.YtodkbfbbpfghiaaGreat
open Go.Maps
/-- An ascending list with a number, once. -/
def insI (n : Int) : List Int → List Int
  | [] => [n]
  | x :: l => if x < n then x :: insI n l else if x = n then x :: l else n :: x :: l
def Asc (l : List Int) : Prop := l.Pairwise (· < ·)
theorem mem_insI {n y : Int} : ∀ {l : List Int}, y ∈ insI n l ↔ y = n ∨ y ∈ l
  | [] => by simp [insI]
  | x :: l => by
    simp only [insI]
    split
    · simp only [List.mem_cons, mem_insI (l := l)]
      constructor
      · rintro (h | h | h) <;> simp [h]
      · rintro (h | h | h) <;> simp [h]
    · split
      · rename_i h; subst h; simp
      · simp
theorem Asc.insI {n : Int} : ∀ {l : List Int}, Asc l → Asc (insI n l)
  | [], _ => by simp [Asc, YtodkbfbbpfghiaaGreat.insI]
  | x :: l, h => by
    have h1 := List.pairwise_cons.1 h
    simp only [YtodkbfbbpfghiaaGreat.insI]
    split
    · rename_i hx
      refine List.pairwise_cons.2 ⟨fun y hy => ?_, Asc.insI h1.2⟩
      rcases mem_insI.1 hy with rfl | hy
      · exact hx
      · exact h1.1 y hy
    · split
      · exact h
      · rename_i h2 h3
        refine List.pairwise_cons.2 ⟨fun y hy => ?_, h⟩
        rcases List.mem_cons.1 hy with rfl | hy
        · omega
        · have := h1.1 y hy; omega
theorem Asc.nodup {l : List Int} (h : Asc l) : l.Nodup := h.imp (fun {a b} (h : a < b) => by omega)
/-- The keys' datum. -/
def bidsD (bs : List Bd) : DataW Unit := bs.foldl (fun D b => D.put (.int .i64 b.bid) (.lit (.bool true))) (.map [])
theorem bidsD_has (bs : List Bd) : ∀ (D : DataW Unit), IsMap D → IsMap (bs.foldl (fun D b => D.put (.int .i64 b.bid) (.lit (.bool true))) D) ∧ ∀ x : Int, has (bs.foldl (fun D b => D.put (.int .i64 b.bid) (.lit (.bool true))) D) (.int .i64 x) = true ↔ has D (.int .i64 x) = true ∨ ∃ b ∈ bs, b.bid = x := by
  induction bs with
  | nil => intro D h; exact ⟨h, by simp⟩
  | cons b bs ih =>
    intro D h
    obtain ⟨h1, h2⟩ := ih (D.put (.int .i64 b.bid) (.lit (.bool true))) (h.put _ _)
    refine ⟨h1, fun x => ?_⟩
    simp only [List.foldl_cons]
    rw [h2]
    by_cases e : b.bid = x
    · subst e
      rw [has_put_same h (show WideAt.IsKeyLit (.int .i64 b.bid) from trivial)]
      simp
    · rw [has_put_other (fun h => e (by injection h with _ h; exact h.symm))]
      simp [e]
theorem bidsD_snoc (bs : List Bd) (b : Bd) : bidsD (bs ++ [b]) = (bidsD bs).put (.int .i64 b.bid) (.lit (.bool true)) := by simp [bidsD]
end Go.Proofs.YtodkbfbbpfghiaaGreat
namespace Go.Proofs.YtodkbfbbpfghiaaGreat
/-- The numbers of a list, ascending, each once. -/
def ascOf (l : List Int) : List Int := l.foldl (fun a x => insI x a) []
theorem ascOf_go : ∀ (l a : List Int), Asc a → Asc (l.foldl (fun a x => insI x a) a) ∧ ∀ x, x ∈ l.foldl (fun a x => insI x a) a ↔ x ∈ a ∨ x ∈ l
  | [], a, h => ⟨h, by simp⟩
  | y :: ys, a, h => by
    obtain ⟨h1, h2⟩ := ascOf_go ys (insI y a) h.insI
    refine ⟨h1, fun x => ?_⟩
    simp only [List.foldl_cons]
    rw [h2, mem_insI, List.mem_cons]
    constructor
    · rintro ((h | h) | h) <;> simp [h]
    · rintro (h | h | h) <;> simp [h]
theorem ascOf_asc (l : List Int) : Asc (ascOf l) := (ascOf_go l [] (by simp [Asc])).1
theorem mem_ascOf {l : List Int} {x : Int} : x ∈ ascOf l ↔ x ∈ l := by
  have := (ascOf_go l [] (by simp [Asc])).2 x
  unfold ascOf
  simpa using this

/-- How many come before a number. -/
def before (l : List Int) (x : Int) : Nat := l.countP fun y => decide (y < x)
theorem before_le (l : List Int) (x : Int) : before l x ≤ l.length := List.countP_le_length
theorem before_iff : ∀ {l : List Int} {x : Int} {k : Nat}, l.Pairwise (· ≤ ·) → k < l.length → (k < before l x ↔ l.getD k 0 < x)
  | [], _, _, _, hk => by simp at hk
  | y :: ys, x, k, ha, hk => by
    have h1 := List.pairwise_cons.1 ha
    by_cases hy : y < x
    · have e : before (y :: ys) x = before ys x + 1 := by simp [before, List.countP_cons, hy]
      match k with
      | 0 => simp [e, hy]
      | k + 1 =>
        have ih := before_iff (l := ys) (x := x) (k := k) h1.2 (by simpa using hk)
        rw [e]
        simpa using ih
    · have e : before (y :: ys) x = 0 := by
        unfold before
        rw [List.countP_eq_zero]
        intro z hz
        rcases List.mem_cons.1 hz with rfl | hz
        · simpa using hy
        · have := h1.1 z hz; simp; omega
      rw [e]
      constructor
      · intro h; omega
      · intro h
        match k with
        | 0 => exact absurd (by simpa using h) hy
        | k + 1 =>
          have hk' : k < ys.length := by simpa using hk
          have hm : ys.getD k 0 ∈ ys := by rw [List.getD_eq_getElem?_getD, List.getElem?_eq_getElem hk']; exact List.getElem_mem _
          have := h1.1 _ hm
          simp only [List.getD_cons_succ] at h
          omega
theorem Asc.le {l : List Int} (h : Asc l) : l.Pairwise (· ≤ ·) := h.imp (fun {a b} (h : a < b) => by omega)
theorem pw_get {l : List Int} (h : l.Pairwise (· ≤ ·)) {i j : Nat} (hij : i ≤ j) (hj : j < l.length) : l.getD i 0 ≤ l.getD j 0 := by
  rcases Nat.lt_or_ge i j with hlt | hge
  · have := List.pairwise_iff_getElem.1 h i j (by omega) hj hlt
    simpa [List.getD_eq_getElem?_getD, List.getElem?_eq_getElem, show i < l.length by omega, hj] using this
  · obtain rfl : i = j := by omega
    omega
theorem Asc.get_lt {l : List Int} (h : Asc l) {i j : Nat} (hij : i < j) (hj : j < l.length) : l.getD i 0 < l.getD j 0 := by
  have := List.pairwise_iff_getElem.1 h i j (by omega) hj hij
  simpa [List.getD_eq_getElem?_getD, List.getElem?_eq_getElem, show i < l.length by omega, hj] using this
theorem mem_getD {l : List Int} {i : Nat} (h : i < l.length) : l.getD i 0 ∈ l := by rw [List.getD_eq_getElem?_getD, List.getElem?_eq_getElem h]; exact List.getElem_mem _
theorem getD_of_mem {l : List Int} {x : Int} (h : x ∈ l) : ∃ i, i < l.length ∧ l.getD i 0 = x := by
  obtain ⟨i, hi, e⟩ := List.getElem_of_mem h
  exact ⟨i, hi, by rw [List.getD_eq_getElem?_getD, List.getElem?_eq_getElem hi]; exact e⟩
def hisL (s : List Pn) : List Int := ascOf (s.map (·.hi))
def losL (s : List Pn) : List Int := ascOf (s.map (·.lo))
theorem mem_hisL {s : List Pn} {x : Int} : x ∈ hisL s ↔ ∃ p ∈ s, p.hi = x := by unfold hisL; rw [mem_ascOf]; simp
theorem mem_losL {s : List Pn} {x : Int} : x ∈ losL s ↔ ∃ p ∈ s, p.lo = x := by unfold losL; rw [mem_ascOf]; simp
theorem hisL_asc (s : List Pn) : Asc (hisL s) := ascOf_asc _
/-- The colour below which all is done when so many ends are. -/
def cur (s : List Pn) (j : Nat) : Nat := if j = 0 then 0 else ((hisL s).getD (j - 1) 0 + 1).toNat
theorem BB_before {s : List Pn} (hs : OkS s) {x : Int} (hx : 0 ≤ x) : BB s (cur s (before (hisL s) x)) = BB s x.toNat := by
  have hA := (hisL_asc s).le
  have hle := before_le (hisL s) x
  symm
  apply BB_flat
  · unfold cur
    split
    · omega
    · have h1 := (before_iff (x := x) (k := before (hisL s) x - 1) hA (by omega)).1 (by omega)
      omega
  · intro p hp ⟨h1, h2⟩
    obtain ⟨k, hk, e⟩ := getD_of_mem (mem_hisL.2 ⟨p, hp, rfl⟩)
    have hkb : k < before (hisL s) x := (before_iff hA hk).2 (by rw [e]; omega)
    have hm := pw_get hA (i := k) (j := before (hisL s) x - 1) (by omega) (by omega)
    have := hs p hp
    rw [e] at hm
    unfold cur at h1
    rw [if_neg (by omega)] at h1
    omega
abbrev Best := Nat × List (Int × Int)
def innerS (s : List Pn) (D : Nat → Best) (h : Int) (now : Best) (lows : List Int) : Best :=
  lows.foldl (fun now low => if 0 < dem s low h ∧ now.1 < (D (before (hisL s) low)).1 + dem s low h then ((D (before (hisL s) low)).1 + dem s low h, (D (before (hisL s) low)).2 ++ [(low, h)]) else now) now
def doneL (s : List Pn) : Nat → List Best
  | 0 => [(0, [])]
  | i + 1 => doneL s i ++ [innerS s (fun j => (doneL s i).getD j (0, [])) ((hisL s).getD i 0) ((doneL s i).getD i (0, [])) (losL s)]
def DD (s : List Pn) (j : Nat) : Best := (doneL s j).getD j (0, [])
/-- The ranges that are shown. -/
def showL (s : List Pn) : List (Int × Int) := (DD s (hisL s).length).2
theorem doneL_len (s : List Pn) : ∀ i, (doneL s i).length = i + 1
  | 0 => rfl
  | i + 1 => by simp [doneL, doneL_len s i]
theorem doneL_get (s : List Pn) : ∀ {i j : Nat}, j ≤ i → (doneL s i).getD j (0, []) = DD s j
  | 0, j, h => by obtain rfl : j = 0 := by omega
                  rfl
  | i + 1, j, h => by
    rcases Nat.lt_or_ge j (i + 1) with hlt | hge
    · have hl := doneL_len s i
      rw [← doneL_get s (i := i) (j := j) (by omega)]
      simp only [doneL, List.getD_eq_getElem?_getD]
      rw [List.getElem?_append_left (by omega)]
    · obtain rfl : j = i + 1 := by omega
      rfl
theorem DD_succ_raw (s : List Pn) (i : Nat) : DD s (i + 1) = innerS s (fun j => (doneL s i).getD j (0, [])) ((hisL s).getD i 0) (DD s i) (losL s) := by
  have hl := doneL_len s i
  rw [← doneL_get s (Nat.le_refl i)]
  show (doneL s (i + 1)).getD (i + 1) (0, []) = _
  simp only [doneL, List.getD_eq_getElem?_getD]
  rw [List.getElem?_append_right (by omega)]
  simp [hl]
def sumD (s : List Pn) (l : List (Int × Int)) : Nat := (l.map fun r => dem s r.1 r.2).sum
theorem sumD_snoc (s : List Pn) (l : List (Int × Int)) (r : Int × Int) : sumD s (l ++ [r]) = sumD s l + dem s r.1 r.2 := by simp [sumD]
structure Chain (s : List Pn) (l : List (Int × Int)) : Prop where
  each : ∀ r ∈ l, 0 ≤ r.1 ∧ r.1 ≤ r.2 ∧ r.2 ≤ 1000 ∧ 0 < dem s r.1 r.2
  apart : l.Pairwise fun a b => a.2 < b.1
theorem innerS_fst {s : List Pn} {D : Nat → Best} {h : Int} : ∀ {lows : List Int} {now : Best}, (innerS s D h now lows).1 = fmax (fun low => decide (0 < dem s low h)) (fun low => (D (before (hisL s) low)).1 + dem s low h) lows now.1
  | [], _ => rfl
  | low :: lows, now => by
    show (innerS s D h _ lows).1 = fmax _ _ lows _
    rw [innerS_fst]
    congr 1
    by_cases h0 : 0 < dem s low h
    · by_cases h1 : now.1 < (D (before (hisL s) low)).1 + dem s low h
      · simp only [h0, h1, and_self, if_true, decide_true]; omega
      · simp only [h0, h1, and_false, if_false, decide_true, if_true]; omega
    · simp [h0]
/-- What holds of a sum and its ranges. -/
structure BestOk (s : List Pn) (c : Nat) (b : Best) : Prop where
  sum : sumD s b.2 = b.1
  chain : Chain s b.2
  low : ∀ r ∈ b.2, r.2 < c
theorem BestOk.mono {s : List Pn} {c c' : Nat} {b : Best} (h : BestOk s c b) (hc : c ≤ c') : BestOk s c' b := ⟨h.sum, h.chain, fun r hr => by have := h.low r hr; omega⟩
theorem innerS_ok {s : List Pn} (hs : OkS s) {D : Nat → Best} {h : Nat} (h1000 : h ≤ 1000) : ∀ {lows : List Int} {now : Best}, (∀ x ∈ lows, 0 ≤ x) → (∀ x ∈ lows, x ≤ h → BestOk s x.toNat (D (before (hisL s) x))) → BestOk s (h + 1) now → BestOk s (h + 1) (innerS s D h now lows)
  | [], _, _, _, hb => hb
  | low :: lows, now, h0, hD, hb => by
    show BestOk s (h + 1) (innerS s D h _ lows)
    refine innerS_ok hs h1000 (fun x hx => h0 x (by simp [hx])) (fun x hx => hD x (by simp [hx])) ?_
    dsimp only
    split
    · rename_i hc
      have hlh : low ≤ h := by
        rcases (by omega : (h : Int) < low ∨ low ≤ h) with hl | hl
        · have := dem_zero hs hl; omega
        · exact hl
      have hl0 := h0 low (by simp)
      obtain ⟨b1, b2, b3⟩ := hD low (by simp) hlh
      refine ⟨by rw [sumD_snoc, b1], ⟨fun r hr => ?_, ?_⟩, fun r hr => ?_⟩
      · rcases List.mem_append.1 hr with hr | hr
        · exact b2.each r hr
        · simp at hr; subst hr; exact ⟨hl0, hlh, by simp; omega, hc.1⟩
      · refine List.pairwise_append.2 ⟨b2.apart, by simp, fun a ha b hb' => ?_⟩
        simp at hb'; subst hb'
        have := b3 a ha
        simp; omega
      · rcases List.mem_append.1 hr with hr | hr
        · have := b3 r hr; omega
        · simp at hr; subst hr; simp; omega
    · exact hb
theorem cur_succ {s : List Pn} (j : Nat) : cur s (j + 1) = ((hisL s).getD j 0 + 1).toNat := by simp [cur]
theorem his_range {s : List Pn} (hs : OkS s) {i : Nat} (hi : i < (hisL s).length) : 0 ≤ (hisL s).getD i 0 ∧ (hisL s).getD i 0 ≤ 1000 := by
  obtain ⟨p, hp, e⟩ := mem_hisL.1 (mem_getD hi)
  have := hs p hp
  omega
theorem before_lt {s : List Pn} {x : Int} {i : Nat} (hi : i < (hisL s).length) (hx : x ≤ (hisL s).getD i 0) : before (hisL s) x ≤ i := by
  rcases Nat.lt_or_ge i (before (hisL s) x) with h | h
  · have := (before_iff (hisL_asc s).le hi).1 h; omega
  · exact h
theorem BB_cur_his {s : List Pn} (hs : OkS s) {i : Nat} (hi : i < (hisL s).length) : BB s (cur s i) = BB s ((hisL s).getD i 0).toNat := by
  have hr := his_range hs hi
  have hb : before (hisL s) ((hisL s).getD i 0) = i := by
    have h1 := before_lt (x := (hisL s).getD i 0) hi (Int.le_refl _)
    rcases Nat.lt_or_ge (before (hisL s) ((hisL s).getD i 0)) i with h | h
    · have := (before_iff (x := (hisL s).getD i 0) (k := before (hisL s) ((hisL s).getD i 0)) (hisL_asc s).le (by omega)).2 ((hisL_asc s).get_lt h hi)
      omega
    · omega
  have := BB_before hs hr.1
  rw [hb] at this
  exact this
theorem DD_ok {s : List Pn} (hs : OkS s) : ∀ {i : Nat}, i ≤ (hisL s).length → ∀ j, j ≤ i → (DD s j).1 = BB s (cur s j) ∧ BestOk s (cur s j) (DD s j)
  | 0, _, j, hj => by
    obtain rfl : j = 0 := by omega
    exact ⟨rfl, rfl, ⟨by simp [DD, doneL], by simp [DD, doneL]⟩, by simp [DD, doneL]⟩
  | i + 1, hi, j, hj => by
    have ih := DD_ok hs (i := i) (by omega)
    rcases Nat.lt_or_ge j (i + 1) with hlt | hge
    · exact ih j (by omega)
    · obtain rfl : j = i + 1 := by omega
      have hi' : i < (hisL s).length := by omega
      have hr := his_range hs hi'
      obtain ⟨h, hh⟩ : ∃ h : Nat, (hisL s).getD i 0 = h := ⟨((hisL s).getD i 0).toNat, by omega⟩
      have hcur : cur s (i + 1) = h + 1 := by rw [cur_succ, hh]; omega
      have hlo : ∀ x ∈ losL s, 0 ≤ x := fun x hx => by obtain ⟨p, hp, e⟩ := mem_losL.1 hx; have := hs p hp; omega
      have hbef : ∀ x : Int, x ≤ h → before (hisL s) x ≤ i := fun x hx => before_lt hi' (by omega)
      have hDD : ∀ x : Int, x ≤ h → (doneL s i).getD (before (hisL s) x) (0, []) = DD s (before (hisL s) x) := fun x hx => doneL_get s (hbef x hx)
      have hB : BB s (cur s i) = BB s h := by rw [BB_cur_his hs hi', hh]; rfl
      have hcl : cur s i ≤ h := by
        unfold cur
        split
        · omega
        · have := (hisL_asc s).get_lt (i := i - 1) (j := i) (by omega) hi'; omega
      have h0 := ih i (Nat.le_refl _)
      have hval : ∀ x ∈ losL s, x ≤ h → (DD s (before (hisL s) x)).1 = BB s x.toNat := fun x hx hxh => by rw [(ih _ (hbef x hxh)).1, BB_before hs (hlo x hx)]
      have hcurx : ∀ x ∈ losL s, x ≤ h → cur s (before (hisL s) x) ≤ x.toNat := fun x hx hxh => by
        have := hlo x hx
        unfold cur
        split
        · omega
        · have := (before_iff (x := x) (k := before (hisL s) x - 1) (hisL_asc s).le (by have := before_le (hisL s) x; omega)).1 (by omega)
          omega
      rw [DD_succ_raw, hcur, hh]
      refine ⟨?_, innerS_ok hs (by omega) hlo (fun x hx hxh => ?_) (h0.2.mono (by omega))⟩
      · rw [innerS_fst, h0.1, hB]
        apply Nat.le_antisymm
        · rcases fmax_cases (c := fun low => decide (0 < dem s low h)) (f := fun low => ((doneL s i).getD (before (hisL s) low) (0, [])).1 + dem s low h) (l := losL s) (m := BB s h) with e | ⟨x, hx, hc, e⟩
          · rw [e]; exact BB_mono1 s h
          · have hxh : x ≤ h := by
              rcases (by omega : (h : Int) < x ∨ x ≤ h) with hl | hl
              · have := dem_zero hs hl; simp [this] at hc
              · exact hl
            rw [e, hDD x hxh, hval x hx hxh]
            have := hlo x hx
            have hx' : ((x.toNat : Nat) : Int) = x := by omega
            have := BB_any hs (l := x.toNat) (h := h) (by omega)
            rw [hx'] at this
            exact this
        · rcases BB_cases s h with e | ⟨p, q, hp, hph, hq, hqh, e⟩
          · rw [e]; exact fmax_ge
          · rw [e]
            have hqm : q.lo ∈ losL s := mem_losL.2 ⟨q, hq, rfl⟩
            have := hlo _ hqm
            rcases Nat.eq_zero_or_pos (dem s q.lo h) with e0 | e0
            · rw [e0]
              exact Nat.le_trans (BB_mono s (by omega)) fmax_ge
            · have := fmax_mem (c := fun low => decide (0 < dem s low h)) (f := fun low => ((doneL s i).getD (before (hisL s) low) (0, [])).1 + dem s low h) (m := BB s h) hqm (by simpa using e0)
              rw [hDD _ hqh, hval _ hqm hqh] at this
              exact this
      · have := ih _ (hbef x hxh)
        rw [hDD x hxh]
        exact this.2.mono (hcurx x hx hxh)
theorem cur_top {s : List Pn} (hs : OkS s) : BB s (cur s (hisL s).length) = leastN s := by
  unfold leastN
  symm
  apply BB_flat
  · unfold cur
    split
    · omega
    · have := his_range hs (i := (hisL s).length - 1) (by omega)
      omega
  · intro p hp ⟨h1, h2⟩
    obtain ⟨k, hk, e⟩ := getD_of_mem (mem_hisL.2 ⟨p, hp, rfl⟩)
    have hm := pw_get (hisL_asc s).le (i := k) (j := (hisL s).length - 1) (by omega) (by omega)
    rw [e] at hm
    have := hs p hp
    unfold cur at h1
    rw [if_neg (by omega)] at h1
    omega
theorem showL_sum {s : List Pn} (hs : OkS s) : sumD s (showL s) = leastN s := by
  have h := DD_ok hs (Nat.le_refl _) _ (Nat.le_refl _)
  unfold showL
  rw [h.2.sum, h.1, cur_top hs]
theorem showL_chain {s : List Pn} (hs : OkS s) : Chain s (showL s) := (DD_ok hs (Nat.le_refl _) _ (Nat.le_refl _)).2.chain
theorem clB_comm (s : List Pn) (a b : Nat) : clB s a b = clB s b a := by
  unfold clB
  have h1 : (a != b) = (b != a) := by
    rw [Bool.eq_iff_iff]; simp; exact ⟨fun h e => h e.symm, fun h e => h e.symm⟩
  rw [h1, Bool.and_comm (s.getD a default).ft]
  congr 1
  rw [Bool.or_assoc, Bool.or_assoc]
  congr 1
  exact Bool.or_comm _ _
theorem clB_ne {s : List Pn} {a b : Nat} (h : clB s a b = true) : a ≠ b := by
  unfold clB at h
  simp at h
  exact h.1
theorem clB_feet {s : List Pn} {a b : Nat} (hab : a ≠ b) (ha : (s.getD a default).ft = true) (hb : (s.getD b default).ft = true) : clB s a b = true := by
  unfold clB
  rw [ha, hb]
  simpa using hab
theorem clB_apart {s : List Pn} (hs : OkS s) {a b : Nat} (hb : b < s.length) (h : (s.getD a default).hi < (s.getD b default).lo) : clB s a b = true := by
  have hab : a ≠ b := by
    rintro rfl
    have := hs (s.getD a default) (by rw [List.getD_eq_getElem?_getD, List.getElem?_eq_getElem hb]; exact List.getElem_mem _)
    omega
  unfold clB
  rw [decide_eq_true h]
  simp [hab]
theorem clB_false {s : List Pn} {a b : Nat} (x : Int) (h1 : (s.getD a default).lo ≤ x ∧ x ≤ (s.getD a default).hi) (h2 : (s.getD b default).lo ≤ x ∧ x ≤ (s.getD b default).hi) (h3 : a = b ∨ ¬ ((s.getD a default).ft = true ∧ (s.getD b default).ft = true)) : clB s a b = false := by
  unfold clB
  rcases h3 with rfl | h3
  · simp
  · have e : ((s.getD a default).ft && (s.getD b default).ft) = false := by
      rw [Bool.eq_false_iff]; simpa using h3
    unfold clB at *
    rw [e, decide_eq_false (by omega), decide_eq_false (by omega)]
    simp
theorem Pn.mem {s : List Pn} {i : Nat} (h : i < s.length) : s.getD i default ∈ s := by rw [List.getD_eq_getElem?_getD, List.getElem?_eq_getElem h]; exact List.getElem_mem _
theorem nodup_le : ∀ (k : Nat) (l : List Nat), l.Nodup → (∀ x ∈ l, x < k) → l.length ≤ k
  | 0, l, _, h => by
    match l with
    | [] => simp
    | x :: _ => exact absurd (h x (by simp)) (by omega)
  | k + 1, l, hn, h => by
    have h1 := nodup_le k (l.filter (· != k)) (hn.filter _) (fun x hx => by
      obtain ⟨a, b⟩ := List.mem_filter.1 hx
      have := h x a
      simp at b
      omega)
    have h2 : ∀ (l : List Nat), l.Nodup → l.length ≤ (l.filter (· != k)).length + 1 := by
      intro l
      induction l with
      | nil => intro _; simp
      | cons y ys ih =>
        intro hy
        have hy' := List.nodup_cons.1 hy
        by_cases e : y = k
        · subst e
          have : (y :: ys).filter (· != y) = ys := by
            simp only [List.filter_cons, bne_self_eq_false, Bool.false_eq_true, if_false]
            apply List.filter_eq_self.2
            intro a ha
            simp
            rintro rfl
            exact hy'.1 ha
          rw [this]; simp
        · have := ih hy'.2
          simp only [List.filter_cons, List.length_cons]
          rw [if_pos (by simpa using e)]
          simp; omega
    have := h2 l hn
    omega
theorem nodup_count {α : Type} (p : α → Bool) : ∀ (s : List α) (d : α) (l : List Nat), l.Nodup → (∀ i ∈ l, i < s.length ∧ p (s.getD i d) = true) → l.length ≤ s.countP p
  | [], d, l, _, h => by
    match l with
    | [] => simp
    | x :: _ => have := (h x (by simp)).1; simp at this
  | x :: s, d, l, hn, h => by
    have h0 := nodup_count p s d ((l.filter (· != 0)).map (· - 1)) (by
      rw [List.Nodup, List.pairwise_map]
      refine List.Pairwise.imp_of_mem ?_ (hn.filter _)
      intro a b ha hb hab
      have ha := (List.mem_filter.1 ha).2
      have hb := (List.mem_filter.1 hb).2
      simp at ha hb
      omega) (fun i hi => by
      obtain ⟨j, hj, rfl⟩ := List.mem_map.1 hi
      obtain ⟨hj, hj0⟩ := List.mem_filter.1 hj
      simp at hj0
      obtain ⟨a, b⟩ := h j hj
      match j, hj0 with
      | j + 1, _ => exact ⟨by simpa using a, by simpa using b⟩)
    have h1 : ∀ (l : List Nat), l.Nodup → l.length ≤ (l.filter (· != 0)).length + (if 0 ∈ l then 1 else 0) := by
      intro l
      induction l with
      | nil => intro _; simp
      | cons y ys ih =>
        intro hy
        have hy' := List.nodup_cons.1 hy
        have ih := ih hy'.2
        by_cases e : y = 0
        · subst e
          rw [if_neg hy'.1] at ih
          simp; omega
        · simp only [List.filter_cons, List.length_cons]
          rw [if_pos (by simpa using e)]
          have : (0 ∈ y :: ys) ↔ 0 ∈ ys := by simp [Ne.symm e]
          by_cases h0 : 0 ∈ ys
          · rw [if_pos (this.2 h0)]; rw [if_pos h0] at ih; simp; omega
          · rw [if_neg (fun h => h0 (this.1 h))]; rw [if_neg h0] at ih; simp; omega
    have h2 := h1 l hn
    simp only [List.length_map] at h0
    rw [List.countP_cons]
    by_cases hm : 0 ∈ l
    · have := (h 0 hm).2
      simp at this
      rw [if_pos hm] at h2
      rw [if_pos this]; omega
    · rw [if_neg hm] at h2; omega

/-- Parts each two of which clash. -/
structure WitOk (s : List Pn) (W : List Nat) : Prop where
  lt : ∀ a ∈ W, a < s.length
  cl : W.Pairwise fun a b => clB s a b = true
theorem WitOk.nodup {s : List Pn} {W : List Nat} (h : WitOk s W) : W.Nodup := h.cl.imp fun h => clB_ne h
/-- Vessels, by numbers less than k, in which no two parts clash. -/
structure AsgOk (s : List Pn) (k : Nat) (f : Nat → Nat) : Prop where
  lt : ∀ a, a < s.length → f a < k
  cl : ∀ a b, a < s.length → b < s.length → clB s a b = true → f a ≠ f b
theorem wit_le {s : List Pn} {W : List Nat} {k : Nat} {f : Nat → Nat} (hW : WitOk s W) (hf : AsgOk s k f) : W.length ≤ k := by
  have := nodup_le k (W.map f) (by
    rw [List.Nodup, List.pairwise_map]
    exact List.Pairwise.imp_of_mem (fun {a b} ha hb h => hf.cl a b (hW.lt a ha) (hW.lt b hb) h) hW.cl) (fun x hx => by
    obtain ⟨a, ha, rfl⟩ := List.mem_map.1 hx
    exact hf.lt a (hW.lt a ha))
  simpa using this
def insideL (s : List Pn) (l h : Int) : List Nat := (List.range s.length).filter fun i => inB l h (s.getD i default)
def footL (s : List Pn) (l h : Int) : List Nat := (insideL s l h).filter fun i => (s.getD i default).ft
def witR (s : List Pn) (l h : Int) : List Nat := if footL s l h = [] then (insideL s l h).take 1 else footL s l h
def witU (s : List Pn) : List Nat := (showL s).flatMap fun r => witR s r.1 r.2
theorem mem_insideL {s : List Pn} {l h : Int} {i : Nat} : i ∈ insideL s l h ↔ i < s.length ∧ l ≤ (s.getD i default).lo ∧ (s.getD i default).hi ≤ h := by
  unfold insideL
  rw [List.mem_filter, List.mem_range, inB_iff]
theorem countP_range {α : Type} (p : α → Bool) (d : α) (s : List α) : ((List.range s.length).filter fun i => p (s.getD i d)).length = s.countP p := by
  rw [← List.countP_eq_length_filter]
  have : ∀ (n : Nat), n ≤ s.length → (List.range n).countP (fun i => p (s.getD i d)) = (s.take n).countP p := by
    intro n
    induction n with
    | zero => simp
    | succ n ih =>
      intro hn
      rw [List.range_succ, List.countP_append, ih (by omega), List.take_succ_eq_append_getElem (by omega), List.countP_append]
      congr 1
      simp [List.countP_cons, List.getD_eq_getElem?_getD, List.getElem?_eq_getElem (show n < s.length by omega)]
  have := this s.length (Nat.le_refl _)
  rwa [List.take_length] at this
theorem footL_len (s : List Pn) (l h : Int) : (footL s l h).length = feet s l h := by
  unfold footL insideL feet
  rw [List.filter_filter]
  rw [← countP_range (fun p : Pn => inB l h p && p.ft) default s]
  congr 1
  apply List.filter_congr
  intro x _
  exact Bool.and_comm _ _
theorem witR_len (s : List Pn) (l h : Int) : (witR s l h).length = dem s l h := by
  have hf := footL_len s l h
  unfold witR dem
  split
  · rename_i h0
    rw [h0] at hf
    simp at hf
    by_cases ha : s.any (inB l h) = true
    · obtain ⟨p, hp, hi⟩ := List.any_eq_true.1 ha
      obtain ⟨i, hi', e⟩ := List.getElem_of_mem hp
      have hm : i ∈ insideL s l h := mem_insideL.2 ⟨hi', by
        rw [List.getD_eq_getElem?_getD, List.getElem?_eq_getElem hi']
        rw [inB_iff] at hi
        simpa [e] using hi⟩
      have := List.length_pos_of_mem hm
      unfold some1
      rw [if_pos ha, List.length_take]
      omega
    · have : insideL s l h = [] := by
        rw [List.eq_nil_iff_forall_not_mem]
        intro i hi
        obtain ⟨a, b⟩ := mem_insideL.1 hi
        exact ha (List.any_eq_true.2 ⟨_, Pn.mem a, inB_iff.2 b⟩)
      unfold some1
      rw [this, if_neg ha]
      simp; omega
  · rename_i h0
    have hpos : 0 < (footL s l h).length := List.length_pos_iff.2 h0
    have : some1 s l h ≤ 1 := by unfold some1; split <;> omega
    omega
theorem witR_inside {s : List Pn} {l h : Int} {i : Nat} (hi : i ∈ witR s l h) : i ∈ insideL s l h := by
  unfold witR at hi
  split at hi
  · exact List.mem_of_mem_take hi
  · exact (List.mem_filter.1 hi).1
theorem insideL_nodup (s : List Pn) (l h : Int) : (insideL s l h).Nodup := List.nodup_range.filter _
theorem witR_cl (s : List Pn) (l h : Int) : (witR s l h).Pairwise fun a b => clB s a b = true := by
  unfold witR
  split
  · cases insideL s l h <;> simp
  · refine List.Pairwise.imp_of_mem (fun {a b} ha hb hab => ?_) ((insideL_nodup s l h).filter _)
    exact clB_feet hab (List.mem_filter.1 ha).2 (List.mem_filter.1 hb).2
theorem witU_go {s : List Pn} (hs : OkS s) : ∀ {l : List (Int × Int)}, Chain s l → WitOk s (l.flatMap fun r => witR s r.1 r.2) ∧ (l.flatMap fun r => witR s r.1 r.2).length = sumD s l
  | [], _ => ⟨⟨by simp, by simp⟩, rfl⟩
  | r :: l, hc => by
    have hp := List.pairwise_cons.1 hc.apart
    obtain ⟨h1, h2⟩ := witU_go hs (l := l) ⟨fun x hx => hc.each x (by simp [hx]), hp.2⟩
    refine ⟨⟨fun a ha => ?_, ?_⟩, ?_⟩
    · rw [List.flatMap_cons] at ha
      rcases List.mem_append.1 ha with ha | ha
      · exact (mem_insideL.1 (witR_inside ha)).1
      · exact h1.lt a ha
    · rw [List.flatMap_cons]
      refine List.pairwise_append.2 ⟨witR_cl s _ _, h1.cl, fun a ha b hb => ?_⟩
      obtain ⟨q, hq, hb⟩ := List.mem_flatMap.1 hb
      have ia := mem_insideL.1 (witR_inside ha)
      have ib := mem_insideL.1 (witR_inside hb)
      exact clB_apart hs ib.1 (by have := hp.1 q hq; omega)
    · rw [List.flatMap_cons, List.length_append, h2, witR_len]
      simp [sumD]
theorem witU_ok {s : List Pn} (hs : OkS s) : WitOk s (witU s) ∧ (witU s).length = leastN s := by
  obtain ⟨h1, h2⟩ := witU_go hs (showL_chain hs)
  exact ⟨h1, h2.trans (showL_sum hs)⟩
theorem least_le_len {s : List Pn} (hs : OkS s) : leastN s ≤ s.length := by
  obtain ⟨h1, h2⟩ := witU_ok hs
  rw [← h2]
  exact nodup_le _ _ h1.nodup h1.lt
theorem least_le {s : List Pn} (hs : OkS s) {k : Nat} {f : Nat → Nat} (hf : AsgOk s k f) : leastN s ≤ k := by
  obtain ⟨h1, h2⟩ := witU_ok hs
  rw [← h2]
  exact wit_le h1 hf

/-- How many points more an end needs. -/
def needS (s : List Pn) (pts : List Int) (h : Int) (lows : List Int) : Nat := fmax (fun _ => true) (fun low => dem s low h - (pts.length - before pts low)) lows 0
def ptsN (s : List Pn) : Nat → List Int
  | 0 => []
  | i + 1 => ptsN s i ++ List.replicate (needS s (ptsN s i) ((hisL s).getD i 0) (losL s)) ((hisL s).getD i 0)
/-- The points: colours of vessels, as few as can be. -/
def ptsL (s : List Pn) : List Int := ptsN s (hisL s).length
theorem before_append (a b : List Int) (x : Int) : before (a ++ b) x = before a x + before b x := by simp [before]
theorem before_replicate (n : Nat) (y x : Int) : before (List.replicate n y) x = if y < x then n else 0 := by
  unfold before
  rw [List.countP_replicate]
  simp
theorem before_all {l : List Int} {x : Int} (h : ∀ y ∈ l, y < x) : before l x = l.length := by
  unfold before
  rw [List.countP_eq_length]
  intro y hy
  simpa using h y hy
structure PtsOk (s : List Pn) (c : Nat) (l : List Int) : Prop where
  asc : l.Pairwise (· ≤ ·)
  lt : ∀ y ∈ l, 0 ≤ y ∧ y < c
  cnt : ∀ x : Nat, x ≤ c → before l x = BB s x
theorem ptsN_ok {s : List Pn} (hs : OkS s) : ∀ {i : Nat}, i ≤ (hisL s).length → PtsOk s (cur s i) (ptsN s i)
  | 0, _ => ⟨by simp [ptsN], by simp [ptsN], fun x hx => by
      have : x = 0 := by simp [cur] at hx; omega
      subst this
      simp [ptsN, before, BB_zero]⟩
  | i + 1, hi => by
    obtain ⟨h1, h2, h3⟩ := ptsN_ok hs (i := i) (by omega)
    have hi' : i < (hisL s).length := by omega
    have hr := his_range hs hi'
    obtain ⟨h, hh⟩ : ∃ h : Nat, (hisL s).getD i 0 = h := ⟨((hisL s).getD i 0).toNat, by omega⟩
    have hcur : cur s (i + 1) = h + 1 := by rw [cur_succ, hh]; omega
    have hB : BB s (cur s i) = BB s h := by rw [BB_cur_his hs hi', hh]; rfl
    have hcl : cur s i ≤ h := by
      unfold cur
      split
      · omega
      · have := (hisL_asc s).get_lt (i := i - 1) (j := i) (by omega) hi'; omega
    have hlen : (ptsN s i).length = BB s h := by
      rw [← hB, ← h3 _ (Nat.le_refl _)]
      exact (before_all fun y hy => (h2 y hy).2).symm
    have hlow : ∀ x : Nat, x ≤ h → before (ptsN s i) x = BB s x := fun x hx => by
      by_cases hx' : x ≤ cur s i
      · exact h3 x hx'
      · have e1 : before (ptsN s i) x = (ptsN s i).length := before_all fun y hy => by have := (h2 y hy).2; omega
        have g1 := BB_mono s (a := cur s i) (b := x) (by omega)
        have g2 := BB_mono s (a := x) (b := h) hx
        omega
    have hlo : ∀ x ∈ losL s, 0 ≤ x := fun x hx => by obtain ⟨p, hp, e⟩ := mem_losL.1 hx; have := hs p hp; omega
    have hneed : BB s h + needS s (ptsN s i) h (losL s) = BB s (h + 1) := by
      have hm := BB_mono1 s h
      have hf : ∀ x ∈ losL s, x ≤ h → before (ptsN s i) x = BB s x.toNat := fun x hx hxh => by
        have := hlo x hx
        have e : ((x.toNat : Nat) : Int) = x := by omega
        rw [← hlow x.toNat (by omega), e]
      apply Nat.le_antisymm
      · unfold needS
        rcases fmax_cases (c := fun _ => true) (f := fun low => dem s low h - ((ptsN s i).length - before (ptsN s i) low)) (l := losL s) (m := 0) with e | ⟨x, hx, _, e⟩
        · rw [e]; omega
        · rw [e]
          rcases (by omega : (h : Int) < x ∨ x ≤ h) with hl | hl
          · rw [dem_zero hs hl]; omega
          · rw [hf x hx hl, hlen]
            have := hlo x hx
            have ex : ((x.toNat : Nat) : Int) = x := by omega
            have g := BB_any hs (l := x.toNat) (h := h) (by omega)
            rw [ex] at g
            omega
      · rcases BB_cases s h with e | ⟨p, q, hp, hph, hq, hqh, e⟩
        · omega
        · have hqm : q.lo ∈ losL s := mem_losL.2 ⟨q, hq, rfl⟩
          have g := fmax_mem (c := fun _ => true) (f := fun low => dem s low h - ((ptsN s i).length - before (ptsN s i) low)) (m := 0) hqm rfl
          change _ ≤ needS s (ptsN s i) h (losL s) at g
          rw [hf _ hqm hqh, hlen] at g
          have := BB_mono s (a := q.lo.toNat) (b := h) (by omega)
          omega
    rw [hcur]
    show PtsOk s (h + 1) (ptsN s i ++ List.replicate (needS s (ptsN s i) ((hisL s).getD i 0) (losL s)) ((hisL s).getD i 0))
    rw [hh]
    refine ⟨List.pairwise_append.2 ⟨h1, by rw [List.pairwise_replicate]; right; omega, fun a ha b hb => ?_⟩, fun y hy => ?_, fun x hx => ?_⟩
    · rw [List.eq_of_mem_replicate hb]
      have := (h2 a ha).2; omega
    · rcases List.mem_append.1 hy with hy | hy
      · have := h2 y hy; omega
      · rw [List.eq_of_mem_replicate hy]; omega
    · rw [before_append, before_replicate]
      rcases Nat.lt_or_ge h x with hx' | hx'
      · obtain rfl : x = h + 1 := by omega
        rw [if_pos (by omega), before_all (fun y hy => by have := (h2 y hy).2; omega), hlen]
        exact hneed
      · rw [if_neg (by omega), hlow x hx']; rfl
theorem ptsL_ok {s : List Pn} (hs : OkS s) : (ptsL s).Pairwise (· ≤ ·) ∧ (∀ x : Nat, before (ptsL s) x = BB s x) ∧ (ptsL s).length = leastN s ∧ ∀ y ∈ ptsL s, 0 ≤ y := by
  obtain ⟨h1, h2, h3⟩ := ptsN_ok hs (Nat.le_refl (hisL s).length)
  have hl : (ptsL s).length = leastN s := by
    rw [← cur_top hs, ← h3 _ (Nat.le_refl _)]
    exact (before_all fun y hy => (h2 y hy).2).symm
  refine ⟨h1, fun x => ?_, hl, fun y hy => (h2 y hy).1⟩
  by_cases hx : x ≤ cur s (hisL s).length
  · exact h3 x hx
  · have e : before (ptsL s) x = (ptsL s).length := before_all fun y hy => by have := (h2 y hy).2; omega
    rw [e, hl]
    have g1 := BB_mono s (a := cur s (hisL s).length) (b := x) (by omega)
    rw [cur_top hs] at g1
    rcases Nat.lt_or_ge x 1001 with h | h
    · have := BB_mono s (a := x) (b := 1001) (by omega)
      change _ ≤ leastN s at this
      omega
    · rw [BB_top hs h]
end Go.Proofs.YtodkbfbbpfghiaaGreat
