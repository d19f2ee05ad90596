/-
  Lemmas and walks for the laws on roads and boards: what each function of the program answers, for every input.
-/
import Derived.Test.YtodkbfbbpfghiaaGreatPc02
import Derived.Test.YtodkbfbbpfghiaaGreatPc05
import Derived.Test.YtodkbfbbpfghiaaGreatPc04
import Derived.Laws.Externs
import Derived.Shelf.Abstract
import Derived.Deep.QuietTactic
import Derived.BigQuiet
import Derived.RangeFuncBox
import Derived.OwnWalk
set_option linter.unusedSimpArgs false
set_option linter.unusedVariables false
set_option linter.unnecessarySimpa false
namespace Go.Proofs.YtodkbfbbpfghiaaGreat
open Go Go.RowKit
theorem flat_get {α : Type} {f : α → List Value} {k : Nat} (hk : ∀ x, (f x).length = k) [Inhabited α] : ∀ (l : List α) (i j : Nat), i < l.length → j < k → (l.flatMap f)[i * k + j]? = (f (l.getD i default))[j]?
  | [], i, _, h, _ => by simp at h
  | x :: l, 0, j, _, hj => by
    rw [List.flatMap_cons, Nat.zero_mul, Nat.zero_add, List.getElem?_append_left (by rw [hk]; exact hj)]
    rfl
  | x :: l, i + 1, j, h, hj => by
    have ih := flat_get hk l i j (by simpa using h) hj
    rw [List.flatMap_cons, List.getElem?_append_right (by rw [hk, Nat.succ_mul]; omega), hk]
    rw [show (i + 1) * k + j - k = i * k + j by rw [Nat.succ_mul]; omega, ih]
    rfl
theorem flat_len {α : Type} {f : α → List Value} {k : Nat} (hk : ∀ x, (f x).length = k) : ∀ (l : List α), (l.flatMap f).length = l.length * k
  | [] => by simp
  | x :: l => by rw [List.flatMap_cons, List.length_append, hk, flat_len hk l, List.length_cons, Nat.succ_mul]; omega
theorem RowAt.cell {w : World} {a : Option Addr} {cap : Nat} {vs : List Value} (h : RowAt w a cap vs) {i : Nat} {u : Value} (hi : vs[i]? = some u) : ∃ b off, a = some ⟨b, off, none⟩ ∧ b < w.heap.size ∧ w.cell? ⟨b, off + i, none⟩ = some u := by
  match a, h with
  | none, h => rw [(h.nil rfl).1] at hi; simp at hi
  | some ⟨b, off, sp⟩, h =>
    obtain ⟨h1, h2, h3⟩ := h.at_ _ rfl
    simp at h1
    subst h1
    exact ⟨b, off, rfl, h2, h3 i u hi⟩
theorem RowAt.cells {w : World} {a : Option Addr} {cap : Nat} {vs : List Value} (h : RowAt w a cap vs) (hne : vs ≠ []) : ∃ b off, a = some ⟨b, off, none⟩ ∧ b < w.heap.size ∧ ∀ i u, vs[i]? = some u → w.cell? ⟨b, off + i, none⟩ = some u := by
  match a, h with
  | none, h => exact absurd (h.nil rfl).1 hne
  | some ⟨b, off, sp⟩, h =>
    obtain ⟨h1, h2, h3⟩ := h.at_ _ rfl
    simp at h1
    subst h1
    exact ⟨b, off, rfl, h2, h3⟩
theorem RowAt.chg {w w' : World} {a : Option Addr} {cap : Nat} {vs : List Value} {E : List Nat} (h : RowAt w a cap vs) (hc : SL.Chg E w w') (hE : ∀ x, a = some x → x.block ∉ E) : RowAt w' a cap vs := by
  refine ⟨h.nil, fun x hx => ?_⟩
  obtain ⟨h1, h2, h3⟩ := h.at_ x hx
  exact ⟨h1, Nat.lt_of_lt_of_le h2 hc.size, fun i u hi => by rw [(SL.Chg.cellsW hc).1 _ _ h2 (hE x hx)]; exact h3 i u hi⟩
def rcs (rs : List (Int × Int)) : List Value := rs.flatMap fun r => [.int .i64 r.1, .int .i64 r.2]
theorem rcs_length (rs : List (Int × Int)) : (rcs rs).length = rs.length * 2 := flat_len (f := fun r : Int × Int => [Value.int .i64 r.1, .int .i64 r.2]) (k := 2) (fun _ => rfl) rs
theorem rcs_append (a b : List (Int × Int)) : rcs (a ++ b) = rcs a ++ rcs b := by simp [rcs]
theorem rcs_one : ∀ (rs : List (Int × Int)), ∀ u ∈ rcs rs, u.oneCell' = true := by
  intro rs u hu
  simp only [rcs, List.mem_flatMap] at hu
  obtain ⟨b, _, hb⟩ := hu
  simp at hb
  rcases hb with rfl | rfl <;> rfl
/-- A slice of ranges. -/
structure RngsAt (w : World) (a : Option Addr) (n cap : Nat) (rs : List (Int × Int)) : Prop where
  len : n = rs.length
  small : rs.length ≤ 140737488351232
  row : RowAt w a cap (rcs rs)
theorem RngsAt.below {w w' : World} {a : Option Addr} {n cap : Nat} {rs : List (Int × Int)} (h : RngsAt w a n cap rs) (hb : Below w.heap.size w w') : RngsAt w' a n cap rs := ⟨h.len, h.small, h.row.below hb⟩
theorem RngsAt.get {w : World} {a : Option Addr} {n cap : Nat} {rs : List (Int × Int)} (h : RngsAt w a n cap rs) {i : Nat} (hi : i < rs.length) : ∃ b off, a = some ⟨b, off, none⟩ ∧ b < w.heap.size ∧
    w.cell? ⟨b, off + i * 2, none⟩ = some (.int .i64 (rs.getD i default).1) ∧ w.cell? ⟨b, off + i * 2 + 1, none⟩ = some (.int .i64 (rs.getD i default).2) := by
  have g := fun j hj => flat_get (f := fun r : Int × Int => [Value.int .i64 r.1, .int .i64 r.2]) (k := 2) (fun _ => rfl) rs i j hi hj
  obtain ⟨b, off, h1, h2, h3⟩ := h.row.cells (by intro e; have := rcs_length rs; rw [e] at this; simp at this; omega)
  refine ⟨b, off, h1, h2, h3 _ _ (g 0 (by omega)), ?_⟩
  have := h3 _ _ (g 1 (by omega))
  rwa [← Nat.add_assoc] at this
theorem RngsAt.of_owns {w : World} {base : Nat} {e : TypeId} {a : Option Addr} {n cap : Nat} {rs : List (Int × Int)} (h : w.ownsRow base e 2 (.slice a n cap) n (rcs rs)) (hs : rs.length ≤ 140737488351232) : RngsAt w a n cap rs :=
  ⟨by have := h.1; rw [rcs_length] at this; omega, hs, RowAt.of_owns h⟩

/-- A slice of bools. -/
structure BoolsAt (w : World) (a : Option Addr) (n cap : Nat) (xs : List Bool) : Prop where
  len : n = xs.length
  small : xs.length ≤ 140737488351232
  row : RowAt w a cap (xs.map Value.bool)
theorem BoolsAt.below {w w' : World} {a : Option Addr} {n cap : Nat} {xs : List Bool} (h : BoolsAt w a n cap xs) (hb : Below w.heap.size w w') : BoolsAt w' a n cap xs := ⟨h.len, h.small, h.row.below hb⟩
theorem BoolsAt.get {w : World} {a : Option Addr} {n cap : Nat} {xs : List Bool} (h : BoolsAt w a n cap xs) {i : Nat} (hi : i < xs.length) : ∃ b off, a = some ⟨b, off, none⟩ ∧ b < w.heap.size ∧
    w.cell? ⟨b, off + i, none⟩ = some (.bool (xs.getD i false)) := h.row.cell (by simp [List.getD_eq_getElem?_getD, List.getElem?_eq_getElem hi])
theorem BoolsAt.of_owns {w : World} {base : Nat} {e : TypeId} {a : Option Addr} {n cap : Nat} {xs : List Bool} (h : w.ownsRow base e 1 (.slice a n cap) n (xs.map Value.bool)) (hs : xs.length ≤ 140737488351232) : BoolsAt w a n cap xs :=
  ⟨by have := h.1; simp at this; exact this.symm, hs, RowAt.of_owns h⟩

/-- What matters of parts, as it lies in a world. -/
structure SpansAt (w : World) (a : Option Addr) (ca : Nat) (f : Option Addr) (cf : Nat) (n : Nat) (s : List Pn) : Prop where
  at_ : RngsAt w a n ca (s.map fun p => (p.lo, p.hi))
  ft : BoolsAt w f n cf (s.map (·.ft))
theorem SpansAt.below {w w' : World} {a f : Option Addr} {ca cf n : Nat} {s : List Pn} (h : SpansAt w a ca f cf n s) (hb : Below w.heap.size w w') : SpansAt w' a ca f cf n s := ⟨h.at_.below hb, h.ft.below hb⟩
theorem SpansAt.len {w : World} {a f : Option Addr} {ca cf n : Nat} {s : List Pn} (h : SpansAt w a ca f cf n s) : n = s.length := by have := h.at_.len; simpa using this
theorem SpansAt.small {w : World} {a f : Option Addr} {ca cf n : Nat} {s : List Pn} (h : SpansAt w a ca f cf n s) : s.length ≤ 140737488351232 := by have := h.at_.small; simpa using this
theorem SpansAt.get {w : World} {a f : Option Addr} {ca cf n : Nat} {s : List Pn} (h : SpansAt w a ca f cf n s) {i : Nat} (hi : i < s.length) : ∃ b o d q, a = some ⟨b, o, none⟩ ∧ f = some ⟨d, q, none⟩ ∧ b < w.heap.size ∧ d < w.heap.size ∧
    w.cell? ⟨b, o + i * 2, none⟩ = some (.int .i64 (s.getD i default).lo) ∧ w.cell? ⟨b, o + i * 2 + 1, none⟩ = some (.int .i64 (s.getD i default).hi) ∧ w.cell? ⟨d, q + i, none⟩ = some (.bool (s.getD i default).ft) := by
  obtain ⟨b, o, h1, h2, h3, h4⟩ := h.at_.get (i := i) (by simpa using hi)
  obtain ⟨d, q, g1, g2, g3⟩ := h.ft.get (i := i) (by simpa using hi)
  have e1 : (s.map fun p : Pn => (p.lo, p.hi)).getD i default = ((s.getD i default).lo, (s.getD i default).hi) := by simp [List.getD_eq_getElem?_getD, hi]
  have e2 : (s.map (fun p : Pn => p.ft)).getD i false = (s.getD i default).ft := by simp [List.getD_eq_getElem?_getD, hi]
  rw [e1] at h3 h4
  rw [e2] at g3
  exact ⟨b, o, d, q, h1, g1, h2, g2, h3, h4, g3⟩

/-- A part's cells. -/
def Pt.cs (p : Pt) : List Value := [.slice p.sa p.sh.length p.sc, .int .i64 p.lo, .int .i64 p.hi, .int .i64 p.lob, .int .i64 p.hib, .bool p.ft, .int .i64 p.fby, .slice p.ra p.re.length p.rc]
def Pt.v (p : Pt) : Value := .agg #[.slice p.sa p.sh.length p.sc, .int .i64 p.lo, .int .i64 p.hi, .int .i64 p.lob, .int .i64 p.hib, .bool p.ft, .int .i64 p.fby, .slice p.ra p.re.length p.rc]
def pcs (ps : List Pt) : List Value := ps.flatMap Pt.cs
theorem pcs_length (ps : List Pt) : (pcs ps).length = ps.length * 8 := flat_len (f := Pt.cs) (k := 8) (fun _ => rfl) ps
theorem pcs_append (a b : List Pt) : pcs (a ++ b) = pcs a ++ pcs b := by simp [pcs]
theorem pcs_one : ∀ (ps : List Pt), ∀ u ∈ pcs ps, u.oneCell' = true := by
  intro ps u hu
  simp only [pcs, List.mem_flatMap] at hu
  obtain ⟨p, _, hb⟩ := hu
  simp [Pt.cs] at hb
  rcases hb with rfl | rfl | rfl | rfl | rfl | rfl | rfl | rfl <;> rfl
/-- A list that a part holds: as it lies in a world; one that is empty and has no room may lie anywhere. -/
def LAt (w : World) (a : Option Addr) (n cap : Nat) (xs : List Int) : Prop := IntsAt w a n cap xs ∨ (xs = [] ∧ n = 0 ∧ cap = 0)
theorem IntsAt.lat {w : World} {a : Option Addr} {n cap : Nat} {xs : List Int} (h : IntsAt w a n cap xs) : LAt w a n cap xs := .inl h
theorem LAt.len {w : World} {a : Option Addr} {n cap : Nat} {xs : List Int} (h : LAt w a n cap xs) : n = xs.length := by
  rcases h with h | ⟨rfl, rfl, _⟩
  · exact h.len
  · rfl
theorem LAt.small {w : World} {a : Option Addr} {n cap : Nat} {xs : List Int} (h : LAt w a n cap xs) : xs.length ≤ 140737488351232 := by
  rcases h with h | ⟨rfl, rfl, _⟩
  · exact h.small
  · simp
theorem LAt.below {w w' : World} {a : Option Addr} {n cap : Nat} {xs : List Int} (h : LAt w a n cap xs) (hb : Below w.heap.size w w') : LAt w' a n cap xs := h.imp (fun h => h.below hb) id
theorem LAt.ints {w : World} {a : Option Addr} {n cap : Nat} {xs : List Int} (h : LAt w a n cap xs) (hne : xs ≠ []) : IntsAt w a n cap xs := h.resolve_right fun e => hne e.1
theorem LAt.get {w : World} {a : Option Addr} {n cap : Nat} {xs : List Int} (h : LAt w a n cap xs) {i : Nat} (hi : i < xs.length) : ∃ b off, a = some ⟨b, off, none⟩ ∧ b < w.heap.size ∧
    w.cell? ⟨b, off + i, none⟩ = some (.int .i64 (xs.getD i 0)) := (h.ints (fun e => by rw [e] at hi; simp at hi)).get hi
/-- A part's lists, as they lie in a world. -/
structure PtAt (w : World) (p : Pt) : Prop where
  sh : LAt w p.sa p.sh.length p.sc p.sh
  re : LAt w p.ra p.re.length p.rc p.re
theorem PtAt.below {w w' : World} {p : Pt} (h : PtAt w p) (hb : Below w.heap.size w w') : PtAt w' p := ⟨h.sh.below hb, h.re.below hb⟩
/-- A slice of parts. -/
structure PtsAt (w : World) (a : Option Addr) (n cap : Nat) (ps : List Pt) : Prop where
  len : n = ps.length
  small : ps.length ≤ 140737488351232
  row : RowAt w a cap (pcs ps)
  each : ∀ p ∈ ps, PtAt w p
theorem PtsAt.below {w w' : World} {a : Option Addr} {n cap : Nat} {ps : List Pt} (h : PtsAt w a n cap ps) (hb : Below w.heap.size w w') : PtsAt w' a n cap ps := ⟨h.len, h.small, h.row.below hb, fun p hp => (h.each p hp).below hb⟩
theorem Pt.mem {ps : List Pt} {i : Nat} (h : i < ps.length) : ps.getD i default ∈ ps := by rw [List.getD_eq_getElem?_getD, List.getElem?_eq_getElem h]; exact List.getElem_mem _
theorem PtsAt.get {w : World} {a : Option Addr} {n cap : Nat} {ps : List Pt} (h : PtsAt w a n cap ps) {i : Nat} (hi : i < ps.length) : ∃ b off, a = some ⟨b, off, none⟩ ∧ b < w.heap.size ∧
    w.cell? ⟨b, off + i * 8, none⟩ = some (.slice (ps.getD i default).sa (ps.getD i default).sh.length (ps.getD i default).sc) ∧ w.cell? ⟨b, off + i * 8 + 1, none⟩ = some (.int .i64 (ps.getD i default).lo) ∧
    w.cell? ⟨b, off + i * 8 + 2, none⟩ = some (.int .i64 (ps.getD i default).hi) ∧ w.cell? ⟨b, off + i * 8 + 3, none⟩ = some (.int .i64 (ps.getD i default).lob) ∧ w.cell? ⟨b, off + i * 8 + 4, none⟩ = some (.int .i64 (ps.getD i default).hib) ∧
    w.cell? ⟨b, off + i * 8 + 5, none⟩ = some (.bool (ps.getD i default).ft) ∧ w.cell? ⟨b, off + i * 8 + 6, none⟩ = some (.int .i64 (ps.getD i default).fby) ∧
    w.cell? ⟨b, off + i * 8 + 7, none⟩ = some (.slice (ps.getD i default).ra (ps.getD i default).re.length (ps.getD i default).rc) := by
  have g := fun j hj => flat_get (f := Pt.cs) (k := 8) (fun _ => rfl) ps i j hi hj
  obtain ⟨b, off, h1, h2, h3⟩ := h.row.cells (by intro e; have := pcs_length ps; rw [e] at this; simp at this; omega)
  have k := fun (j : Nat) (hj : j < 8) (u : Value) (hu : (Pt.cs (ps.getD i default))[j]? = some u) => h3 (i * 8 + j) u ((g j hj).trans hu)
  simp only [← Nat.add_assoc] at k
  exact ⟨b, off, h1, h2, k 0 (by omega) _ rfl, k 1 (by omega) _ rfl, k 2 (by omega) _ rfl, k 3 (by omega) _ rfl, k 4 (by omega) _ rfl, k 5 (by omega) _ rfl, k 6 (by omega) _ rfl, k 7 (by omega) _ rfl⟩
end Go.Proofs.YtodkbfbbpfghiaaGreat
namespace Go.Proofs.YtodkbfbbpfghiaaGreat
open Go.RowKit Go.Shelf
set_option maxHeartbeats 1000000
set_option maxRecDepth 100000
theorem r6within_any (n lo hi : Int) (w : World) :
    Calls Tryz.prog 93 #[.int .i64 n, .int .i64 lo, .int .i64 hi] w fun e w' => e = .returned (.bool (withinB n lo hi)) ∧ w' = w := by
  by_cases h1 : lo ≤ n <;>
  · go_enter Tryz.func93, Tryz.ntmps93
    go_wp2
    go_ret
    exact ⟨by simp [withinB, *] <;> omega, rfl⟩
theorem wwithin_any (n lo hi : Int) (w : World) :
    Calls Tryz.prog 100 #[.int .i64 n, .int .i64 lo, .int .i64 hi] w fun e w' => e = .returned (.bool (withinB n lo hi)) ∧ w' = w := by
  by_cases h1 : lo ≤ n <;>
  · go_enter Tryz.func100, Tryz.ntmps100
    go_wp2
    go_ret
    exact ⟨by simp [withinB, *] <;> omega, rfl⟩
theorem toldB_eq (n : Int) (z : Bool) : toldB n z = (withinB n 0 1000000 && ((n == 0) || !z)) := by unfold toldB withinB; congr 2
theorem r6by_any (n : Int) (z : Bool) (w : World) :
    Calls Tryz.prog 104 #[.int .i64 n, .bool z] w fun e w' => e = .returned (.bool (toldB n z)) ∧ w' = w := by
  have he := toldB_eq n z
  generalize toldB n z = T at *
  cases h1 : withinB n 0 1000000 <;> cases h2 : (n == 0)
  all_goals
    rw [h1, h2] at he
    have H1 := Lib.hid h1
    have He := Lib.hid he
    clear h1 he
    go_enter Tryz.func104, Tryz.ntmps104
    go_wp2_with (go_at_call 93; refine (r6within_any _ _ _ _).mono ?_; rintro e w1 ⟨rfl, rfl⟩; rw [H1.out])
    all_goals
      go_ret
      refine ⟨?_, rfl⟩
      rw [He.out]
      try simp
theorem wtold_any (n : Int) (z : Bool) (w : World) :
    Calls Tryz.prog 101 #[.int .i64 n, .bool z] w fun e w' => e = .returned (.bool (toldB n z)) ∧ w' = w := by
  have he := toldB_eq n z
  generalize toldB n z = T at *
  cases h1 : withinB n 0 1000000 <;> cases h2 : (n == 0)
  all_goals
    rw [h1, h2] at he
    have H1 := Lib.hid h1
    have He := Lib.hid he
    clear h1 he
    go_enter Tryz.func101, Tryz.ntmps101
    go_wp2_with (go_at_call 100; refine (wwithin_any _ _ _ _).mono ?_; rintro e w1 ⟨rfl, rfl⟩; rw [H1.out])
    all_goals
      go_ret
      refine ⟨?_, rfl⟩
      rw [He.out]
      try simp
theorem ris_snoc {lo hi : Int} {l : List Int} {k : Nat} (hk : k < l.length) : risB lo hi (l.take (k + 1)) = (risB lo hi (l.take k) && (withinB (l.getD k 0) lo hi && (k == 0 || decide (l.getD (k - 1) 0 < l.getD k 0)))) := by
  have hx : l[k] = l.getD k 0 := by simp [List.getD_eq_getElem?_getD, List.getElem?_eq_getElem hk]
  rw [Bool.eq_iff_iff, List.take_succ_eq_append_getElem hk, hx]
  simp only [Bool.and_eq_true, Bool.or_eq_true, beq_iff_eq, decide_eq_true_eq, risB_iff, withinB_iff]
  unfold Asc
  constructor
  · rintro ⟨h1, h2⟩
    have h1' := List.pairwise_append.1 h1
    refine ⟨⟨h1'.1, fun x hx => h2 x (by simp [hx])⟩, h2 _ (by simp), ?_⟩
    rcases Nat.eq_zero_or_pos k with e | e
    · exact .inl e
    · right
      refine h1'.2.2 _ ?_ _ (by simp)
      rw [List.mem_take_iff_getElem]
      exact ⟨k - 1, by omega, by simp [List.getD_eq_getElem?_getD, List.getElem?_eq_getElem (show k - 1 < l.length by omega)]⟩
  · rintro ⟨⟨h1, h2⟩, h3, h4⟩
    refine ⟨List.pairwise_append.2 ⟨h1, by simp, fun a ha b hb => ?_⟩, fun x hx => ?_⟩
    · simp at hb
      subst hb
      rcases h4 with e | e
      · subst e; simp at ha
      · rw [List.mem_take_iff_getElem] at ha
        obtain ⟨i, hi, rfl⟩ := ha
        have hle : (l.take k).Pairwise (· ≤ ·) := h1.imp (fun {a b} (h : a < b) => by omega)
        have := pw_get hle (i := i) (j := k - 1) (by omega) (by simp; omega)
        simp only [List.getD_eq_getElem?_getD, List.getElem?_take] at this e ⊢
        rw [if_pos (by omega), if_pos (by omega)] at this
        rw [List.getElem?_eq_getElem (show i < l.length by omega)] at this
        simp only [Option.getD_some] at this
        omega
    · rcases List.mem_append.1 hx with hx | hx
      · exact h2 x hx
      · simp at hx; subst hx; exact h3
theorem ris_pre {lo hi : Int} {l : List Int} {k : Nat} (h : risB lo hi (l.take k) = false) : risB lo hi l = false := by
  rw [Bool.eq_false_iff] at h ⊢
  intro h2
  obtain ⟨a, b⟩ := risB_iff.1 h2
  exact h (risB_iff.2 ⟨a.sublist (List.take_sublist k l), fun x hx => b x (List.mem_of_mem_take hx)⟩)
theorem r6rising_any (a : Option Addr) (n cap : Nat) (xs : List Int) (w : World) (hx : LAt w a n cap xs) :
    Calls Tryz.prog 137 #[.slice a n cap] w fun e w' => e = .returned (.bool (risB 1 1000000 xs)) ∧ Below w.heap.size w w' := by
  have hl := hx.small
  obtain rfl := hx.len
  go_enter Tryz.func137, Tryz.ntmps137
  go_wp2_with fail
  go_loopw [3] (fun i wr => ∃ k : Nat, k ≤ xs.length ∧ i = .int .i64 k ∧ Below w.heap.size w wr ∧ risB 1 1000000 (xs.take k) = true) (fun i _ => xs.length - (RowKit.intOf i).toNat)
  case atStart => exact ⟨0, Nat.zero_le _, rfl, Below.refl _ _, rfl⟩
  case round =>
    obtain ⟨k, hk, rfl, hB, hall⟩ := hrel
    have Hall := Lib.hid hall
    clear hall
    by_cases hlt : k < xs.length
    · obtain ⟨b, o, rfl, _, d0⟩ := (hx.below hB).get hlt
      have hs := ris_snoc (lo := 1) (hi := 1000000) hlt
      rw [Hall.out] at hs
      have d1 : ∀ (_ : 0 < k), ∃ y, wr.cell? ⟨b, o + (k - 1), none⟩ = some (.int .i64 y) ∧ xs.getD (k - 1) 0 = y := fun h0 => by
        obtain ⟨b', o', e, _, d⟩ := (hx.below hB).get (i := k - 1) (by omega)
        simp at e
        obtain ⟨rfl, rfl⟩ := e
        exact ⟨_, d, rfl⟩
      have hnn : (0 : Int) ≤ k := by omega
      have i1 : (k : Int) < (xs.length : Int) := by omega
      obtain ⟨x, hxe⟩ : ∃ x, xs.getD k 0 = x := ⟨_, rfl⟩
      rw [hxe] at d0 hs
      have hW := fun w2 => r6within_any x 1 1000000 w2
      have Hp := @ris_pre 1 1000000 xs (k + 1)
      cases h1 : withinB x 1 1000000
      · have Hs : Hid _ := Lib.hid hs
        simp only [h1] at hW
        have Hf := Lib.hid (Hp (by rw [Hs.out, h1]; rfl))
        clear hs h1 hxe d1 Hs
        go_wp2_with fail
        go_quiet ((go_at_call 93; exact Calls.quiet_of_same (hW _)))
        go_wp2
        go_ret
        exact ⟨ret_bool Hf.out.symm, belowN hB⟩
      · simp only [h1] at hW
        rw [h1] at hs
        rcases Nat.eq_zero_or_pos k with e | e
        · subst e
          rw [Nat.add_zero] at d0
          have Hs := Lib.hid hs
          clear hs h1 hxe d1
          go_wp2_with fail
          go_quiet ((go_at_call 93; exact Calls.quiet_of_same (hW _)))
          go_wp2
          go_roundw
          case rel => exact ⟨1, by omega, by go_num, belowN hB, by rw [Hs.out]; rfl⟩
          case measure => simp [RowKit.intOf]; omega
        · obtain ⟨y, d1, hye⟩ := d1 e
          rw [hye] at hs
          have hk0 : (k == 0) = false := by simp; omega
          rw [hk0] at hs
          have hgt : decide ((0 : Int) < k) = true := by simp; omega
          have e1 : (k : Int) - 1 = ((k - 1 : Nat) : Int) := by omega
          have i2 : (k : Int) - 1 < (xs.length : Int) := by omega
          have i3 : (0 : Int) ≤ (k : Int) - 1 := by omega
          have e2 : ((k : Int) - 1).toNat = k - 1 := by omega
          cases h3 : decide (y < x)
          · have h4 : decide (x ≤ y) = true := by simp at h3 ⊢; omega
            have Hf := Lib.hid (Hp (by rw [hs, h3]; rfl))
            clear hs h1 hxe hye hk0 h3
            go_wp2_with fail
            go_quiet ((go_at_call 93; exact Calls.quiet_of_same (hW _)))
            go_wp2
            go_ret
            exact ⟨ret_bool Hf.out.symm, belowN hB⟩
          · have h4 : decide (x ≤ y) = false := by simp at h3 ⊢; omega
            rw [h3] at hs
            have Hs := Lib.hid hs
            clear hs h1 hxe hye hk0 h3
            go_wp2_with fail
            go_quiet ((go_at_call 93; exact Calls.quiet_of_same (hW _)))
            go_wp2
            go_roundw
            case rel => exact ⟨k + 1, by omega, by go_num, belowN hB, by rw [Hs.out]; rfl⟩
            case measure => simp [RowKit.intOf]; omega
    · rw [List.take_of_length_le (by omega)] at Hall
      go_wp2_with fail
      go_ret
      exact ⟨ret_bool Hall.out.symm, hB⟩
set_option maxHeartbeats 2000000
theorem r6part_any (p : Pt) (w : World) (hp : PtAt w p) :
    Calls Tryz.prog 105 #[p.v] w fun e w' => e = .returned (.bool (ptB p)) ∧ Below w.heap.size w w' := by
  obtain ⟨sa, sc, sh, lo, hi, lob, hib, ft, fby, ra, rc, re⟩ := p
  obtain ⟨h1, h2⟩ := hp
  simp only at h1 h2
  have s1 := h1.small
  have s2 := h2.small
  simp only [Pt.v]
  have he : ptB ⟨sa, sc, sh, lo, hi, lob, hib, ft, fby, ra, rc, re⟩ = (decide (1 ≤ sh.length) && decide (sh.length ≤ 40) && risB 1 1000000 sh && decide (0 ≤ lo) && decide (lo ≤ hi) && decide (hi ≤ 1000) &&
    decide (re.length ≤ 200) && risB 1 1000000 re && toldB lob (lo == 0) && toldB hib (hi == 1000) && toldB fby (!ft)) := rfl
  generalize ptB ⟨sa, sc, sh, lo, hi, lob, hib, ft, fby, ra, rc, re⟩ = T at *
  obtain ⟨R1, hR1⟩ : ∃ R1, risB 1 1000000 sh = R1 := ⟨_, rfl⟩
  obtain ⟨R2, hR2⟩ : ∃ R2, risB 1 1000000 re = R2 := ⟨_, rfl⟩
  obtain ⟨T1, hT1⟩ : ∃ T1, toldB lob (lo == 0) = T1 := ⟨_, rfl⟩
  obtain ⟨T2, hT2⟩ : ∃ T2, toldB hib (hi == 1000) = T2 := ⟨_, rfl⟩
  obtain ⟨T3, hT3⟩ : ∃ T3, toldB fby (!ft) = T3 := ⟨_, rfl⟩
  rw [hR1, hR2, hT1, hT2, hT3] at he
  have He := Lib.hid he
  have HR1 := Lib.hid hR1
  have HR2 := Lib.hid hR2
  have HT1 := Lib.hid hT1
  have HT2 := Lib.hid hT2
  have HT3 := Lib.hid hT3
  clear he hR1 hR2 hT1 hT2 hT3
  go_enter Tryz.func105, Tryz.ntmps105
  go_wp2_with (first
    | (go_at_call 137; refine (r6rising_any _ _ _ _ _ (by first | exact h1.below (by ((repeat (first | assumption | exact Below.refl _ _ | refine Below.alloc ?_ ?_ _ | refine Below.setCell ?_ ?_ _ | refine Below.drew ?_ | refine belowN ?_ | refine Below.up ?_ (by assumption) ?_)) <;> (first | assumption | omega | (simp; done) | (simp; omega)))) | exact h2.below (by ((repeat (first | assumption | exact Below.refl _ _ | refine Below.alloc ?_ ?_ _ | refine Below.setCell ?_ ?_ _ | refine Below.drew ?_ | refine belowN ?_ | refine Below.up ?_ (by assumption) ?_)) <;> (first | assumption | omega | (simp; done) | (simp; omega)))))).mono ?_; rintro e w1 ⟨rfl, hb1⟩; (first | rw [HR1.out] | rw [HR2.out]); obtain ⟨hc1, hf1⟩ := bcell hb1; have z1 := lt_size hb1 (b := w.heap.size) (by first | assumption | omega | (simp; done) | (simp; omega)))
    | (go_at_call 104; refine (r6by_any _ _ _).mono ?_; rintro e w3 ⟨rfl, rfl⟩; (first | rw [HT1.out] | rw [HT2.out] | rw [HT3.out])))
  all_goals
    clear HR1 HR2 HT1 HT2 HT3
    go_ret
    refine ⟨ret_bool ?_, by ((repeat (first | assumption | exact Below.refl _ _ | refine Below.alloc ?_ ?_ _ | refine Below.setCell ?_ ?_ _ | refine Below.drew ?_ | refine belowN ?_ | refine Below.up ?_ (by assumption) ?_)) <;> (first | assumption | omega | (simp; done) | (simp; omega)))⟩
    rw [He.out, Bool.eq_iff_iff]
    clear He
    simp only [Bool.and_eq_true, decide_eq_true_eq]
    first
      | grind
      | (trace_state; fail)
theorem contains_take {l : List Int} {n : Int} {k : Nat} (hk : k < l.length) : (l.take (k + 1)).contains n = ((l.take k).contains n || l.getD k 0 == n) := by
  have hx : l[k] = l.getD k 0 := by simp [List.getD_eq_getElem?_getD, List.getElem?_eq_getElem hk]
  rw [List.take_succ_eq_append_getElem hk, hx, Bool.eq_iff_iff]
  simp only [List.contains_iff_mem, List.mem_append, List.mem_singleton, Bool.or_eq_true, beq_iff_eq]
  exact ⟨fun h => h.imp id Eq.symm, fun h => h.imp id Eq.symm⟩
theorem contains_pre {l : List Int} {n : Int} {k : Nat} (h : (l.take k).contains n = true) : l.contains n = true := by
  rw [List.contains_iff_mem] at h ⊢
  exact List.mem_of_mem_take h
theorem r6has_any (a : Option Addr) (len cap : Nat) (xs : List Int) (n : Int) (w : World) (hx : LAt w a len cap xs) :
    Calls Tryz.prog 106 #[.slice a len cap, .int .i64 n] w fun e w' => e = .returned (.bool (xs.contains n)) ∧ w' = w := by
  have hlen := hx.small
  obtain rfl := hx.len
  obtain ⟨T, hT⟩ : ∃ T, xs.contains n = T := ⟨_, rfl⟩
  have HT := Lib.hid hT
  rw [hT]
  clear hT
  go_enter Tryz.func106, Tryz.ntmps106
  go_wp2
  go_loop [5] (fun i => ∃ k : Nat, k ≤ xs.length ∧ i = .int .i64 k ∧ (xs.take k).contains n = false) (fun i => xs.length - (RowKit.intOf i).toNat)
  case atStart => exact ⟨0, Nat.zero_le _, rfl, rfl⟩
  case round =>
    obtain ⟨k, hk, rfl, hno⟩ := hrel
    have Hno := Lib.hid hno
    clear hno
    by_cases hlt : k < xs.length
    · obtain ⟨b, off, rfl, hbl, d0⟩ := hx.get hlt
      have Hs := Lib.hid (contains_take (n := n) hlt)
      have Hp := @contains_pre xs n (k + 1)
      generalize xs.getD k 0 = y at *
      cases e' : (y == n)
      · go_wp2
        go_round
        case rel => exact ⟨k + 1, by omega, by go_num, by rw [Hs.out, Hno.out, e']; rfl⟩
        case measure => simp [RowKit.intOf]; omega
      · have Hf := Lib.hid (Hp (by rw [Hs.out, e']; simp))
        clear Hp
        go_wp2
        go_ret
        exact ⟨ret_bool (Hf.out.symm.trans HT.out), rfl⟩
    · go_wp2
      go_ret
      rw [List.take_of_length_le (by omega)] at Hno
      exact ⟨ret_bool (Hno.out.symm.trans HT.out), rfl⟩
theorem r6clash_any (a : Option Addr) (n cap : Nat) (ps : List Pt) (i k : Nat) (w : World) (hp : PtsAt w a n cap ps) (hi : i < ps.length) (hk : k < ps.length) :
    Calls Tryz.prog 72 #[.slice a n cap, .int .i64 i, .int .i64 k] w fun e w' => e = .returned (.bool (clB (pns ps) i k)) ∧ Below w.heap.size w w' := by
  have hsm := hp.small
  obtain rfl := hp.len
  have hcl : clB (pns ps) i k = (i != k && ((ps.getD i default).ft && (ps.getD k default).ft || decide ((ps.getD i default).hi < (ps.getD k default).lo) || decide ((ps.getD k default).hi < (ps.getD i default).lo))) := by
    unfold clB
    rw [pns_get ps hi, pns_get ps hk]
    rfl
  obtain ⟨b, o, rfl, hb0, d0, d1, d2, d3, d4, d5, d6, d7⟩ := hp.get hi
  obtain ⟨b2, o2, hb2, _, e0, e1, e2, e3, e4, e5, e6, e7⟩ := hp.get hk
  simp at hb2
  obtain ⟨rfl, rfl⟩ := hb2
  have i1 : (i : Int) < (ps.length : Int) := by omega
  have k1 : (k : Int) < (ps.length : Int) := by omega
  have hin : (0 : Int) ≤ i := by omega
  have hkn : (0 : Int) ≤ k := by omega
  have hik : (i != k) = ((i : Int) != (k : Int)) := by rw [Bool.eq_iff_iff]; simp; omega
  rw [hik] at hcl
  generalize clB (pns ps) i k = T at *
  have Hcl := Lib.hid hcl
  clear hcl hik hp hi hk
  generalize ps.getD i default = p at *
  generalize ps.getD k default = q at *
  cases hne : ((i : Int) != (k : Int))
  · have hq : ((i : Int) == (k : Int)) = true := by simp at hne ⊢; exact hne
    go_enter Tryz.func72, Tryz.ntmps72
    go_wp2
    go_ret
    exact ⟨ret_bool (by rw [Hcl.out, hne]; rfl), Below.refl _ _⟩
  · have hq : ((i : Int) == (k : Int)) = false := by simp at hne ⊢; exact hne
    go_enter Tryz.func72, Tryz.ntmps72
    go_wp2
    all_goals
      go_ret
      refine ⟨ret_bool ?_, by ((repeat (first | assumption | exact Below.refl _ _ | refine Below.alloc ?_ ?_ _ | refine Below.setCell ?_ ?_ _ | refine Below.drew ?_ | refine belowN ?_ | refine Below.up ?_ (by assumption) ?_)) <;> (first | assumption | omega | (simp; done) | (simp; omega)))⟩
      rw [Hcl.out, hne]
      clear d0 d1 d2 d3 d4 d5 d6 d7 e0 e1 e2 e3 e4 e5 e6 e7 Hcl
      first | grind | (trace_state; fail)
def by_ (s : ByteArray) (k : Nat) : Int := ((s.data.toList.getD k 0).toNat : Int)
theorem by_at {s : ByteArray} {k : Nat} (h : k < s.size) : ((s[k]).toNat : Int) = by_ s k := by
  unfold by_
  have h' : k < s.data.toList.length := by simpa using h
  rw [List.getD_eq_getElem?_getD, List.getElem?_eq_getElem h']
  rfl
def chrI (c : Int) : Bool := (decide (97 ≤ c) && decide (c ≤ 122)) || (decide (48 ≤ c) && decide (c ≤ 57)) || decide (c = 45)
theorem chrB_I (c : UInt8) : chrB c = chrI (c.toNat : Int) := by
  unfold chrB chrI
  rw [Bool.eq_iff_iff]
  simp only [Bool.or_eq_true, Bool.and_eq_true, decide_eq_true_eq]
  omega
def allC (s : ByteArray) (k : Nat) : Bool := (s.data.toList.take k).all chrB
theorem allC_succ {s : ByteArray} {k : Nat} (h : k < s.size) : allC s (k + 1) = (allC s k && chrI (by_ s k)) := by
  unfold allC by_
  have h' : k < s.data.toList.length := by simpa using h
  rw [List.take_succ_eq_append_getElem h', List.all_append, List.getD_eq_getElem?_getD, List.getElem?_eq_getElem h']
  simp [chrB_I]
theorem allC_pre {s : ByteArray} {k : Nat} (h : allC s k = false) : s.data.toList.all chrB = false := by
  unfold allC at h
  rw [Bool.eq_false_iff] at h ⊢
  intro h2
  apply h
  rw [List.all_eq_true] at h2 ⊢
  exact fun x hx => h2 x (List.mem_of_mem_take hx)
theorem allC_all {s : ByteArray} {k : Nat} (h : s.size ≤ k) : allC s k = s.data.toList.all chrB := by
  unfold allC
  rw [List.take_of_length_le (by simpa using h)]
theorem nameB_eq (s : ByteArray) : nameB s.data.toList = (decide (0 < s.size) && decide (s.size ≤ 24) && (decide (97 ≤ by_ s 0) && decide (by_ s 0 ≤ 122)) && s.data.toList.all chrB) := by
  have hl : s.data.toList.length = s.size := by simp
  unfold by_
  revert hl
  generalize s.data.toList = l
  intro hl
  unfold nameB
  cases l with
  | nil => simp at hl; simp [← hl]
  | cons c l =>
    have : 0 < s.size := by rw [← hl]; simp
    rw [Bool.eq_iff_iff]
    simp only [hl, Bool.and_eq_true, decide_eq_true_eq, List.getD_cons_zero]
    grind
theorem r6name_any (s : ByteArray) (w : World) (hs : s.size ≤ maxLen) :
    Calls Tryz.prog 103 #[.string s] w fun e w' => e = .returned (.bool (nameB s.data.toList)) ∧ w' = w := by
  unfold maxLen at hs
  have he := nameB_eq s
  generalize nameB s.data.toList = T at *
  have He := Lib.hid he
  clear he
  by_cases h0 : 0 < s.size ∧ s.size ≤ 24
  · obtain ⟨h0, h1⟩ := h0
    have hb0 := Lib.hid (by_at h0)
    have hr0 : (0 : Int) ≤ (s[0]).toNat := by omega
    go_enter Tryz.func103, Tryz.ntmps103
    go_wp2_with fail
    all_goals try
      go_ret
      refine ⟨ret_bool ?_, rfl⟩
      rw [He.out, ← hb0.out]
      grind
    rename_i hc _ _
    have hz0 : 97 ≤ ((s[0]).toNat : Int) ∧ ((s[0]).toNat : Int) ≤ 122 := ⟨by omega, by omega⟩
    rw [hb0.out] at hz0
    have Hz := Lib.hid hz0
    clear hz0 hr0
    go_loop [3, 4] (fun i _ => ∃ k : Nat, k ≤ s.size ∧ i = .int .i64 k ∧ allC s k = true) (fun i _ => s.size - (RowKit.intOf i).toNat)
    case atStart => exact ⟨0, Nat.zero_le _, rfl, rfl⟩
    case round =>
      obtain ⟨k, hk, rfl, hall⟩ := hrel
      by_cases hlt : k < s.size
      · have hsu := allC_succ hlt
        have hb := by_at hlt
        rw [hall] at hsu
        have Hp := @allC_pre s (k + 1)
        have hnn : (0 : Int) ≤ k := by omega
        have hc0 : (0 : Int) ≤ (s[k]).toNat := by omega
        have Hall := Lib.hid hall
        have Hsu := Lib.hid hsu
        have Hb := Lib.hid hb
        have HP := Lib.hid Hp
        clear hall hsu hb Hp hc
        go_wp2
        all_goals first
          | (go_ret
             refine ⟨ret_bool ?_, rfl⟩
             rw [He.out, HP.out (by rw [Hsu.out, ← Hb.out]; unfold chrI; grind)]
             simp; done)
          | (go_round
             case rel => exact ⟨k + 1, by omega, by go_num, by rw [Hsu.out, ← Hb.out]; unfold chrI; grind⟩
             case measure => simp [RowKit.intOf]; omega)
      · have hf := allC_all (s := s) (k := k) (by omega)
        rw [hall] at hf
        have Hf := Lib.hid hf
        clear hall hf hc
        go_wp2
        go_ret
        refine ⟨ret_bool ?_, rfl⟩
        have z := Hz.out
        rw [He.out, ← Hf.out]
        have z1 : decide (97 ≤ by_ s 0) = true := decide_eq_true z.1
        have z2 : decide (by_ s 0 ≤ 122) = true := decide_eq_true z.2
        have z3 : decide (0 < s.size) = true := decide_eq_true h0
        have z4 : decide (s.size ≤ 24) = true := decide_eq_true h1
        rw [z1, z2, z3, z4]
        rfl
  · go_enter Tryz.func103, Tryz.ntmps103
    go_wp2
    all_goals
      go_ret
      refine ⟨ret_bool ?_, rfl⟩
      rw [He.out]
      grind
set_option maxHeartbeats 4000000
/-- A part's sherds are in no earlier part. -/
def disN (ps : List Pt) (i : Nat) : Bool := (List.range i).all fun k => (ps.getD k default).sh.all fun x => !(ps.getD i default).sh.contains x
theorem disB_iff : ∀ {ps : List Pt}, disB ps = true ↔ ∀ i k, k < i → i < ps.length → ∀ x ∈ (ps.getD k default).sh, x ∉ (ps.getD i default).sh
  | [] => by simp [disB]
  | p :: l => by
    have ih := disB_iff (ps := l)
    unfold disB
    rw [Bool.and_eq_true, ih]
    simp only [List.all_eq_true, Bool.not_eq_true', Bool.eq_false_iff, ne_eq, List.contains_iff_mem]
    constructor
    · rintro ⟨h1, h2⟩ i k hki hi x hx
      match i, k, hki with
      | i + 1, 0, _ => exact h1 _ (Pt.mem (by simpa using hi)) x (by simpa using hx)
      | i + 1, k + 1, hk => exact h2 i k (by omega) (by simpa using hi) x (by simpa using hx)
    · intro h
      refine ⟨fun q hq x hx => ?_, fun i k hki hi x hx => ?_⟩
      · obtain ⟨i, hi, rfl⟩ := List.getElem_of_mem hq
        have := h (i + 1) 0 (by omega) (by simpa using hi) x (by simpa using hx)
        simpa [List.getD_eq_getElem?_getD, List.getElem?_eq_getElem hi] using this
      · exact h (i + 1) (k + 1) (by omega) (by simpa using hi) x (by simpa using hx)
theorem disN_iff {ps : List Pt} {i : Nat} : disN ps i = true ↔ ∀ k, k < i → ∀ x ∈ (ps.getD k default).sh, x ∉ (ps.getD i default).sh := by
  unfold disN
  simp only [List.all_eq_true, List.mem_range, Bool.not_eq_true', Bool.eq_false_iff, ne_eq, List.contains_iff_mem]
theorem disB_N {ps : List Pt} : disB ps = (List.range ps.length).all (disN ps) := by
  rw [Bool.eq_iff_iff, disB_iff, List.all_eq_true]
  simp only [List.mem_range, disN_iff]
  exact ⟨fun h i hi k hk => h i k hk hi, fun h i k hk hi => h i hi k hk⟩
/-- The parts up to k are as said, each with sherds of its own. -/
def caseN (ps : List Pt) (k : Nat) : Bool := (List.range k).all fun i => ptB (ps.getD i default) && disN ps i
theorem caseN_succ (ps : List Pt) (k : Nat) : caseN ps (k + 1) = (caseN ps k && (ptB (ps.getD k default) && disN ps k)) := by
  unfold caseN
  rw [List.range_succ, List.all_append]
  simp
theorem caseN_all (ps : List Pt) : caseN ps ps.length = (ps.all ptB && disB ps) := by
  rw [disB_N, Bool.eq_iff_iff]
  unfold caseN
  simp only [List.all_eq_true, List.mem_range, Bool.and_eq_true]
  constructor
  · intro h
    refine ⟨fun p hp => ?_, fun i hi => (h i hi).2⟩
    obtain ⟨i, hi, rfl⟩ := List.getElem_of_mem hp
    have := (h i hi).1
    simpa [List.getD_eq_getElem?_getD, List.getElem?_eq_getElem hi] using this
  · rintro ⟨h1, h2⟩ i hi
    exact ⟨h1 _ (Pt.mem hi), h2 i hi⟩
theorem caseN_pre {ps : List Pt} {k n : Nat} (hk : k ≤ n) (h : caseN ps k = false) : caseN ps n = false := by
  rw [Bool.eq_false_iff] at h ⊢
  intro h2
  apply h
  unfold caseN at h2 ⊢
  rw [List.all_eq_true] at h2 ⊢
  intro i hi
  exact h2 i (List.mem_range.2 (by have := List.mem_range.1 hi; omega))
theorem cchk_N (ware : List UInt8) (lim by_ : Int) (ps : List Pt) : cchk ware lim by_ ps = if 40 < ps.length then 2 else if headB ware lim by_ && caseN ps ps.length then 0 else 1 := by
  unfold cchk
  rw [caseN_all, Bool.and_assoc]
theorem disN_no {ps : List Pt} {i k n : Nat} (hk : k < i) (hn : n < (ps.getD k default).sh.length) (h : (ps.getD i default).sh.contains ((ps.getD k default).sh.getD n 0) = true) : disN ps i = false := by
  rw [Bool.eq_false_iff]
  intro h2
  exact disN_iff.1 h2 k hk _ (mem_getD hn) (by simpa using h)
def disM (ps : List Pt) (i m : Nat) : Bool := (List.range m).all fun k => (ps.getD k default).sh.all fun x => !(ps.getD i default).sh.contains x
theorem disM_succ (ps : List Pt) (i m : Nat) : disM ps i (m + 1) = (disM ps i m && (ps.getD m default).sh.all fun x => !(ps.getD i default).sh.contains x) := by
  unfold disM
  rw [List.range_succ, List.all_append]
  simp
theorem take_all {xs : List Int} {f : Int → Bool} {n : Nat} (hn : n < xs.length) : (xs.take (n + 1)).all f = ((xs.take n).all f && f (xs.getD n 0)) := by
  rw [List.take_succ_eq_append_getElem hn, List.all_append]
  simp [List.getD_eq_getElem?_getD, List.getElem?_eq_getElem hn]
theorem r6check_any (ware : ByteArray) (lim by_ : Int) (a : Option Addr) (n cap : Nat) (ps : List Pt) (w : World) (hw : ware.size ≤ maxLen) (hp : PtsAt w a n cap ps) :
    Calls Tryz.prog 59 #[.agg #[.string ware, .int .i64 lim, .int .i64 by_, .slice a n cap]] w fun e w' => e = .returned (.int .i64 (cchk ware.data.toList lim by_ ps)) ∧ Below w.heap.size w w' := by
  have hsm := hp.small
  obtain rfl := hp.len
  obtain ⟨T, hT⟩ : ∃ T, cchk ware.data.toList lim by_ ps = T := ⟨_, rfl⟩
  have hT' := cchk_N ware.data.toList lim by_ ps
  rw [hT] at hT' ⊢
  obtain ⟨N, hN⟩ : ∃ N, nameB ware.data.toList = N := ⟨_, rfl⟩
  obtain ⟨B1, hB1⟩ : ∃ B1, withinB lim 0 40 = B1 := ⟨_, rfl⟩
  obtain ⟨B2, hB2⟩ : ∃ B2, toldB by_ (lim == 0) = B2 := ⟨_, rfl⟩
  have hh : headB ware.data.toList lim by_ = (N && B1 && B2) := by rw [← hN, ← hB1, ← hB2]; rfl
  rw [hh] at hT'
  have HT := Lib.hid hT'
  have HN := Lib.hid hN
  have HB1 := Lib.hid hB1
  have HB2 := Lib.hid hB2
  clear hT hT' hN hB1 hB2 hh
  have hbx := hp.below (one_alloc w (Obj.cells #[.string ware, .int .i64 lim, .int .i64 by_, .slice a ps.length cap] 24))
  by_cases hno : 40 < ps.length ∨ (N && B1 && B2) = false
  · go_enter Tryz.func59, Tryz.ntmps59
    go_wp2_with (first
      | (go_at_call 103; refine (r6name_any _ _ hw).mono ?_; rintro e w1 ⟨rfl, rfl⟩; rw [HN.out])
      | (go_at_call 93; refine (r6within_any _ _ _ _).mono ?_; rintro e w1 ⟨rfl, rfl⟩; rw [HB1.out])
      | (go_at_call 104; refine (r6by_any _ _ _).mono ?_; rintro e w1 ⟨rfl, rfl⟩; rw [HB2.out]))
    all_goals first
      | (go_ret
         refine ⟨ret_int ?_, by ((repeat (first | assumption | exact Below.refl _ _ | refine Below.alloc ?_ ?_ _ | refine Below.setCell ?_ ?_ _ | refine Below.drew ?_ | refine belowN ?_ | refine Below.up ?_ (by assumption) ?_)) <;> (first | assumption | omega | (simp; done) | (simp; omega)))⟩
         rw [HT.out]
         clear HT HN HB1 HB2
         grind)
      | (exfalso
         clear HT HN HB1 HB2 hbx hp
         grind)
  have g0 : (ps.length : Int) ≤ 40 := by omega
  have gd : decide (40 < (ps.length : Int)) = false := by simpa using g0
  obtain ⟨rfl, rfl, rfl⟩ : N = true ∧ B1 = true ∧ B2 = true := by
    have : (N && B1 && B2) = true := by cases h : (N && B1 && B2) <;> simp_all
    simpa [and_assoc] using this
  clear hno
  go_enter Tryz.func59, Tryz.ntmps59
  go_wp2_with (first
    | (go_at_call 103; refine (r6name_any _ _ hw).mono ?_; rintro e w1 ⟨rfl, rfl⟩; rw [HN.out])
    | (go_at_call 93; refine (r6within_any _ _ _ _).mono ?_; rintro e w1 ⟨rfl, rfl⟩; rw [HB1.out])
    | (go_at_call 104; refine (r6by_any _ _ _).mono ?_; rintro e w1 ⟨rfl, rfl⟩; rw [HB2.out]))
  have c0 : (w.alloc (Obj.cells #[.string ware, .int .i64 lim, .int .i64 by_, .slice a ps.length cap] 24)).cell? ⟨w.heap.size, 3, none⟩ = some (.slice a ps.length cap) := by simp [go_sem]
  have hBW := one_alloc w (Obj.cells #[.string ware, .int .i64 lim, .int .i64 by_, .slice a ps.length cap] 24)
  have hz : w.heap.size < (w.alloc (Obj.cells #[.string ware, .int .i64 lim, .int .i64 by_, .slice a ps.length cap] 24)).heap.size := by simp
  have HT2 : Hid (∀ k, k ≤ ps.length → caseN ps k = false → T = 1) := Lib.hid fun k hk h => by
    rw [HT.out, caseN_pre hk h, if_neg (by omega), if_neg (by simp)]
  have HT3 : Hid (caseN ps ps.length = true → T = 0) := Lib.hid fun h => by
    rw [HT.out, h, if_neg (by omega)]; simp
  clear HT HN HB1 HB2
  generalize w.alloc (Obj.cells #[.string ware, .int .i64 lim, .int .i64 by_, .slice a ps.length cap] 24) = W0 at *
  go_loopw [3] (fun i wr => ∃ k : Nat, k ≤ ps.length ∧ i = .int .i64 k ∧ Below W0.heap.size W0 wr ∧ caseN ps k = true) (fun i _ => ps.length - (RowKit.intOf i).toNat)
  case atStart => exact ⟨0, Nat.zero_le _, rfl, Below.refl _ _, rfl⟩
  case round =>
    obtain ⟨k, hk, rfl, hB, hall⟩ := hrel
    have c1 := ((bcell hB).1 _ 3 hz).trans c0
    have hnn : (0 : Int) ≤ k := by omega
    by_cases hlt : k < ps.length
    · have i1 : (k : Int) < (ps.length : Int) := by omega
      have hpe := (hbx.below hB).each _ (Pt.mem hlt)
      have hps := hbx.below hB
      obtain ⟨b, o, rfl, _, d0, d1, d2, d3, d4, d5, d6, d7⟩ := (hbx.below hB).get hlt
      have Hsu := Lib.hid (caseN_succ ps k)
      have Hall := Lib.hid hall
      clear hall
      obtain ⟨q, hq⟩ : ∃ q, ps.getD k default = q := ⟨_, rfl⟩
      rw [hq] at d0 d1 d2 d3 d4 d5 d6 d7 hpe
      have Hq := Lib.hid hq
      clear hq
      have hP := r6part_any q _ hpe
      simp only [Pt.v] at hP
      cases hok : ptB q
      · rw [hok] at hP
        have Hok := Lib.hid hok
        clear hok
        go_wp2_with (go_at_call 105; refine hP.mono ?_; rintro e w1 ⟨rfl, hb1⟩)
        go_ret
        refine ⟨ret_int ?_, (hBW.ch2 hB).ch2 hb1⟩
        rw [HT2.out (k + 1) (by omega) (by rw [Hsu.out, Hq.out, Hok.out]; simp)]
      · rw [hok] at hP
        have Hok := Lib.hid hok
        clear hok
        go_wp2_with (go_at_call 105; refine hP.mono ?_; rintro e w1 ⟨rfl, hb1⟩)
        have hB1 := hB.ch2 hb1
        clear d0 d1 d2 d3 d4 d5 d6 d7 c1 hP
        go_loopw [4] (fun i wr => ∃ m : Nat, m ≤ k ∧ i = .int .i64 m ∧ Below W0.heap.size W0 wr ∧ disM ps k m = true) (fun i _ => k - (RowKit.intOf i).toNat)
        case atStart => exact ⟨0, Nat.zero_le _, rfl, hB1, rfl⟩
        case round =>
          obtain ⟨m, hm, rfl, hB2, hall2⟩ := hrel
          have c1 := ((bcell hB2).1 _ 3 hz).trans c0
          have hmn : (0 : Int) ≤ m := by omega
          by_cases hmk : m < k
          · have m1 : (m : Int) < (k : Int) := by omega
            have m2 : (m : Int) < (ps.length : Int) := by omega
            have hme := (hbx.below hB2).each _ (Pt.mem (show m < ps.length by omega))
            have hke := (hbx.below hB2).each _ (Pt.mem hlt)
            obtain ⟨b3, o3, hb3, _, d0, d1, d2, d3, d4, d5, d6, d7⟩ := (hbx.below hB2).get (i := m) (by omega)
            obtain ⟨b4, o4, hb4, _, e0, e1, e2, e3, e4, e5, e6, e7⟩ := (hbx.below hB2).get hlt
            simp at hb3 hb4
            obtain ⟨rfl, rfl⟩ := hb3
            obtain ⟨rfl, rfl⟩ := hb4
            have Hsm := Lib.hid (disM_succ ps k m)
            have Hall2 := Lib.hid hall2
            have Hno := Lib.hid (fun n hn h => @disN_no ps k m n hmk hn h)
            rw [Hq.out] at e0 hke
            clear hall2 d1 d2 d3 d4 d5 d6 d7 e1 e2 e3 e4 e5 e6 e7
            obtain ⟨r, hr⟩ : ∃ r, ps.getD m default = r := ⟨_, rfl⟩
            rw [hr] at d0 hme
            have Hr := Lib.hid hr
            clear hr
            have hrs := hme.sh.small
            go_wp2_with fail
            go_loopw [5] (fun i wr => ∃ n : Nat, n ≤ r.sh.length ∧ i = .int .i64 n ∧ Below W0.heap.size W0 wr ∧ (r.sh.take n).all (fun x => !q.sh.contains x) = true) (fun i _ => r.sh.length - (RowKit.intOf i).toNat)
            case atStart => exact ⟨0, Nat.zero_le _, rfl, hB2, rfl⟩
            case round =>
              obtain ⟨n, hn, rfl, hB3, hall3⟩ := hrel
              have c2 := ((bcell hB3).1 _ 3 hz).trans c0
              have hme3 := (hbx.below hB3).each _ (Pt.mem (show m < ps.length by omega))
              have hke3 := (hbx.below hB3).each _ (Pt.mem hlt)
              obtain ⟨b5, o5, hb5, _, f0, _⟩ := (hbx.below hB3).get (i := m) (by omega)
              obtain ⟨b6, o6, hb6, _, g0', _⟩ := (hbx.below hB3).get hlt
              simp at hb5 hb6
              obtain ⟨rfl, rfl⟩ := hb5
              obtain ⟨rfl, rfl⟩ := hb6
              rw [Hr.out] at f0 hme3
              rw [Hq.out] at g0' hke3
              have hnn' : (0 : Int) ≤ n := by omega
              by_cases hnl : n < r.sh.length
              · have n1 : (n : Int) < (r.sh.length : Int) := by omega
                obtain ⟨bx, ox, hra, _, x0⟩ := hme3.sh.get hnl
                rw [hra] at f0
                have Hta := Lib.hid (take_all (f := fun x => !q.sh.contains x) hnl)
                have Hno' := Lib.hid (Hno.out n (by rw [Hr.out]; exact hnl))
                have Hall3 := Lib.hid hall3
                rw [Hr.out, Hq.out] at Hno'
                generalize r.sh.getD n 0 = x at *
                have hH := fun w2 (h : Below wr.heap.size wr w2) => r6has_any q.sa _ q.sc q.sh x w2 (hke3.sh.below h)
                clear hra hall3 hme3 hme d0 e0 c1 hke hke3
                cases hc : q.sh.contains x
                · simp only [hc] at hH
                  have Hc := Lib.hid hc
                  clear hc
                  go_wp2_with fail
                  go_quiet ((go_at_call 106; exact Calls.quiet_of_same (hH _ (belowN (Below.refl _ _)))))
                  go_wp2
                  go_roundw
                  case rel => exact ⟨n + 1, by omega, by go_num, belowN hB3, by rw [Hta.out, Hall3.out, Hc.out]; rfl⟩
                  case measure => simp [RowKit.intOf]; omega
                · simp only [hc] at hH
                  have Hf := Lib.hid (Hno'.out hc)
                  clear hc
                  go_wp2_with fail
                  go_quiet ((go_at_call 106; exact Calls.quiet_of_same (hH _ (belowN (Below.refl _ _)))))
                  go_wp2
                  go_ret
                  refine ⟨ret_int ?_, hBW.ch2 (belowN hB3)⟩
                  rw [HT2.out (k + 1) (by omega) (by rw [Hsu.out, Hf.out]; simp)]
              · have hn' : n = r.sh.length := by omega
                subst hn'
                rw [List.take_length] at hall3
                have Hall3 := Lib.hid hall3
                clear hall3
                go_wp2_with fail
                go_roundw
                case rel => exact ⟨m + 1, by omega, by go_num, hB3, by rw [Hsm.out, Hall2.out, Hr.out, Hq.out, Hall3.out]; rfl⟩
                case measure => simp [RowKit.intOf]; omega
          · have hmk' : m = k := by omega
            subst hmk'
            go_wp2_with fail
            go_roundw
            case rel => exact ⟨m + 1, by omega, by go_num, hB2, by rw [Hsu.out, Hall.out, Hq.out, Hok.out]; exact hall2⟩
            case measure => simp [RowKit.intOf]; omega
    · have hk' : k = ps.length := by omega
      subst hk'
      have Hall := Lib.hid hall
      clear hall
      go_wp2_with fail
      go_ret
      refine ⟨ret_int ?_, hBW.ch2 hB⟩
      rw [HT3.out Hall.out]
/-- A case: what its value holds, and its parts. -/
structure Cs where
  ware : ByteArray
  lim : Int
  byr : Int
  a : Option Addr
  cap : Nat
  ps : List Pt
def Cs.v (c : Cs) : Value := .agg #[.string c.ware, .int .i64 c.lim, .int .i64 c.byr, .slice c.a c.ps.length c.cap]
def Cs.chk (c : Cs) : Int := cchk c.ware.data.toList c.lim c.byr c.ps
def Cs.ask (c : Cs) (l : List Int) : Int := askE c.ware.data.toList c.lim c.byr c.ps l
def Cs.two (c : Cs) (a b : Int) : Int := two2E c.ware.data.toList c.lim c.byr c.ps a b
def Cs.Ok (c : Cs) : Prop := CaseOk c.ware.data.toList c.lim c.byr c.ps
def Cs.s (c : Cs) : List Pn := pns c.ps
structure CsAt (w : World) (c : Cs) : Prop where
  ware : c.ware.size ≤ maxLen
  ps : PtsAt w c.a c.ps.length c.cap c.ps
theorem CsAt.below {w w' : World} {c : Cs} (h : CsAt w c) (hb : Below w.heap.size w w') : CsAt w' c := ⟨h.ware, h.ps.below hb⟩
theorem Cs.chk_zero {c : Cs} : c.chk = 0 ↔ c.Ok := cchk_zero
theorem Cs.ask_zero {c : Cs} {l : List Int} (h : c.ask l = 0) : c.Ok ∧ ∀ x ∈ l, 0 ≤ x ∧ x < c.ps.length := askE_zero h
theorem Cs.two_zero {c : Cs} {a b : Int} (h : c.two a b = 0) : c.Ok ∧ (0 ≤ a ∧ a < c.ps.length) ∧ (0 ≤ b ∧ b < c.ps.length) ∧ a ≠ b := by
  unfold Cs.two two2E at h
  split at h
  · cases h
  · rename_i hn
    obtain ⟨h1, h2⟩ := askE_zero h
    exact ⟨h1, h2 a (by simp), h2 b (by simp), fun e => hn ⟨h, e⟩⟩
theorem r6chk (c : Cs) (w : World) (hc : CsAt w c) : Calls Tryz.prog 59 #[c.v] w fun e w' => e = .returned (.int .i64 c.chk) ∧ Below w.heap.size w w' :=
  r6check_any c.ware c.lim c.byr c.a _ c.cap c.ps w hc.ware hc.ps
def inL (n : Nat) (l : List Int) : Bool := l.all fun x => decide (0 ≤ x) && decide (x < n)
theorem inL_take {n k : Nat} {l : List Int} (hk : k < l.length) : inL n (l.take (k + 1)) = (inL n (l.take k) && withinB (l.getD k 0) 0 ((n : Int) - 1)) := by
  unfold inL
  rw [take_all hk]
  congr 1
  unfold withinB
  congr 1
  rw [Bool.eq_iff_iff]; simp; omega
theorem inL_pre {n k : Nat} {l : List Int} (h : inL n (l.take k) = false) : inL n l = false := by
  unfold inL at h ⊢
  rw [Bool.eq_false_iff] at h ⊢
  intro h2
  apply h
  rw [List.all_eq_true] at h2 ⊢
  exact fun x hx => h2 x (List.mem_of_mem_take hx)
theorem Cs.ask_eq (c : Cs) (l : List Int) : c.ask l = if c.chk = 0 then (if inL c.ps.length l then 0 else 1) else c.chk := rfl
theorem r6asked (c : Cs) (al : Option Addr) (m cl : Nat) (l : List Int) (w : World) (hc : CsAt w c) (hl : IntsAt w al m cl l) :
    Calls Tryz.prog 96 #[c.v, .slice al m cl] w fun e w' => e = .returned (.int .i64 (c.ask l)) ∧ Below w.heap.size w w' := by
  have hC := fun w1 (h : CsAt w1 c) => r6chk c w1 h
  have he := c.ask_eq l
  obtain rfl := hl.len
  have hls := hl.small
  have hcs := hc.ps.small
  generalize c.ask l = T at *
  generalize c.chk = E at *
  obtain ⟨ware, lim, byr, a, cap, ps⟩ := c
  simp only [Cs.v] at *
  have hbx := hc.below (one_alloc w (Obj.cells #[.string ware, .int .i64 lim, .int .i64 byr, .slice a ps.length cap] 24))
  have hlx := hl.below (one_alloc w (Obj.cells #[.string ware, .int .i64 lim, .int .i64 byr, .slice a ps.length cap] 24))
  have hB0 := one_alloc w (Obj.cells #[.string ware, .int .i64 lim, .int .i64 byr, .slice a ps.length cap] 24)
  have HE := Lib.hid he
  clear he
  cases h0 : (E != 0)
  · have e0 : E = 0 := by simpa using h0
    subst e0
    go_enter Tryz.func96, Tryz.ntmps96
    go_wp2_with (go_at_call 59; refine (hC _ hbx).mono ?_; rintro e w1 ⟨rfl, hb1⟩; obtain ⟨hc1, hf1⟩ := bcell hb1; have hz1 := lt_size hb1 (b := w.heap.size) (by first | assumption | omega | (simp; done) | (simp; omega)); have hb2 := hb1; clear hb1)
    have c0 : w1.cell? ⟨w.heap.size, 3, none⟩ = some (.slice a ps.length cap) := by simp [go_sem, *]
    have hl1 := hlx.below hb2
    have hB1 := hB0.ch2 hb2
    clear hc1 hf1 hC
    go_loopw [6] (fun i wr => ∃ k : Nat, k ≤ l.length ∧ i = .int .i64 k ∧ Below w1.heap.size w1 wr ∧ inL ps.length (l.take k) = true) (fun i _ => l.length - (RowKit.intOf i).toNat)
    case atStart => exact ⟨0, Nat.zero_le _, rfl, Below.refl _ _, rfl⟩
    case round =>
      obtain ⟨k, hk, rfl, hB, hall⟩ := hrel
      have Hall := Lib.hid hall
      clear hall
      have c1 := ((bcell hB).1 _ 3 hz1).trans c0
      by_cases hlt : k < l.length
      · obtain ⟨b, o, rfl, _, d0⟩ := (hl1.below hB).get hlt
        have Hs := Lib.hid (inL_take (n := ps.length) hlt)
        have Hp := @inL_pre ps.length (k + 1) l
        generalize l.getD k 0 = x at *
        have hnn : (0 : Int) ≤ k := by omega
        have i1 : (k : Int) < (l.length : Int) := by omega
        have hW := fun w2 => r6within_any x 0 ((ps.length : Int) - 1) w2
        cases hx : withinB x 0 ((ps.length : Int) - 1)
        · simp only [hx] at hW
          have Hf := Lib.hid (Hp (by rw [Hs.out, hx]; simp))
          clear Hp hx
          go_wp2_with fail
          go_quiet ((go_at_call 93; exact Calls.quiet_of_same (hW _)))
          go_wp2
          go_ret
          refine ⟨ret_int ?_, hB1.ch2 (belowN hB)⟩
          rw [HE.out]; simp [Hf.out]
        · simp only [hx] at hW
          have Hx := Lib.hid hx
          clear Hp hx
          go_wp2_with fail
          go_quiet ((go_at_call 93; exact Calls.quiet_of_same (hW _)))
          go_wp2
          go_roundw
          case rel => exact ⟨k + 1, by omega, by go_num, belowN hB, by rw [Hs.out, Hall.out, Hx.out]; rfl⟩
          case measure => simp [RowKit.intOf]; omega
      · rw [List.take_of_length_le (by omega)] at Hall
        go_wp2_with fail
        go_ret
        refine ⟨ret_int ?_, hB1.ch2 hB⟩
        rw [HE.out]; simp [Hall.out]
  · have e0 : E ≠ 0 := by simpa using h0
    have He0 := Lib.hid e0
    clear e0
    go_enter Tryz.func96, Tryz.ntmps96
    go_wp2_with (go_at_call 59; refine (hC _ hbx).mono ?_; rintro e w1 ⟨rfl, hb1⟩)
    go_ret
    refine ⟨ret_int ?_, hB0.ch2 hb1⟩
    rw [HE.out, if_neg He0.out]
theorem lit2b (w : World) (A : Obj) (x y : Int) : IntsAt ((w.alloc A).alloc (Obj.cells #[.int .i64 x, .int .i64 y] 3)) (some ⟨w.heap.size + 1, 0, none⟩) 2 2 [x, y] := ⟨rfl, by simp, RowAt.of_heap (heap_alloc2_new w A _)⟩
theorem take_get {α : Type} [Inhabited α] {l : List α} {k : Nat} (hk : k < l.length) : l.take (k + 1) = l.take k ++ [l.getD k default] := by
  rw [List.take_succ_eq_append_getElem hk]
  simp [List.getD_eq_getElem?_getD, List.getElem?_eq_getElem hk]
def Cs.dem (c : Cs) (lo hi : Int) : Int := if c.chk = 0 then (YtodkbfbbpfghiaaGreat.dem c.s lo hi : Int) else 0
theorem insI_len (x : Int) (l : List Int) : (insI x l).length ≤ l.length + 1 := by
  induction l with
  | nil => simp [insI]
  | cons y l ih =>
    unfold insI
    split
    · simp; omega
    · split <;> simp
def uniN (l : List Int) (k : Nat) : List Int := ascOf (l.take k)
theorem uniN_succ {l : List Int} {k : Nat} (hk : k < l.length) : uniN l (k + 1) = insI (l.getD k 0) (uniN l k) := by
  unfold uniN ascOf
  rw [take_get hk, List.foldl_append]
  rfl
theorem uniN_len (l : List Int) (k : Nat) : (uniN l k).length ≤ k := by
  induction k with
  | zero => simp [uniN, ascOf]
  | succ k ih =>
    rcases Nat.lt_or_ge k l.length with h | h
    · rw [uniN_succ h]
      have := insI_len (l.getD k 0) (uniN l k)
      omega
    · have : uniN l (k + 1) = uniN l k := by
        unfold uniN
        rw [List.take_of_length_le (by omega), List.take_of_length_le (by omega)]
      rw [this]; omega
theorem uniN_all (l : List Int) : uniN l l.length = ascOf l := by unfold uniN; rw [List.take_length]
/-- The first of a row; what is behind them. -/
theorem rowTake {w : World} {a : Option Addr} {cap : Nat} {vs : List Value} (h : RowAt w a cap vs) (i : Nat) (c2 : Nat) (hc : a = none → c2 = 0) : RowAt w a c2 (vs.take i) := by
  refine ⟨fun h0 => ?_, fun x hx => ?_⟩
  · obtain ⟨h1, h2⟩ := h.nil h0
    subst h1
    exact ⟨by simp, hc h0⟩
  · obtain ⟨h1, h2, h3⟩ := h.at_ x hx
    refine ⟨h1, h2, fun j u hj => h3 j u ?_⟩
    have hl : j < (vs.take i).length := (List.getElem?_eq_some_iff.1 hj).1
    rw [List.getElem?_take_of_lt (by simp at hl; omega)] at hj
    exact hj
theorem rowDrop {w : World} {b off cap : Nat} {vs : List Value} (h : RowAt w (some ⟨b, off, none⟩) cap vs) (i : Nat) {a2 : Option Addr} {c2 : Nat} (ha : a2 = some ⟨b, off + i, none⟩ ∨ (vs.length ≤ i ∧ ∃ o2, a2 = some ⟨b, o2, none⟩)) : RowAt w a2 c2 (vs.drop i) := by
  obtain ⟨_, h2, h3⟩ := h.at_ _ rfl
  rcases ha with rfl | ⟨hl, o2, rfl⟩
  · refine ⟨fun h => (by cases h), fun x hx => ?_⟩
    obtain rfl := Option.some.inj hx
    refine ⟨rfl, h2, fun j u hj => ?_⟩
    have := h3 (i + j) u (by simpa [List.getElem?_drop] using hj)
    simpa [Nat.add_assoc] using this
  · rw [List.drop_eq_nil_of_le hl]
    refine ⟨fun h => (by cases h), fun x hx => ?_⟩
    obtain rfl := Option.some.inj hx
    exact ⟨rfl, h2, fun j u hj => by simp at hj⟩
end Go.Proofs.YtodkbfbbpfghiaaGreat
