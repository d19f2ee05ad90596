/-
  Lemmas and walks for the laws on roads and boards: what each function of the program answers, for every input.
-/
import Derived.Test.YtodkbfbbpfghiaaGreatPa06
import Derived.Test.YtodkbfbbpfghiaaGreatPa04
set_option linter.unusedSimpArgs false
set_option linter.unusedVariables false
set_option linter.unnecessarySimpa false
namespace Go.Proofs.YtodkbfbbpfghiaaGreat
open Go
/-- Two parts as one; its lists lie where said. -/
def gluPt (sa : Option Addr) (sc : Nat) (ra : Option Addr) (rc : Nat) (p q : Pt) : Pt :=
  { sa := sa, sc := sc, sh := ascOf (p.sh ++ q.sh), lo := if p.lo < q.lo then q.lo else p.lo, hi := if q.hi < p.hi then q.hi else p.hi,
    lob := if p.lo < q.lo then q.lob else p.lob, hib := if q.hi < p.hi then q.hib else p.hib, ft := p.ft || q.ft, fby := max p.fby q.fby, ra := ra, rc := rc, re := ascOf (p.re ++ q.re) }
theorem gluPt_n (sa : Option Addr) (sc : Nat) (ra : Option Addr) (rc : Nat) (p q : Pt) : (gluPt sa sc ra rc p q).n = gluP p.n q.n := by
  unfold gluPt gluP Pt.n
  simp only [Pn.mk.injEq]
  refine ⟨?_, ?_, trivial⟩ <;> split <;> omega
theorem map_erase {α β : Type} (f : α → β) : ∀ (l : List α) (i : Nat), (l.eraseIdx i).map f = (l.map f).eraseIdx i
  | [], _ => rfl
  | x :: l, 0 => rfl
  | x :: l, i + 1 => by simp [map_erase f l i]
theorem pns_erase (ps : List Pt) (a : Nat) : pns (ps.eraseIdx a) = (pns ps).eraseIdx a := map_erase _ _ _
def mixPt (ps : List Pt) (a b : Nat) (g : Pt) : List Pt := (ps.set a g).eraseIdx b
theorem mixPt_len {ps : List Pt} {a b : Nat} {g : Pt} (hb : b < ps.length) : (mixPt ps a b g).length = ps.length - 1 := by
  unfold mixPt; rw [List.length_eraseIdx]; simp [hb]
theorem getD_erasePt {s : List Pt} {a : Nat} (i : Nat) : (s.eraseIdx a).getD i default = s.getD (upI a i) default := by
  simp only [List.getD_eq_getElem?_getD, List.getElem?_eraseIdx, upI]
  split <;> rfl
theorem mixPt_get {ps : List Pt} {a b i : Nat} {g : Pt} (hab : a < b) (hb : b < ps.length) : (mixPt ps a b g).getD i default = if i = a then g else ps.getD (upI b i) default := by
  unfold mixPt
  rw [getD_erasePt]
  simp only [List.getD_eq_getElem?_getD, List.getElem?_set]
  unfold upI
  by_cases e : i = a
  · subst e; rw [if_pos hab]; have : i < ps.length := by omega
    simp [this]
  · rw [if_neg e, if_neg (by split <;> omega)]
theorem mixPt_pns {ps : List Pt} {a b : Nat} {g : Pt} (ha : a < ps.length) (hb : b < ps.length) (hg : g.n = gluP (ps.getD a default).n (ps.getD b default).n) : pns (mixPt ps a b g) = merS (pns ps) a b := by
  unfold mixPt merS
  rw [pns_get ps ha, pns_get ps hb, ← hg, pns_erase]
  simp [pns, List.map_set]
/-- The same, as it is made: of the parts one after the other. -/
def mixN (ps : List Pt) (a b : Nat) (g : Pt) (k : Nat) : List Pt := (List.range k).flatMap fun i => if i = a then [g] else if i = b then [] else [ps.getD i default]
theorem mixN_succ (ps : List Pt) (a b : Nat) (g : Pt) (k : Nat) : mixN ps a b g (k + 1) = mixN ps a b g k ++ (if k = a then [g] else if k = b then [] else [ps.getD k default]) := by
  unfold mixN; rw [List.range_succ, List.flatMap_append]; simp
theorem mixN_go {ps : List Pt} {a b : Nat} {g : Pt} (hab : a < b) : ∀ {k : Nat}, k ≤ ps.length → mixN ps a b g k = if b < k then ((ps.take k).set a g).eraseIdx b else (ps.take k).set a g
  | 0, _ => by simp [mixN]
  | k + 1, h => by
    have ih := mixN_go (ps := ps) hab (k := k) (g := g) (by omega)
    have hk : k < ps.length := by omega
    have ht : ps.take (k + 1) = ps.take k ++ [ps.getD k default] := by
      rw [List.take_succ_eq_append_getElem hk]
      simp [List.getD_eq_getElem?_getD, List.getElem?_eq_getElem hk]
    have hl : (ps.take k).length = k := by simp; omega
    rw [mixN_succ, ih, ht]
    rcases (by omega : k < a ∨ k = a ∨ (a < k ∧ k < b) ∨ k = b ∨ b < k) with h1 | h1 | h1 | h1 | h1
    · rw [if_neg (by omega), if_neg (by omega), if_neg (by omega), if_neg (by omega)]
      rw [List.set_eq_of_length_le (by simp; omega), List.set_eq_of_length_le (by simp; omega)]
    · subst h1
      rw [if_neg (by omega), if_pos rfl, if_neg (by omega)]
      rw [List.set_eq_of_length_le (by omega), List.set_append_right _ _ (by omega), hl]
      simp
    · rw [if_neg (by omega), if_neg (by omega), if_neg (by omega), if_neg (by omega), List.set_append_left _ _ (by omega)]
    · subst h1
      rw [if_neg (by omega), if_neg (by omega), if_pos rfl, if_pos (by omega), List.set_append_left _ _ (by omega)]
      rw [List.eraseIdx_append_of_length_le (by simp; omega)]
      simp [hl]
    · rw [if_pos (by omega), if_neg (by omega), if_neg (by omega), if_pos (by omega), List.set_append_left _ _ (by omega)]
      rw [List.eraseIdx_append_of_lt_length (by simp; omega)]
theorem mixN_all {ps : List Pt} {a b : Nat} {g : Pt} (hab : a < b) (hb : b < ps.length) : mixN ps a b g ps.length = mixPt ps a b g := by
  rw [mixN_go hab (Nat.le_refl _), if_pos hb, List.take_length]; rfl
theorem SameP.n {p q : Pt} (h : SameP p q) : p.n = q.n := by unfold Pt.n; rw [h.lo, h.hi, h.ft]
theorem SameP.symm {p q : Pt} (h : SameP p q) : SameP q p := ⟨h.sh.symm, h.re.symm, h.lo.symm, h.hi.symm, h.lob.symm, h.hib.symm, h.ft.symm, h.fby.symm⟩
theorem SameP.trans {p q r : Pt} (h : SameP p q) (k : SameP q r) : SameP p r := ⟨h.sh.trans k.sh, h.re.trans k.re, h.lo.trans k.lo, h.hi.trans k.hi, h.lob.trans k.lob, h.hib.trans k.hib, h.ft.trans k.ft, h.fby.trans k.fby⟩
theorem SameC.symm {c d : Cs} (h : SameC c d) : SameC d c := ⟨h.ware.symm, h.lim.symm, h.byr.symm, h.len.symm, fun i hi => (h.each i (by rw [h.len]; exact hi)).symm⟩
theorem SameC.trans {c d e : Cs} (h : SameC c d) (k : SameC d e) : SameC c e := ⟨h.ware.trans k.ware, h.lim.trans k.lim, h.byr.trans k.byr, h.len.trans k.len, fun i hi => (h.each i hi).trans (k.each i (by rw [← h.len]; exact hi))⟩
theorem SameC.refl (c : Cs) : SameC c c := ⟨rfl, rfl, rfl, rfl, fun _ _ => SameP.refl _⟩
/-- What a part holds, wherever its lists lie. -/
def Pt.bare (p : Pt) : Pt := ⟨none, 0, p.sh, p.lo, p.hi, p.lob, p.hib, p.ft, p.fby, none, 0, p.re⟩
theorem SameP.bare {p q : Pt} : SameP p q ↔ p.bare = q.bare := by
  unfold Pt.bare
  constructor
  · rintro ⟨a, b, c, d, e, f, g, h⟩; rw [a, b, c, d, e, f, g, h]
  · intro h; simp only [Pt.mk.injEq, true_and] at h
    exact ⟨h.1, h.2.2.2.2.2.2.2, h.2.1, h.2.2.1, h.2.2.2.1, h.2.2.2.2.1, h.2.2.2.2.2.1, h.2.2.2.2.2.2.1⟩
theorem SameC.bares {c d : Cs} (h : SameC c d) : c.ps.map Pt.bare = d.ps.map Pt.bare := by
  apply List.ext_getElem
  · simpa using h.len
  · intro i h1 h2
    have := SameP.bare.1 (h.each i (by simpa using h1))
    simp only [List.length_map] at h1 h2
    simpa [List.getD_eq_getElem?_getD, h1, h2] using this
theorem disB_bare : ∀ (ps : List Pt), disB (ps.map Pt.bare) = disB ps
  | [] => rfl
  | p :: l => by
    have ih := disB_bare l
    simp only [List.map_cons, disB, ih, List.all_map]
    rfl
theorem cchk_bare (ware : List UInt8) (lim by_ : Int) (ps : List Pt) : cchk ware lim by_ (ps.map Pt.bare) = cchk ware lim by_ ps := by
  unfold cchk
  rw [disB_bare, List.length_map, List.all_map]
  rfl
theorem pns_bare (ps : List Pt) : pns (ps.map Pt.bare) = pns ps := by
  unfold pns; rw [List.map_map]; rfl
theorem SameC.chk {c d : Cs} (h : SameC c d) : c.chk = d.chk := by
  unfold Cs.chk
  rw [← cchk_bare, ← cchk_bare _ _ _ d.ps, h.bares, h.ware, h.lim, h.byr]
theorem SameC.s {c d : Cs} (h : SameC c d) : c.s = d.s := by
  unfold Cs.s
  rw [← pns_bare, ← pns_bare d.ps, h.bares]
theorem ptB_parts {p : Pt} (h : ptB p = true) : (1 ≤ p.sh.length ∧ p.sh.length ≤ 40 ∧ risB 1 1000000 p.sh = true) ∧ (p.re.length ≤ 200 ∧ risB 1 1000000 p.re = true) ∧
    toldB p.lob (decide (p.lo = 0)) = true ∧ toldB p.hib (decide (p.hi = 1000)) = true ∧ toldB p.fby (!p.ft) = true := by
  unfold ptB at h
  simp only [Bool.and_eq_true, decide_eq_true_eq] at h
  exact ⟨⟨h.1.1.1.1.1.1.1.1.1.1, h.1.1.1.1.1.1.1.1.1.2, h.1.1.1.1.1.1.1.1.2⟩, ⟨h.1.1.1.1.2, h.1.1.1.2⟩, h.1.1.2, h.1.2, h.2⟩
theorem toldB_iff {id : Int} {no : Bool} : toldB id no = true ↔ 0 ≤ id ∧ id ≤ 1000000 ∧ (no = true → id = 0) := by
  unfold toldB
  cases no <;> simp [and_assoc]
end Go.Proofs.YtodkbfbbpfghiaaGreat
namespace Go.Proofs.YtodkbfbbpfghiaaGreat
open Go.RowKit Go.Shelf
set_option maxHeartbeats 40000000
set_option maxRecDepth 100000
/-- A value made of two rows. -/
def SL.rows2 (s : Nat) (u e : List Nat) (base : Nat) (t : TypeId) (n : Nat) (xs : List Value) (m : Nat) (ys : List Value) (f : Value → Value → Value) : SL.Sp :=
  { sub := s, use := u, eat := e, A := fun x w F => ∃ y z, x = f y z ∧ w.ownsRow base t 1 y n xs ∧ w.ownsRow base t 1 z m ys ∧ F = y.ownBlock.toList ++ z.ownBlock.toList,
    st := by
      rintro v w w' F ⟨y, z, rfl, h1, h2, rfl⟩ hk _
      exact ⟨y, z, rfl, SL.row_stab h1 (fun k h => hk k (by simp only [List.mem_append]; exact .inl h)), SL.row_stab h2 (fun k h => hk k (by simp only [List.mem_append]; exact .inr h)), rfl⟩ }
/-- A box whose cells hold two rows. -/
def SL.boxRows2 (s : Nat) (u e : List Nat) (base : Nat) (bt t : TypeId) (n : Nat) (xs : List Value) (m : Nat) (ys : List Value) (f : Value → Value → Array Value) : SL.Sp :=
  { sub := s, use := u, eat := e, A := fun x w F => ∃ N y z, x = .pointer (some ⟨N, 0, none⟩) ∧ base ≤ N ∧ w.heap[N]? = some (.cells (f y z) bt (0, 0)) ∧ (y.ownBlock ≠ some N ∧ z.ownBlock ≠ some N) ∧ w.ownsRow base t 1 y n xs ∧ w.ownsRow base t 1 z m ys ∧ F = N :: (y.ownBlock.toList ++ z.ownBlock.toList),
    st := by
      rintro v w w' F ⟨N, y, z, rfl, hb, h, hn, h1, h2, rfl⟩ hk _
      exact ⟨N, y, z, rfl, hb, by rw [hk N (by simp)]; exact h, hn, SL.row_stab h1 (fun k h => hk k (by simp only [List.mem_cons, List.mem_append]; exact .inr (.inl h))), SL.row_stab h2 (fun k h => hk k (by simp only [List.mem_cons, List.mem_append]; exact .inr (.inr h))), rfl⟩ }
theorem elemR : Elem Tryz.prog 35 33 (.agg #[.int .i64 0, .int .i64 0]) 2 16 := ⟨Tryz.underlying35, info_parts (by kernel_rfl), rfl, by decide⟩
theorem elemP : Elem Tryz.prog 22 49 (.agg #[.slice none 0 0, .int .i64 0, .int .i64 0, .int .i64 0, .int .i64 0, .bool false, .int .i64 0, .slice none 0 0]) 8 96 := ⟨Tryz.underlying22, info_parts (by kernel_rfl), rfl, by decide⟩
theorem cell8w {W : World} {N : Nat} {a b c d e f g h : Value} {t : TypeId} (hh : W.heap[N]? = some (.cells #[a, b, c, d, e, f, g, h] t (0, 0))) :
    W.cell? ⟨N, 0, none⟩ = some a ∧ W.cell? ⟨N, 1, none⟩ = some b ∧ W.cell? ⟨N, 2, none⟩ = some c ∧ W.cell? ⟨N, 3, none⟩ = some d ∧ W.cell? ⟨N, 4, none⟩ = some e ∧ W.cell? ⟨N, 5, none⟩ = some f ∧ W.cell? ⟨N, 6, none⟩ = some g ∧ W.cell? ⟨N, 7, none⟩ = some h ∧ (∀ i, W.frozen? ⟨N, i, none⟩ = false) ∧ N < W.heap.size := by
  have k := (SL.cells_of hh).1
  exact ⟨by simpa using k 0, by simpa using k 1, by simpa using k 2, by simpa using k 3, by simpa using k 4, by simpa using k 5, by simpa using k 6, by simpa using k 7, (SL.cells_of hh).2, (Array.getElem?_eq_some_iff.1 hh).1⟩

/-- A part whose lists are its own. -/
structure OwnPt (w : World) (base : Nat) (p : Pt) : Prop where
  sh : w.ownsRow base 3 1 (.slice p.sa p.sh.length p.sc) p.sh.length (p.sh.map (.int .i64))
  re : w.ownsRow base 3 1 (.slice p.ra p.re.length p.rc) p.re.length (p.re.map (.int .i64))
theorem OwnPt.at_ {w : World} {base : Nat} {p : Pt} (h : OwnPt w base p) (h1 : p.sh.length ≤ 10000) (h2 : p.re.length ≤ 10000) : PtAt w p := ⟨(IntsAt.of_owns h.sh (by omega)).lat, (IntsAt.of_owns h.re (by omega)).lat⟩
theorem OwnPt.up {w w' : World} {base : Nat} {p : Pt} (h : OwnPt w base p) (hb : Below w.heap.size w w') : OwnPt w' base p := ⟨h.sh.up hb (Nat.le_refl _), h.re.up hb (Nat.le_refl _)⟩
theorem ascOf_len (l : List Int) : (ascOf l).length ≤ l.length := by rw [← uniN_all]; exact uniN_len l l.length
def MergedPost (w : World) (p q : Pt) (e : Ending) (w' : World) : Prop := ∃ sa sc ra rc, e = .returned (gluPt sa sc ra rc p q).v ∧ Below w.heap.size w w' ∧ OwnPt w' w.heap.size (gluPt sa sc ra rc p q)
theorem r6merged (p q : Pt) (w : World) (hp : PtAt w p) (hq : PtAt w q) (h1 : p.sh.length ≤ 1000 ∧ q.sh.length ≤ 1000) (h2 : p.re.length ≤ 1000 ∧ q.re.length ≤ 1000) :
    Calls Tryz.prog 112 #[p.v, q.v] w (MergedPost w p q) := by
  obtain ⟨sa, sc, sh, lo, hi, lob, hib, ft, fby, ra, rc, re⟩ := p
  obtain ⟨sa2, sc2, sh2, lo2, hi2, lob2, hib2, ft2, fby2, ra2, rc2, re2⟩ := q
  obtain ⟨hp1, hp2⟩ := hp
  obtain ⟨hq1, hq2⟩ := hq
  simp only at hp1 hp2 hq1 hq2 h1 h2
  obtain ⟨h1a, h1b⟩ := h1
  obtain ⟨h2a, h2b⟩ := h2
  simp only [Pt.v]
  obtain ⟨M, hM⟩ : ∃ M, max fby fby2 = M := ⟨_, rfl⟩
  have hmx : (if fby < fby2 then fby2 else fby) = M := by rw [← hM]; split <;> omega
  have HM := Lib.hid hM
  clear hM
  have hU1 := fun w1 h k => r6union sa sh.length sc sh sa2 sh2.length sc2 sh2 w1 h k h1a h1b
  have hU2 := fun w1 h k => r6union ra re.length rc re ra2 re2.length rc2 re2 w1 h k h2a h2b
  obtain ⟨S, hS⟩ : ∃ S, ascOf (sh ++ sh2) = S := ⟨_, rfl⟩
  obtain ⟨R, hR⟩ : ∃ R, ascOf (re ++ re2) = R := ⟨_, rfl⟩
  rw [hS] at hU1
  rw [hR] at hU2
  have HS := Lib.hid hS
  have HR := Lib.hid hR
  clear hS hR
  go_enter Tryz.func112, Tryz.ntmps112
  go_wp2_with fail
  obtain ⟨w3, hw3⟩ : ∃ w3, w3 = ((w.alloc (Obj.cells #[.slice sa sh.length sc, .int .i64 lo, .int .i64 hi, .int .i64 lob, .int .i64 hib, .bool ft, .int .i64 fby, .slice ra re.length rc] 49)).alloc (Obj.cells #[.slice sa2 sh2.length sc2, .int .i64 lo2, .int .i64 hi2, .int .i64 lob2, .int .i64 hib2, .bool ft2, .int .i64 fby2, .slice ra2 re2.length rc2] 49)).alloc (Obj.cells #[.slice none 0 0, .int .i64 0, .int .i64 0, .int .i64 0, .int .i64 0, .bool false, .int .i64 0, .slice none 0 0] 49) := ⟨_, rfl⟩
  rw [← hw3]
  have hB3 : Below w.heap.size w w3 := by rw [hw3]; ((repeat (first | assumption | exact Below.refl _ _ | refine Below.alloc ?_ ?_ _ | refine Below.setCell ?_ ?_ _ | refine Below.drew ?_ | refine belowN ?_ | refine Below.up ?_ (by assumption) ?_)) <;> (first | assumption | omega | (simp; done) | (simp; omega)))
  have hwz := hB3.size
  have z0 : w.heap.size < w3.heap.size := by rw [hw3]; simp; omega
  have z1 : w.heap.size + 1 < w3.heap.size := by rw [hw3]; simp
  have z2 : w.heap.size + 1 + 1 < w3.heap.size := by rw [hw3]; simp
  obtain ⟨p0, p1, p2, p3, p4, p5, p6, p7⟩ : w3.cell? ⟨w.heap.size, 0, none⟩ = some (.slice sa sh.length sc) ∧ w3.cell? ⟨w.heap.size, 1, none⟩ = some (.int .i64 lo) ∧ w3.cell? ⟨w.heap.size, 2, none⟩ = some (.int .i64 hi) ∧ w3.cell? ⟨w.heap.size, 3, none⟩ = some (.int .i64 lob) ∧ w3.cell? ⟨w.heap.size, 4, none⟩ = some (.int .i64 hib) ∧ w3.cell? ⟨w.heap.size, 5, none⟩ = some (.bool ft) ∧ w3.cell? ⟨w.heap.size, 6, none⟩ = some (.int .i64 fby) ∧ w3.cell? ⟨w.heap.size, 7, none⟩ = some (.slice ra re.length rc) := by
    rw [hw3]; simp [go_sem]
  obtain ⟨q0, q1, q2, q3, q4, q5, q6, q7⟩ : w3.cell? ⟨w.heap.size + 1, 0, none⟩ = some (.slice sa2 sh2.length sc2) ∧ w3.cell? ⟨w.heap.size + 1, 1, none⟩ = some (.int .i64 lo2) ∧ w3.cell? ⟨w.heap.size + 1, 2, none⟩ = some (.int .i64 hi2) ∧ w3.cell? ⟨w.heap.size + 1, 3, none⟩ = some (.int .i64 lob2) ∧ w3.cell? ⟨w.heap.size + 1, 4, none⟩ = some (.int .i64 hib2) ∧ w3.cell? ⟨w.heap.size + 1, 5, none⟩ = some (.bool ft2) ∧ w3.cell? ⟨w.heap.size + 1, 6, none⟩ = some (.int .i64 fby2) ∧ w3.cell? ⟨w.heap.size + 1, 7, none⟩ = some (.slice ra2 re2.length rc2) := by
    rw [hw3]; simp [go_sem]
  obtain ⟨s0, s1, s2, s3, s4, s5, s6, s7⟩ : w3.cell? ⟨w.heap.size + 1 + 1, 0, none⟩ = some (.slice none 0 0) ∧ w3.cell? ⟨w.heap.size + 1 + 1, 1, none⟩ = some (.int .i64 0) ∧ w3.cell? ⟨w.heap.size + 1 + 1, 2, none⟩ = some (.int .i64 0) ∧ w3.cell? ⟨w.heap.size + 1 + 1, 3, none⟩ = some (.int .i64 0) ∧ w3.cell? ⟨w.heap.size + 1 + 1, 4, none⟩ = some (.int .i64 0) ∧ w3.cell? ⟨w.heap.size + 1 + 1, 5, none⟩ = some (.bool false) ∧ w3.cell? ⟨w.heap.size + 1 + 1, 6, none⟩ = some (.int .i64 0) ∧ w3.cell? ⟨w.heap.size + 1 + 1, 7, none⟩ = some (.slice none 0 0) := by
    rw [hw3]; simp [go_sem]
  have f2 : ∀ i, w3.frozen? ⟨w.heap.size + 1 + 1, i, none⟩ = false := by rw [hw3]; intro i; simp [go_sem]
  have hp1' := hp1.below hB3
  have hp2' := hp2.below hB3
  have hq1' := hq1.below hB3
  have hq2' := hq2.below hB3
  clear hw3 hp1 hp2 hq1 hq2
  cases ft
  · apply SLG.rule0 ?hm1 [] [6, 7, 8, 9, 10, 11, 12, 13, 14, 15, 16, 17, 18, 19, 20, 21, 22, 23, 24, 25, 26, 27, 28, 29, 5] [SLF.pq 6 [] _, SLF.pq 7 [0] _, SLF.pq 8 [] _, SLF.pq 9 [2] _, SL.row 10 [1, 3] [] w3.heap.size 3 1 S.length (S.map (.int .i64)), SLF.pq 11 [] _, SLF.pq 12 [5] _, SLF.pq 13 [] _, SLF.pq 14 [7] _, SL.row 15 [6, 8] [] w3.heap.size 3 1 R.length (R.map (.int .i64)), SLF.pq 16 [] _, SLF.pq 17 [10] _, SLF.pq 18 [] _, SLF.pq 19 [12] _, SLF.pq 20 [13] _, SLF.pq 21 [14] _, SLF.pq 22 [14, 15] _, SLF.pq 23 [14, 16] _, SLF.pq 24 [] _, SLF.pq 25 [18] _, SLF.pq 26 [] _, SLF.pq 27 [20] _, SLF.pq 28 [19, 21] _, SL.rows2 29 [4, 9, 11, 17, 22] [4, 9] w3.heap.size 3 S.length (S.map (.int .i64)) R.length (R.map (.int .i64)) (fun y z => .agg #[y, .int .i64 lo, .int .i64 hi, .int .i64 lob, .int .i64 hib, .bool ft2, .int .i64 M, z]), SL.box 5 [] [] w3.heap.size 49 #[.slice none 0 0, .int .i64 0, .int .i64 0, .int .i64 0, .int .i64 0, .bool false, .int .i64 0, .slice none 0 0], SL.boxRows2 5 [23, 24] [23, 24] w3.heap.size 49 3 S.length (S.map (.int .i64)) R.length (R.map (.int .i64)) (fun y z => #[y, .int .i64 lo, .int .i64 hi, .int .i64 lob, .int .i64 hib, .bool ft2, .int .i64 M, z])] [25] ?hck1 ?hkp1 (fun _ => []) ?hin1 ?hdj1 ?hfr1 ?ob1 ?en1
    case hm1 => kernel_rfl
    case hin1 => exact SL.none_held rfl
    case hdj1 => simp
    case hfr1 => intro us; simp only [SL.frame, SL.put']; simp; exact rfl
    case ob1 =>
      refine ⟨?_, ?_, ?_, ?_, ?_, ?_, ?_, ?_, ?_, ?_, ?_, ?_, ?_, ?_, ?_, ?_, ?_, ?_, ?_, ?_, ?_, ?_, ?_, ?_, ?_, ?_, trivial⟩
      all_goals first
        | (intro us w' Fe hG hu hd hv Kx hK
           try dsimp only
           simp [SL.Used, SL.pu, SL.row, SL.box, SL.rowIn, SL.boxIn, SL.boxAt, SL.boxAtIn, SLF.pq, Act.put, SL.rows2, SL.boxRows2] at hu hK
           have hB5 : Below w3.heap.size w3 w' := hG.below'
           obtain ⟨hc5, hf5⟩ := bcell hB5
           have hs5 := hB5.size
           clear hv hG
           first
             | (refine SLF.wpo_do (SLF.wanted_free rfl) ?hd1 ?_; (case hd1 => intro c h; cases h))
             | (refine SLF.wpo_do (SLF.wanted_by rfl rfl ?hv1) ?hd1 ?_; (case hv1 => simp [hu]; done); (case hd1 => intro c h; cases h))
             | (refine' SLF.wpo_not (SLG.wanted_not rfl rfl ?hv1 ?hn1) ?_; (case hv1 => simp [hu]; exact rfl); (case hn1 => first | (simp; done) | (simp [undef]; done)))
           clear hd
           first
             | (go_step; exact hK _ _ _ (SL.Chg.refl _ _) (by first | exact rfl | (simp only [hu]; exact rfl)) rfl (by simp) rfl)
             | exact hK _ _ _ (SL.Chg.refl _ _) rfl rfl (by simp) rfl)
        | skip
      · refine SLG.ob_sp rfl rfl rfl fun us w' Fe hG hu hd Kx hK => ?_
        try dsimp only
        simp [SL.Used, SL.pu, SL.row, SL.box, SL.rowIn, SL.boxIn, SL.boxAt, SL.boxAtIn, SLF.pq, Act.put, SL.rows2, SL.boxRows2] at hu
        have hB5 : Below w3.heap.size w3 w' := hG.below'
        obtain ⟨hc5, hf5⟩ := bcell hB5
        have hs5 := hB5.size
        refine SLF.wpo_do (SLF.wanted_free rfl) ?hd1 ?_
        case hd1 => intro c h; cases h
        go_step
        refine (hU1 _ (hp1'.below hB5) (hq1'.below hB5)).mono ?_
        rintro e w6 ⟨v, rfl, hb6, ho6⟩
        exact hK _ v w6 _ (by simp [Act.put]; done) (.of_below hb6) ⟨SL.row_base ho6 hs5, rfl⟩ (fun k hk => .inr (SL.row_bounds ho6 k hk))
      · refine SLG.ob_sp rfl rfl rfl fun us w' Fe hG hu hd Kx hK => ?_
        try dsimp only
        simp [SL.Used, SL.pu, SL.row, SL.box, SL.rowIn, SL.boxIn, SL.boxAt, SL.boxAtIn, SLF.pq, Act.put, SL.rows2, SL.boxRows2] at hu
        have hB5 : Below w3.heap.size w3 w' := hG.below'
        obtain ⟨hc5, hf5⟩ := bcell hB5
        have hs5 := hB5.size
        refine SLF.wpo_do (SLF.wanted_free rfl) ?hd1 ?_
        case hd1 => intro c h; cases h
        go_step
        refine (hU2 _ (hp2'.below hB5) (hq2'.below hB5)).mono ?_
        rintro e w6 ⟨v, rfl, hb6, ho6⟩
        exact hK _ v w6 _ (by simp [Act.put]; done) (.of_below hb6) ⟨SL.row_base ho6 hs5, rfl⟩ (fun k hk => .inr (SL.row_bounds ho6 k hk))
      · refine SLG.ob_sp rfl rfl rfl fun us w' Fe hG hu hd Kx hK => ?_
        try dsimp only
        simp [SL.Used, SL.pu, SL.row, SL.box, SL.rowIn, SL.boxIn, SL.boxAt, SL.boxAtIn, SLF.pq, Act.put, SL.rows2, SL.boxRows2] at hu
        have hB5 : Below w3.heap.size w3 w' := hG.below'
        obtain ⟨hc5, hf5⟩ := bcell hB5
        have hs5 := hB5.size
        refine SLF.wpo_do (SLF.wanted_free rfl) ?hd1 ?_
        case hd1 => intro c h; cases h
        obtain ⟨⟨ho1, e1⟩, ⟨ho2, e2⟩, ⟨e3, _⟩, ⟨e4, _⟩, e5, _⟩ := hu
        obtain ⟨sa1, sc1, e6, _⟩ := owns_slice ho1
        obtain ⟨ra1, rc1, e7, _⟩ := owns_slice ho2
        rw [e6] at ho1 e1
        rw [e7] at ho2 e2
        go_step
        refine hK _ _ _ _ (by simp [Act.put]; done) (SL.Chg.refl _ _) ⟨_, _, rfl, ho1, ho2, rfl⟩ ?_
        intro k hk
        left
        simpa [SL.rows2, e1, e2] using hk
      · refine SLG.ob_sp rfl rfl rfl fun us w' Fe hG hu hd Kx hK => ?_
        try dsimp only
        simp [SL.Used, SL.pu, SL.row, SL.box, SL.rowIn, SL.boxIn, SL.boxAt, SL.boxAtIn, SLF.pq, Act.put, SL.rows2, SL.boxRows2] at hu
        have hB5 : Below w3.heap.size w3 w' := hG.below'
        obtain ⟨hc5, hf5⟩ := bcell hB5
        have hs5 := hB5.size
        refine SLF.wpo_do (SLF.wanted_free rfl) ?hd1 ?_
        case hd1 => intro c h; cases h
        go_step
        exact hK _ _ _ _ (by simp [Act.put]; done) (.alloc _ _ _) ⟨_, rfl, hs5, World.alloc_heap_new _ _, rfl⟩ (by simp)
      · refine SLG.ob_no rfl rfl rfl fun us w' Fe hG hu hd Kx hK => ?_
        try dsimp only
        simp [SL.Used, SL.pu, SL.row, SL.box, SL.rowIn, SL.boxIn, SL.boxAt, SL.boxAtIn, SLF.pq, Act.put, SL.rows2, SL.boxRows2] at hu
        have hB5 : Below w3.heap.size w3 w' := hG.below'
        obtain ⟨hc5, hf5⟩ := bcell hB5
        have hs5 := hB5.size
        refine SLF.wpo_do (SLF.wanted_free rfl) ?hd1 ?_
        case hd1 => intro c h; cases h
        obtain ⟨⟨y, z, u1, u2, u3, u4⟩, N, u5, u6, u7, u8⟩ := hu
        have hd1 := hd 23 24 (by simp [SL.boxRows2]) (by simp [SL.boxRows2]) (by simp)
        rw [u4, u8] at hd1
        have n1 : N ∉ y.ownBlock.toList := fun h => hd1 N (by simp only [List.mem_append]; exact .inl h) (by simp)
        have n2 : N ∉ z.ownBlock.toList := fun h => hd1 N (by simp only [List.mem_append]; exact .inr h) (by simp)
        obtain ⟨sa1, sc1, rfl, _⟩ := owns_slice u2
        obtain ⟨ra1, rc1, rfl, _⟩ := owns_slice u3
        obtain ⟨y0, y1, y2, y3, y4, y5, y6, y7, yf, yl⟩ := cell8w u7
        clear hd1
        go_step
        refine hK _ _ (SLG.chg_set8 _ (by simp [SL.boxRows2, u8]) ..) ⟨N, _, _, u5, u6, SLG.heap_set8 u7 .., ⟨fun h => n1 (by simpa using h), fun h => n2 (by simpa using h)⟩, SLG.row_set8 u2 n1 .., SLG.row_set8 u3 n2 .., rfl⟩ ?_
        · intro k hk
          left
          simp [SL.boxRows2, u4, u8] at hk ⊢
          grind
    case hck1 => kernel_rfl
    case hkp1 => kernel_rfl
    intro us w5 Fs hG hu hbd hd
    simp [SL.Used, SL.boxRows2] at hu
    obtain ⟨N, u5, u6, y, z, u7, ⟨m1, m2⟩, ho1, ho2, _⟩ := hu
    have hB5 : Below w3.heap.size w3 w5 := hG.below'
    obtain ⟨y0, y1, y2, y3, y4, y5, y6, y7, yf, yl⟩ := cell8w u7
    have hcc := (bcell hB5).1
    rw [← hcc _ _ z0] at p1 p2
    rw [← hcc _ _ z1] at q1 q2 q3 q4
    rw [← hcc _ _ z2] at s0 s1 s2 s3 s4 s5 s6 s7
    have f3 : ∀ i, w5.frozen? ⟨w.heap.size + 1 + 1, i, none⟩ = false := fun i => by rw [(bcell hB5).2 _ _ z2]; exact f2 i
    obtain ⟨sa3, sc3, rfl, _⟩ := owns_slice ho1
    obtain ⟨ra3, rc3, rfl, _⟩ := owns_slice ho2
    have l1 : (⟨N, 0, none⟩ : Addr).block ∉ (Value.slice sa3 S.length sc3).ownBlock.toList := fun h => m1 (by simpa using h)
    have l2 : (⟨N, 0, none⟩ : Addr).block ∉ (Value.slice ra3 R.length rc3).ownBlock.toList := fun h => m2 (by simpa using h)
    have l3 : (⟨w.heap.size + 1 + 1, 0, none⟩ : Addr).block ∉ (Value.slice sa3 S.length sc3).ownBlock.toList := fun h => by have := SL.row_bounds ho1 _ h; simp at this; omega
    have l4 : (⟨w.heap.size + 1 + 1, 0, none⟩ : Addr).block ∉ (Value.slice ra3 R.length rc3).ownBlock.toList := fun h => by have := SL.row_bounds ho2 _ h; simp at this; omega
    have ho1 := SL.row_base ho1 hwz
    have ho2 := SL.row_base ho2 hwz
    have L1 := Lib.hid l1
    have L2 := Lib.hid l2
    have L3 := Lib.hid l3
    have L4 := Lib.hid l4
    clear l1 l2 l3 l4 m1 m2
    have hBB := hB3.ch2 hB5
    clear hcc hbd hd hG p0 p3 p4 p5 p6 p7 q0 q5 q6 q7 f2
    have nN0 : w.heap.size ≠ N := by omega
    have nN1 : w.heap.size + 1 ≠ N := by omega
    have nN2 : w.heap.size + 1 + 1 ≠ N := by omega
    have mN0 : N ≠ w.heap.size := by omega
    have mN1 : N ≠ w.heap.size + 1 := by omega
    have mN2 : N ≠ w.heap.size + 1 + 1 := by omega
    have hwN : w.heap.size ≤ N := by omega
    simp only [u5]
    clear u5 u6 z0 z1 hB5
    by_cases a1 : lo < lo2
    · have b1 : decide (lo < lo2) = true := by simpa using a1
      by_cases a2 : hi2 < hi
      · have b2 : decide (hi2 < hi) = true := by simpa using a2
        have hpost := Lib.hid (show ∀ w', Below w.heap.size w w' → OwnPt w' w.heap.size ⟨sa3, sc3, S, lo2, hi2, lob2, hib2, ft2, M, ra3, rc3, R⟩ → MergedPost w ⟨sa, sc, sh, lo, hi, lob, hib, false, fby, ra, rc, re⟩ ⟨sa2, sc2, sh2, lo2, hi2, lob2, hib2, ft2, fby2, ra2, rc2, re2⟩ (.returned (.agg #[.slice sa3 S.length sc3, .int .i64 lo2, .int .i64 hi2, .int .i64 lob2, .int .i64 hib2, .bool ft2, .int .i64 M, .slice ra3 R.length rc3])) w' from fun w' hb ho => by
          refine ⟨sa3, sc3, ra3, rc3, ?_, hb, ?_⟩
          · simp [gluPt, Pt.v, HS.out, HR.out, HM.out, a1, a2]
          · simpa [gluPt, HS.out, HR.out, HM.out, a1, a2] using ho)
        clear a1 a2 HS HR HM
        go_wp2_with fail
        refine bodyPost_ret (v := .agg #[.slice sa3 S.length sc3, .int .i64 lo2, .int .i64 hi2, .int .i64 lob2, .int .i64 hib2, .bool ft2, .int .i64 M, .slice ra3 R.length rc3]) (by simp [results, Tryz.results112, go_sem, *]) rfl (hpost.out _ ?_ ⟨?_, ?_⟩)
        · repeat (refine Below.setCell ?_ (by simp; omega) _)
          exact hBB
        · repeat (refine SL.row_set ?_ (by first | exact L1.out | exact L3.out) _)
          exact ho1
        · repeat (refine SL.row_set ?_ (by first | exact L2.out | exact L4.out) _)
          exact ho2
      · have b2 : decide (hi2 < hi) = false := by simpa using a2
        have hpost := Lib.hid (show ∀ w', Below w.heap.size w w' → OwnPt w' w.heap.size ⟨sa3, sc3, S, lo2, hi, lob2, hib, ft2, M, ra3, rc3, R⟩ → MergedPost w ⟨sa, sc, sh, lo, hi, lob, hib, false, fby, ra, rc, re⟩ ⟨sa2, sc2, sh2, lo2, hi2, lob2, hib2, ft2, fby2, ra2, rc2, re2⟩ (.returned (.agg #[.slice sa3 S.length sc3, .int .i64 lo2, .int .i64 hi, .int .i64 lob2, .int .i64 hib, .bool ft2, .int .i64 M, .slice ra3 R.length rc3])) w' from fun w' hb ho => by
          refine ⟨sa3, sc3, ra3, rc3, ?_, hb, ?_⟩
          · simp [gluPt, Pt.v, HS.out, HR.out, HM.out, a1, a2]
          · simpa [gluPt, HS.out, HR.out, HM.out, a1, a2] using ho)
        clear a1 a2 HS HR HM
        go_wp2_with fail
        refine bodyPost_ret (v := .agg #[.slice sa3 S.length sc3, .int .i64 lo2, .int .i64 hi, .int .i64 lob2, .int .i64 hib, .bool ft2, .int .i64 M, .slice ra3 R.length rc3]) (by simp [results, Tryz.results112, go_sem, *]) rfl (hpost.out _ ?_ ⟨?_, ?_⟩)
        · repeat (refine Below.setCell ?_ (by simp; omega) _)
          exact hBB
        · repeat (refine SL.row_set ?_ (by first | exact L1.out | exact L3.out) _)
          exact ho1
        · repeat (refine SL.row_set ?_ (by first | exact L2.out | exact L4.out) _)
          exact ho2
    · have b1 : decide (lo < lo2) = false := by simpa using a1
      by_cases a2 : hi2 < hi
      · have b2 : decide (hi2 < hi) = true := by simpa using a2
        have hpost := Lib.hid (show ∀ w', Below w.heap.size w w' → OwnPt w' w.heap.size ⟨sa3, sc3, S, lo, hi2, lob, hib2, ft2, M, ra3, rc3, R⟩ → MergedPost w ⟨sa, sc, sh, lo, hi, lob, hib, false, fby, ra, rc, re⟩ ⟨sa2, sc2, sh2, lo2, hi2, lob2, hib2, ft2, fby2, ra2, rc2, re2⟩ (.returned (.agg #[.slice sa3 S.length sc3, .int .i64 lo, .int .i64 hi2, .int .i64 lob, .int .i64 hib2, .bool ft2, .int .i64 M, .slice ra3 R.length rc3])) w' from fun w' hb ho => by
          refine ⟨sa3, sc3, ra3, rc3, ?_, hb, ?_⟩
          · simp [gluPt, Pt.v, HS.out, HR.out, HM.out, a1, a2]
          · simpa [gluPt, HS.out, HR.out, HM.out, a1, a2] using ho)
        clear a1 a2 HS HR HM
        go_wp2_with fail
        refine bodyPost_ret (v := .agg #[.slice sa3 S.length sc3, .int .i64 lo, .int .i64 hi2, .int .i64 lob, .int .i64 hib2, .bool ft2, .int .i64 M, .slice ra3 R.length rc3]) (by simp [results, Tryz.results112, go_sem, *]) rfl (hpost.out _ ?_ ⟨?_, ?_⟩)
        · repeat (refine Below.setCell ?_ (by simp; omega) _)
          exact hBB
        · repeat (refine SL.row_set ?_ (by first | exact L1.out | exact L3.out) _)
          exact ho1
        · repeat (refine SL.row_set ?_ (by first | exact L2.out | exact L4.out) _)
          exact ho2
      · have b2 : decide (hi2 < hi) = false := by simpa using a2
        have hpost := Lib.hid (show ∀ w', Below w.heap.size w w' → OwnPt w' w.heap.size ⟨sa3, sc3, S, lo, hi, lob, hib, ft2, M, ra3, rc3, R⟩ → MergedPost w ⟨sa, sc, sh, lo, hi, lob, hib, false, fby, ra, rc, re⟩ ⟨sa2, sc2, sh2, lo2, hi2, lob2, hib2, ft2, fby2, ra2, rc2, re2⟩ (.returned (.agg #[.slice sa3 S.length sc3, .int .i64 lo, .int .i64 hi, .int .i64 lob, .int .i64 hib, .bool ft2, .int .i64 M, .slice ra3 R.length rc3])) w' from fun w' hb ho => by
          refine ⟨sa3, sc3, ra3, rc3, ?_, hb, ?_⟩
          · simp [gluPt, Pt.v, HS.out, HR.out, HM.out, a1, a2]
          · simpa [gluPt, HS.out, HR.out, HM.out, a1, a2] using ho)
        clear a1 a2 HS HR HM
        go_wp2_with fail
        refine bodyPost_ret (v := .agg #[.slice sa3 S.length sc3, .int .i64 lo, .int .i64 hi, .int .i64 lob, .int .i64 hib, .bool ft2, .int .i64 M, .slice ra3 R.length rc3]) (by simp [results, Tryz.results112, go_sem, *]) rfl (hpost.out _ ?_ ⟨?_, ?_⟩)
        · repeat (refine Below.setCell ?_ (by simp; omega) _)
          exact hBB
        · repeat (refine SL.row_set ?_ (by first | exact L1.out | exact L3.out) _)
          exact ho1
        · repeat (refine SL.row_set ?_ (by first | exact L2.out | exact L4.out) _)
          exact ho2
  · apply SLG.rule0 ?hm2 [] [6, 7, 8, 9, 10, 11, 12, 13, 14, 15, 16, 17, 18, 19, 20, 21, 22, 23, 24, 25, 26, 27, 28, 29, 5] [SLF.pq 6 [] _, SLF.pq 7 [0] _, SLF.pq 8 [] _, SLF.pq 9 [2] _, SL.row 10 [1, 3] [] w3.heap.size 3 1 S.length (S.map (.int .i64)), SLF.pq 11 [] _, SLF.pq 12 [5] _, SLF.pq 13 [] _, SLF.pq 14 [7] _, SL.row 15 [6, 8] [] w3.heap.size 3 1 R.length (R.map (.int .i64)), SLF.pq 16 [] _, SLF.pq 17 [10] _, SLF.pq 18 [] _, SLF.pq 19 [12] _, SLF.pq 20 [13] _, SLF.pq 21 [14] _, SLF.pq 22 [14, 15] _, SLF.pq 23 [14, 16] _, SLF.pq 24 [] _, SLF.pq 25 [18] _, SLF.pq 26 [] _, SLF.pq 27 [20] _, SLF.pq 28 [19, 21] _, SL.rows2 29 [4, 9, 11, 17, 22] [4, 9] w3.heap.size 3 S.length (S.map (.int .i64)) R.length (R.map (.int .i64)) (fun y z => .agg #[y, .int .i64 lo, .int .i64 hi, .int .i64 lob, .int .i64 hib, .bool true, .int .i64 M, z]), SL.box 5 [] [] w3.heap.size 49 #[.slice none 0 0, .int .i64 0, .int .i64 0, .int .i64 0, .int .i64 0, .bool false, .int .i64 0, .slice none 0 0], SL.boxRows2 5 [23, 24] [23, 24] w3.heap.size 49 3 S.length (S.map (.int .i64)) R.length (R.map (.int .i64)) (fun y z => #[y, .int .i64 lo, .int .i64 hi, .int .i64 lob, .int .i64 hib, .bool true, .int .i64 M, z])] [25] ?hck2 ?hkp2 (fun _ => []) ?hin2 ?hdj2 ?hfr2 ?ob2 ?en2
    case hm2 => kernel_rfl
    case hin2 => exact SL.none_held rfl
    case hdj2 => simp
    case hfr2 => intro us; simp only [SL.frame, SL.put']; simp; exact rfl
    case ob2 =>
      refine ⟨?_, ?_, ?_, ?_, ?_, ?_, ?_, ?_, ?_, ?_, ?_, ?_, ?_, ?_, ?_, ?_, ?_, ?_, ?_, ?_, ?_, ?_, ?_, ?_, ?_, ?_, trivial⟩
      all_goals first
        | (intro us w' Fe hG hu hd hv Kx hK
           try dsimp only
           simp [SL.Used, SL.pu, SL.row, SL.box, SL.rowIn, SL.boxIn, SL.boxAt, SL.boxAtIn, SLF.pq, Act.put, SL.rows2, SL.boxRows2] at hu hK
           have hB5 : Below w3.heap.size w3 w' := hG.below'
           obtain ⟨hc5, hf5⟩ := bcell hB5
           have hs5 := hB5.size
           clear hv hG
           first
             | (refine SLF.wpo_do (SLF.wanted_free rfl) ?hd2 ?_; (case hd2 => intro c h; cases h))
             | (refine SLF.wpo_do (SLF.wanted_by rfl rfl ?hv2) ?hd2 ?_; (case hv2 => simp [hu]; done); (case hd2 => intro c h; cases h))
             | (refine' SLF.wpo_not (SLG.wanted_not rfl rfl ?hv2 ?hn2) ?_; (case hv2 => simp [hu]; exact rfl); (case hn2 => first | (simp; done) | (simp [undef]; done)))
           clear hd
           first
             | (go_step; exact hK _ _ _ (SL.Chg.refl _ _) (by first | exact rfl | (simp only [hu]; exact rfl)) rfl (by simp) rfl)
             | exact hK _ _ _ (SL.Chg.refl _ _) rfl rfl (by simp) rfl)
        | skip
      · refine SLG.ob_sp rfl rfl rfl fun us w' Fe hG hu hd Kx hK => ?_
        try dsimp only
        simp [SL.Used, SL.pu, SL.row, SL.box, SL.rowIn, SL.boxIn, SL.boxAt, SL.boxAtIn, SLF.pq, Act.put, SL.rows2, SL.boxRows2] at hu
        have hB5 : Below w3.heap.size w3 w' := hG.below'
        obtain ⟨hc5, hf5⟩ := bcell hB5
        have hs5 := hB5.size
        refine SLF.wpo_do (SLF.wanted_free rfl) ?hd2 ?_
        case hd2 => intro c h; cases h
        go_step
        refine (hU1 _ (hp1'.below hB5) (hq1'.below hB5)).mono ?_
        rintro e w6 ⟨v, rfl, hb6, ho6⟩
        exact hK _ v w6 _ (by simp [Act.put]; done) (.of_below hb6) ⟨SL.row_base ho6 hs5, rfl⟩ (fun k hk => .inr (SL.row_bounds ho6 k hk))
      · refine SLG.ob_sp rfl rfl rfl fun us w' Fe hG hu hd Kx hK => ?_
        try dsimp only
        simp [SL.Used, SL.pu, SL.row, SL.box, SL.rowIn, SL.boxIn, SL.boxAt, SL.boxAtIn, SLF.pq, Act.put, SL.rows2, SL.boxRows2] at hu
        have hB5 : Below w3.heap.size w3 w' := hG.below'
        obtain ⟨hc5, hf5⟩ := bcell hB5
        have hs5 := hB5.size
        refine SLF.wpo_do (SLF.wanted_free rfl) ?hd2 ?_
        case hd2 => intro c h; cases h
        go_step
        refine (hU2 _ (hp2'.below hB5) (hq2'.below hB5)).mono ?_
        rintro e w6 ⟨v, rfl, hb6, ho6⟩
        exact hK _ v w6 _ (by simp [Act.put]; done) (.of_below hb6) ⟨SL.row_base ho6 hs5, rfl⟩ (fun k hk => .inr (SL.row_bounds ho6 k hk))
      · refine SLG.ob_sp rfl rfl rfl fun us w' Fe hG hu hd Kx hK => ?_
        try dsimp only
        simp [SL.Used, SL.pu, SL.row, SL.box, SL.rowIn, SL.boxIn, SL.boxAt, SL.boxAtIn, SLF.pq, Act.put, SL.rows2, SL.boxRows2] at hu
        have hB5 : Below w3.heap.size w3 w' := hG.below'
        obtain ⟨hc5, hf5⟩ := bcell hB5
        have hs5 := hB5.size
        refine SLF.wpo_do (SLF.wanted_free rfl) ?hd2 ?_
        case hd2 => intro c h; cases h
        obtain ⟨⟨ho1, e1⟩, ⟨ho2, e2⟩, ⟨e3, _⟩, ⟨e4, _⟩, e5, _⟩ := hu
        obtain ⟨sa1, sc1, e6, _⟩ := owns_slice ho1
        obtain ⟨ra1, rc1, e7, _⟩ := owns_slice ho2
        rw [e6] at ho1 e1
        rw [e7] at ho2 e2
        go_step
        refine hK _ _ _ _ (by simp [Act.put]; done) (SL.Chg.refl _ _) ⟨_, _, rfl, ho1, ho2, rfl⟩ ?_
        intro k hk
        left
        simpa [SL.rows2, e1, e2] using hk
      · refine SLG.ob_sp rfl rfl rfl fun us w' Fe hG hu hd Kx hK => ?_
        try dsimp only
        simp [SL.Used, SL.pu, SL.row, SL.box, SL.rowIn, SL.boxIn, SL.boxAt, SL.boxAtIn, SLF.pq, Act.put, SL.rows2, SL.boxRows2] at hu
        have hB5 : Below w3.heap.size w3 w' := hG.below'
        obtain ⟨hc5, hf5⟩ := bcell hB5
        have hs5 := hB5.size
        refine SLF.wpo_do (SLF.wanted_free rfl) ?hd2 ?_
        case hd2 => intro c h; cases h
        go_step
        exact hK _ _ _ _ (by simp [Act.put]; done) (.alloc _ _ _) ⟨_, rfl, hs5, World.alloc_heap_new _ _, rfl⟩ (by simp)
      · refine SLG.ob_no rfl rfl rfl fun us w' Fe hG hu hd Kx hK => ?_
        try dsimp only
        simp [SL.Used, SL.pu, SL.row, SL.box, SL.rowIn, SL.boxIn, SL.boxAt, SL.boxAtIn, SLF.pq, Act.put, SL.rows2, SL.boxRows2] at hu
        have hB5 : Below w3.heap.size w3 w' := hG.below'
        obtain ⟨hc5, hf5⟩ := bcell hB5
        have hs5 := hB5.size
        refine SLF.wpo_do (SLF.wanted_free rfl) ?hd2 ?_
        case hd2 => intro c h; cases h
        obtain ⟨⟨y, z, u1, u2, u3, u4⟩, N, u5, u6, u7, u8⟩ := hu
        have hd1 := hd 23 24 (by simp [SL.boxRows2]) (by simp [SL.boxRows2]) (by simp)
        rw [u4, u8] at hd1
        have n1 : N ∉ y.ownBlock.toList := fun h => hd1 N (by simp only [List.mem_append]; exact .inl h) (by simp)
        have n2 : N ∉ z.ownBlock.toList := fun h => hd1 N (by simp only [List.mem_append]; exact .inr h) (by simp)
        obtain ⟨sa1, sc1, rfl, _⟩ := owns_slice u2
        obtain ⟨ra1, rc1, rfl, _⟩ := owns_slice u3
        obtain ⟨y0, y1, y2, y3, y4, y5, y6, y7, yf, yl⟩ := cell8w u7
        clear hd1
        go_step
        refine hK _ _ (SLG.chg_set8 _ (by simp [SL.boxRows2, u8]) ..) ⟨N, _, _, u5, u6, SLG.heap_set8 u7 .., ⟨fun h => n1 (by simpa using h), fun h => n2 (by simpa using h)⟩, SLG.row_set8 u2 n1 .., SLG.row_set8 u3 n2 .., rfl⟩ ?_
        · intro k hk
          left
          simp [SL.boxRows2, u4, u8] at hk ⊢
          grind
    case hck2 => kernel_rfl
    case hkp2 => kernel_rfl
    intro us w5 Fs hG hu hbd hd
    simp [SL.Used, SL.boxRows2] at hu
    obtain ⟨N, u5, u6, y, z, u7, ⟨m1, m2⟩, ho1, ho2, _⟩ := hu
    have hB5 : Below w3.heap.size w3 w5 := hG.below'
    obtain ⟨y0, y1, y2, y3, y4, y5, y6, y7, yf, yl⟩ := cell8w u7
    have hcc := (bcell hB5).1
    rw [← hcc _ _ z0] at p1 p2
    rw [← hcc _ _ z1] at q1 q2 q3 q4
    rw [← hcc _ _ z2] at s0 s1 s2 s3 s4 s5 s6 s7
    have f3 : ∀ i, w5.frozen? ⟨w.heap.size + 1 + 1, i, none⟩ = false := fun i => by rw [(bcell hB5).2 _ _ z2]; exact f2 i
    obtain ⟨sa3, sc3, rfl, _⟩ := owns_slice ho1
    obtain ⟨ra3, rc3, rfl, _⟩ := owns_slice ho2
    have l1 : (⟨N, 0, none⟩ : Addr).block ∉ (Value.slice sa3 S.length sc3).ownBlock.toList := fun h => m1 (by simpa using h)
    have l2 : (⟨N, 0, none⟩ : Addr).block ∉ (Value.slice ra3 R.length rc3).ownBlock.toList := fun h => m2 (by simpa using h)
    have l3 : (⟨w.heap.size + 1 + 1, 0, none⟩ : Addr).block ∉ (Value.slice sa3 S.length sc3).ownBlock.toList := fun h => by have := SL.row_bounds ho1 _ h; simp at this; omega
    have l4 : (⟨w.heap.size + 1 + 1, 0, none⟩ : Addr).block ∉ (Value.slice ra3 R.length rc3).ownBlock.toList := fun h => by have := SL.row_bounds ho2 _ h; simp at this; omega
    have ho1 := SL.row_base ho1 hwz
    have ho2 := SL.row_base ho2 hwz
    have L1 := Lib.hid l1
    have L2 := Lib.hid l2
    have L3 := Lib.hid l3
    have L4 := Lib.hid l4
    clear l1 l2 l3 l4 m1 m2
    have hBB := hB3.ch2 hB5
    clear hcc hbd hd hG p0 p3 p4 p5 p6 p7 q0 q5 q6 q7 f2
    have nN0 : w.heap.size ≠ N := by omega
    have nN1 : w.heap.size + 1 ≠ N := by omega
    have nN2 : w.heap.size + 1 + 1 ≠ N := by omega
    have mN0 : N ≠ w.heap.size := by omega
    have mN1 : N ≠ w.heap.size + 1 := by omega
    have mN2 : N ≠ w.heap.size + 1 + 1 := by omega
    have hwN : w.heap.size ≤ N := by omega
    simp only [u5]
    clear u5 u6 z0 z1 hB5
    by_cases a1 : lo < lo2
    · have b1 : decide (lo < lo2) = true := by simpa using a1
      by_cases a2 : hi2 < hi
      · have b2 : decide (hi2 < hi) = true := by simpa using a2
        have hpost := Lib.hid (show ∀ w', Below w.heap.size w w' → OwnPt w' w.heap.size ⟨sa3, sc3, S, lo2, hi2, lob2, hib2, true, M, ra3, rc3, R⟩ → MergedPost w ⟨sa, sc, sh, lo, hi, lob, hib, true, fby, ra, rc, re⟩ ⟨sa2, sc2, sh2, lo2, hi2, lob2, hib2, ft2, fby2, ra2, rc2, re2⟩ (.returned (.agg #[.slice sa3 S.length sc3, .int .i64 lo2, .int .i64 hi2, .int .i64 lob2, .int .i64 hib2, .bool true, .int .i64 M, .slice ra3 R.length rc3])) w' from fun w' hb ho => by
          refine ⟨sa3, sc3, ra3, rc3, ?_, hb, ?_⟩
          · simp [gluPt, Pt.v, HS.out, HR.out, HM.out, a1, a2]
          · simpa [gluPt, HS.out, HR.out, HM.out, a1, a2] using ho)
        clear a1 a2 HS HR HM
        go_wp2_with fail
        refine bodyPost_ret (v := .agg #[.slice sa3 S.length sc3, .int .i64 lo2, .int .i64 hi2, .int .i64 lob2, .int .i64 hib2, .bool true, .int .i64 M, .slice ra3 R.length rc3]) (by simp [results, Tryz.results112, go_sem, *]) rfl (hpost.out _ ?_ ⟨?_, ?_⟩)
        · repeat (refine Below.setCell ?_ (by simp; omega) _)
          exact hBB
        · repeat (refine SL.row_set ?_ (by first | exact L1.out | exact L3.out) _)
          exact ho1
        · repeat (refine SL.row_set ?_ (by first | exact L2.out | exact L4.out) _)
          exact ho2
      · have b2 : decide (hi2 < hi) = false := by simpa using a2
        have hpost := Lib.hid (show ∀ w', Below w.heap.size w w' → OwnPt w' w.heap.size ⟨sa3, sc3, S, lo2, hi, lob2, hib, true, M, ra3, rc3, R⟩ → MergedPost w ⟨sa, sc, sh, lo, hi, lob, hib, true, fby, ra, rc, re⟩ ⟨sa2, sc2, sh2, lo2, hi2, lob2, hib2, ft2, fby2, ra2, rc2, re2⟩ (.returned (.agg #[.slice sa3 S.length sc3, .int .i64 lo2, .int .i64 hi, .int .i64 lob2, .int .i64 hib, .bool true, .int .i64 M, .slice ra3 R.length rc3])) w' from fun w' hb ho => by
          refine ⟨sa3, sc3, ra3, rc3, ?_, hb, ?_⟩
          · simp [gluPt, Pt.v, HS.out, HR.out, HM.out, a1, a2]
          · simpa [gluPt, HS.out, HR.out, HM.out, a1, a2] using ho)
        clear a1 a2 HS HR HM
        go_wp2_with fail
        refine bodyPost_ret (v := .agg #[.slice sa3 S.length sc3, .int .i64 lo2, .int .i64 hi, .int .i64 lob2, .int .i64 hib, .bool true, .int .i64 M, .slice ra3 R.length rc3]) (by simp [results, Tryz.results112, go_sem, *]) rfl (hpost.out _ ?_ ⟨?_, ?_⟩)
        · repeat (refine Below.setCell ?_ (by simp; omega) _)
          exact hBB
        · repeat (refine SL.row_set ?_ (by first | exact L1.out | exact L3.out) _)
          exact ho1
        · repeat (refine SL.row_set ?_ (by first | exact L2.out | exact L4.out) _)
          exact ho2
    · have b1 : decide (lo < lo2) = false := by simpa using a1
      by_cases a2 : hi2 < hi
      · have b2 : decide (hi2 < hi) = true := by simpa using a2
        have hpost := Lib.hid (show ∀ w', Below w.heap.size w w' → OwnPt w' w.heap.size ⟨sa3, sc3, S, lo, hi2, lob, hib2, true, M, ra3, rc3, R⟩ → MergedPost w ⟨sa, sc, sh, lo, hi, lob, hib, true, fby, ra, rc, re⟩ ⟨sa2, sc2, sh2, lo2, hi2, lob2, hib2, ft2, fby2, ra2, rc2, re2⟩ (.returned (.agg #[.slice sa3 S.length sc3, .int .i64 lo, .int .i64 hi2, .int .i64 lob, .int .i64 hib2, .bool true, .int .i64 M, .slice ra3 R.length rc3])) w' from fun w' hb ho => by
          refine ⟨sa3, sc3, ra3, rc3, ?_, hb, ?_⟩
          · simp [gluPt, Pt.v, HS.out, HR.out, HM.out, a1, a2]
          · simpa [gluPt, HS.out, HR.out, HM.out, a1, a2] using ho)
        clear a1 a2 HS HR HM
        go_wp2_with fail
        refine bodyPost_ret (v := .agg #[.slice sa3 S.length sc3, .int .i64 lo, .int .i64 hi2, .int .i64 lob, .int .i64 hib2, .bool true, .int .i64 M, .slice ra3 R.length rc3]) (by simp [results, Tryz.results112, go_sem, *]) rfl (hpost.out _ ?_ ⟨?_, ?_⟩)
        · repeat (refine Below.setCell ?_ (by simp; omega) _)
          exact hBB
        · repeat (refine SL.row_set ?_ (by first | exact L1.out | exact L3.out) _)
          exact ho1
        · repeat (refine SL.row_set ?_ (by first | exact L2.out | exact L4.out) _)
          exact ho2
      · have b2 : decide (hi2 < hi) = false := by simpa using a2
        have hpost := Lib.hid (show ∀ w', Below w.heap.size w w' → OwnPt w' w.heap.size ⟨sa3, sc3, S, lo, hi, lob, hib, true, M, ra3, rc3, R⟩ → MergedPost w ⟨sa, sc, sh, lo, hi, lob, hib, true, fby, ra, rc, re⟩ ⟨sa2, sc2, sh2, lo2, hi2, lob2, hib2, ft2, fby2, ra2, rc2, re2⟩ (.returned (.agg #[.slice sa3 S.length sc3, .int .i64 lo, .int .i64 hi, .int .i64 lob, .int .i64 hib, .bool true, .int .i64 M, .slice ra3 R.length rc3])) w' from fun w' hb ho => by
          refine ⟨sa3, sc3, ra3, rc3, ?_, hb, ?_⟩
          · simp [gluPt, Pt.v, HS.out, HR.out, HM.out, a1, a2]
          · simpa [gluPt, HS.out, HR.out, HM.out, a1, a2] using ho)
        clear a1 a2 HS HR HM
        go_wp2_with fail
        refine bodyPost_ret (v := .agg #[.slice sa3 S.length sc3, .int .i64 lo, .int .i64 hi, .int .i64 lob, .int .i64 hib, .bool true, .int .i64 M, .slice ra3 R.length rc3]) (by simp [results, Tryz.results112, go_sem, *]) rfl (hpost.out _ ?_ ⟨?_, ?_⟩)
        · repeat (refine Below.setCell ?_ (by simp; omega) _)
          exact hBB
        · repeat (refine SL.row_set ?_ (by first | exact L1.out | exact L3.out) _)
          exact ho1
        · repeat (refine SL.row_set ?_ (by first | exact L2.out | exact L4.out) _)
          exact ho2
end Go.Proofs.YtodkbfbbpfghiaaGreat
/-
  Words of the regions' rule made of parts: rows, blocks, pure facts, put side by side; parts whose lists are their own.
-/
namespace Go.Proofs.YtodkbfbbpfghiaaGreat.SL
open Go Go.RowKit Go.Proofs.YtodkbfbbpfghiaaGreat

/-- What holds of a world, and the blocks that it holds for itself. -/
structure As where
  A : World → List Nat → Prop
  st : ∀ (w w' : World) (F : List Nat), A w F → (∀ k ∈ F, w'.heap[k]? = w.heap[k]?) → w.heap.size ≤ w'.heap.size → A w' F
abbrev As.row (base : Nat) (t : TypeId) (size : Nat) (v : Value) (n : Nat) (xs : List Value) : As :=
  { A := fun w F => w.ownsRow base t size v n xs ∧ F = v.ownBlock.toList, st := fun _ _ _ h hk _ => ⟨row_stab h.1 (h.2 ▸ hk), h.2⟩ }
abbrev As.blk (base N : Nat) (t : TypeId) (cs : Array Value) : As :=
  { A := fun w F => base ≤ N ∧ w.heap[N]? = some (.cells cs t (0, 0)) ∧ F = [N], st := by rintro w w' F ⟨hb, h, rfl⟩ hk _; exact ⟨hb, by rw [hk N (by simp)]; exact h, rfl⟩ }
abbrev As.pure (p : Prop) : As := { A := fun _ F => p ∧ F = [], st := fun _ _ _ h _ _ => h }
abbrev As.sep (a b : As) : As :=
  { A := fun w F => ∃ F1 F2, a.A w F1 ∧ b.A w F2 ∧ F = F1 ++ F2,
    st := by
      rintro w w' F ⟨F1, F2, h1, h2, rfl⟩ hk hs
      exact ⟨F1, F2, a.st _ _ _ h1 (fun k h => hk k (List.mem_append.2 (.inl h))) hs, b.st _ _ _ h2 (fun k h => hk k (List.mem_append.2 (.inr h))) hs, rfl⟩ }
/-- The same, and no block is held twice. -/
abbrev As.sepd (a b : As) : As :=
  { A := fun w F => ∃ F1 F2, a.A w F1 ∧ b.A w F2 ∧ (∀ k ∈ F1, k ∉ F2) ∧ F = F1 ++ F2,
    st := by
      rintro w w' F ⟨F1, F2, h1, h2, hd, rfl⟩ hk hs
      exact ⟨F1, F2, a.st _ _ _ h1 (fun k h => hk k (List.mem_append.2 (.inl h))) hs, b.st _ _ _ h2 (fun k h => hk k (List.mem_append.2 (.inr h))) hs, hd, rfl⟩ }
abbrev As.ex {α : Type} (f : α → As) : As := { A := fun w F => ∃ x, (f x).A w F, st := fun w w' F h hk hs => h.elim fun x hx => ⟨x, (f x).st w w' F hx hk hs⟩ }
def aw (s : Nat) (u e : List Nat) (f : Value → As) : Sp := { sub := s, use := u, eat := e, A := fun x => (f x).A, st := fun v => (f v).st }
theorem aw_sub (s : Nat) (u e : List Nat) (f : Value → As) : (aw s u e f).sub = s := rfl
theorem aw_use (s : Nat) (u e : List Nat) (f : Value → As) : (aw s u e f).use = u := rfl
theorem aw_eat (s : Nat) (u e : List Nat) (f : Value → As) : (aw s u e f).eat = e := rfl
theorem aw_V (s : Nat) (u e : List Nat) (f : Value → As) : (aw s u e f).V = fun _ => True := rfl
theorem aw_quiet (s : Nat) (u e : List Nat) (f : Value → As) : (aw s u e f).quiet = false := rfl
theorem aw_in {s : Nat} {u e : List Nat} {f : Value → As} {v : Value} {w : World} {F : List Nat} (h : (f v).A w F) : (aw s u e f).A v w F := h
theorem aw_out {s : Nat} {u e : List Nat} {f : Value → As} {v : Value} {w : World} {F : List Nat} (h : (aw s u e f).A v w F) : (f v).A w F := h

/-- A row is held from the beginning. -/
theorem row_held {ops : List Oper} {Γ : List Sp} {a0 : Act} {w : World} {x : Sp} {v : Value} {base n size : Nat} {t : TypeId} {xs : List Value} (h : Γ.length = ops.length + 1) (hx : Γ[ops.length]? = some x)
    (hA : x.A (a0.tmps.getD x.sub undef) w.drew v.ownBlock.toList) (hr : w.ownsRow base t size v n xs) :
    ∀ i y, ops.length ≤ i → Γ[i]? = some y → y.A (a0.tmps.getD y.sub undef) w.drew ((fun i => if i = ops.length then v.ownBlock.toList else []) i) ∧ ∀ k ∈ (fun i => if i = ops.length then v.ownBlock.toList else []) i, k ∈ v.ownBlock.toList ∧ k < w.heap.size := by
  intro i y hi hy
  by_cases e : i = ops.length
  · subst e
    rw [hx] at hy
    cases hy
    simp only [if_pos]
    exact ⟨hA, fun k hk => ⟨hk, (row_bounds hr k hk).2⟩⟩
  · rw [List.getElem?_eq_none (by omega)] at hy
    cases hy
theorem held_apart {n : Nat} {F : List Nat} : ∀ i j, i ≠ j → n ≤ i → n ≤ j → ∀ k ∈ (fun i => if i = n then F else []) i, k ∉ (fun i => if i = n then F else []) j := by
  intro i j hij _ _ k hk
  simp only at hk ⊢
  split at hk
  · rw [if_neg (by omega)]; simp
  · simp at hk
end Go.Proofs.YtodkbfbbpfghiaaGreat.SL
namespace Go.Proofs.YtodkbfbbpfghiaaGreat
open Go Go.RowKit
/-- The blocks of a part's lists. -/
def Pt.blocks (p : Pt) : List Nat := (Value.slice p.sa p.sh.length p.sc).ownBlock.toList ++ (Value.slice p.ra p.re.length p.rc).ownBlock.toList
theorem OwnPt.stab {w w' : World} {base : Nat} {p : Pt} (h : OwnPt w base p) (hk : ∀ k ∈ p.blocks, w'.heap[k]? = w.heap[k]?) : OwnPt w' base p :=
  ⟨SL.row_stab h.sh fun k hm => hk k (List.mem_append.2 (.inl hm)), SL.row_stab h.re fun k hm => hk k (List.mem_append.2 (.inr hm))⟩
theorem OwnPt.base {w : World} {base base' : Nat} {p : Pt} (h : OwnPt w base p) (hb : base' ≤ base) : OwnPt w base' p := ⟨SL.row_base h.sh hb, SL.row_base h.re hb⟩
theorem OwnPt.bounds {w : World} {base : Nat} {p : Pt} (h : OwnPt w base p) : ∀ k ∈ p.blocks, base ≤ k ∧ k < w.heap.size := fun k hk => by
  rcases List.mem_append.1 hk with hk | hk
  · exact SL.row_bounds h.sh k hk
  · exact SL.row_bounds h.re k hk
abbrev SL.As.own (base : Nat) (p : Pt) : SL.As := { A := fun w F => OwnPt w base p ∧ F = p.blocks, st := fun _ _ _ h hk _ => ⟨h.1.stab (h.2 ▸ hk), h.2⟩ }
/-- Two parts as one, wherever its lists lie. -/
def GluOf (g p q : Pt) : Prop := ∃ sa sc ra rc, g = gluPt sa sc ra rc p q
theorem grown_other {w w' : World} {v : Value} (h : w.grownBy w' v.ownBlock) {k : Nat} (hk : k < w.heap.size) (hn : k ∉ v.ownBlock.toList) : w'.heap[k]? = w.heap[k]? :=
  h.block k hk fun e => hn (by simp [← e])
end Go.Proofs.YtodkbfbbpfghiaaGreat
