/-
  Lemmas and walks for the laws on roads and boards: what each function of the program answers, for every input.
-/
import Derived.Test.YtodkbfbbpfghiaaGreatPc06
import Derived.Test.YtodkbfbbpfghiaaGreatPc05
import Derived.Lib.SlicesCompact
set_option linter.unusedSimpArgs false
set_option linter.unusedVariables false
set_option linter.unnecessarySimpa false
namespace Go.Proofs.YtodkbfbbpfghiaaGreat
open Go.RowKit Go.Shelf
set_option maxHeartbeats 4000000
set_option maxRecDepth 100000
theorem r6sameInts (a1 a2 : Option Addr) (n1 n2 c1 c2 : Nat) (xs : List Int) (w : World) (hx : LAt w a1 n1 c1 xs) (hy : LAt w a2 n2 c2 xs) :
    Calls Tryz.prog 30 #[.slice a1 n1 c1, .slice a2 n2 c2] w fun e w' => e = .returned (.bool true) ∧ Below w.heap.size w w' := by
  have hlx := hx.small
  obtain rfl := hx.len
  obtain rfl := hy.len
  go_enter Tryz.func30, Tryz.ntmps30
  go_wp2_with fail
  go_loopw [5] (fun i wr => ∃ k : Nat, k ≤ xs.length ∧ i = .int .i64 k ∧ Below w.heap.size w wr) (fun i _ => xs.length - (RowKit.intOf i).toNat)
  case atStart => exact ⟨0, Nat.zero_le _, rfl, Below.refl _ _⟩
  case round =>
    obtain ⟨k, hk, rfl, hB⟩ := hrel
    by_cases hlt : k < xs.length
    · obtain ⟨b1, o1, rfl, _, d0⟩ := (hx.below hB).get hlt
      obtain ⟨b2, o2, rfl, _, d1⟩ := (hy.below hB).get hlt
      have hnn : (0 : Int) ≤ k := by omega
      have i1 : (k : Int) < (xs.length : Int) := by omega
      generalize xs.getD k 0 = u at *
      have e' : (u != u) = false := by simp
      go_wp2_with fail
      go_quiet (fail)
      go_wp2
      go_roundw
      case rel => exact ⟨k + 1, by omega, by go_num, belowN hB⟩
      case measure => simp [RowKit.intOf]; omega
    · go_wp2_with fail
      go_ret
      exact ⟨rfl, hB⟩
theorem eqRg (w : World) (x y : Int) : (Op.equalIn 10000 33 (.agg #[.int .i64 x, .int .i64 y]) (.agg #[.int .i64 x, .int .i64 y])).run Tryz.prog w = .ok true w := by
  rw [show (10000 : Nat) = 9999 + 1 from rfl, run_equalIn_struct w 9999 _ _ _ (by kernel_rfl) (by kernel_rfl)]
  simp [go_sem, Op.eqFields, Program.fieldsOf, Tryz.underlying33, Tryz.underlying3]
theorem gdRg : Tryz.prog.eqGuardType Tryz.prog.depth 33 = false := by kernel_rfl
theorem eqSp (w : World) (x y z u : Int) : (Op.equalIn 10000 47 (.agg #[.int .i64 x, .int .i64 y, .int .i64 z, .int .i64 u]) (.agg #[.int .i64 x, .int .i64 y, .int .i64 z, .int .i64 u])).run Tryz.prog w = .ok true w := by
  rw [show (10000 : Nat) = 9999 + 1 from rfl, run_equalIn_struct w 9999 _ _ _ (by kernel_rfl) (by kernel_rfl)]
  simp [go_sem, Op.eqFields, Program.fieldsOf, Tryz.underlying47, Tryz.underlying3]
theorem gdSp : Tryz.prog.eqGuardType Tryz.prog.depth 47 = false := by kernel_rfl
theorem r6sameRanges (a1 a2 : Option Addr) (n1 n2 c1 c2 : Nat) (rs : List (Int × Int)) (w : World) (hx : RngsAt w a1 n1 c1 rs) (hy : RngsAt w a2 n2 c2 rs) :
    Calls Tryz.prog 63 #[.slice a1 n1 c1, .slice a2 n2 c2] w fun e w' => e = .returned (.bool true) ∧ Below w.heap.size w w' := by
  have hlx := hx.small
  obtain rfl := hx.len
  obtain rfl := hy.len
  go_enter Tryz.func63, Tryz.ntmps63
  go_wp2_with fail
  go_loopw [5] (fun i wr => ∃ k : Nat, k ≤ rs.length ∧ i = .int .i64 k ∧ Below w.heap.size w wr) (fun i _ => rs.length - (RowKit.intOf i).toNat)
  case atStart => exact ⟨0, Nat.zero_le _, rfl, Below.refl _ _⟩
  case round =>
    obtain ⟨k, hk, rfl, hB⟩ := hrel
    by_cases hlt : k < rs.length
    · obtain ⟨b1, o1, rfl, _, d0, d1⟩ := (hx.below hB).get hlt
      obtain ⟨b2, o2, rfl, _, e0, e1⟩ := (hy.below hB).get hlt
      have hnn : (0 : Int) ≤ k := by omega
      have i1 : (k : Int) < (rs.length : Int) := by omega
      have hq := fun w => eqRg w (rs.getD k default).1 (rs.getD k default).2
      have gd := gdRg
      generalize (rs.getD k default).1 = u at *
      generalize (rs.getD k default).2 = v at *
      go_wp2_with fail
      go_quiet (fail)
      go_wp2
      go_roundw
      case rel => exact ⟨k + 1, by omega, by go_num, belowN hB⟩
      case measure => simp [RowKit.intOf]; omega
    · go_wp2_with fail
      go_ret
      exact ⟨rfl, hB⟩

/-- Two parts that hold the same, wherever their lists lie. -/
structure SameP (p q : Pt) : Prop where
  sh : p.sh = q.sh
  re : p.re = q.re
  lo : p.lo = q.lo
  hi : p.hi = q.hi
  lob : p.lob = q.lob
  hib : p.hib = q.hib
  ft : p.ft = q.ft
  fby : p.fby = q.fby
theorem SameP.refl (p : Pt) : SameP p p := ⟨rfl, rfl, rfl, rfl, rfl, rfl, rfl, rfl⟩
/-- Two cases that hold the same. -/
structure SameC (c d : Cs) : Prop where
  ware : c.ware = d.ware
  lim : c.lim = d.lim
  byr : c.byr = d.byr
  len : c.ps.length = d.ps.length
  each : ∀ i, i < c.ps.length → SameP (c.ps.getD i default) (d.ps.getD i default)
end Go.Proofs.YtodkbfbbpfghiaaGreat
namespace Go.Proofs.YtodkbfbbpfghiaaGreat
open Go
/-- Two parts as one; its lists lie where said. -/
def gluPt (sa : Option Addr) (sc : Nat) (ra : Option Addr) (rc : Nat) (p q : Pt) : Pt :=
  { sa := sa, sc := sc, sh := ascOf (p.sh ++ q.sh), lo := if p.lo < q.lo then q.lo else p.lo, hi := if q.hi < p.hi then q.hi else p.hi,
    lob := if p.lo < q.lo then q.lob else p.lob, hib := if q.hi < p.hi then q.hib else p.hib, ft := p.ft || q.ft, fby := max p.fby q.fby, ra := ra, rc := rc, re := ascOf (p.re ++ q.re) }
theorem gluPt_n (sa : Option Addr) (sc : Nat) (ra : Option Addr) (rc : Nat) (p q : Pt) : (gluPt sa sc ra rc p q).n = gluP p.n q.n := by
  unfold gluPt gluP Pt.n
  simp only [Pn.mk.injEq]
  refine ⟨?_, ?_, trivial⟩ <;> split <;> omega
theorem map_erase {α β : Type} (f : α → β) : ∀ (l : List α) (i : Nat), (l.eraseIdx i).map f = (l.map f).eraseIdx i
  | [], _ => rfl
  | x :: l, 0 => rfl
  | x :: l, i + 1 => by simp [map_erase f l i]
theorem pns_erase (ps : List Pt) (a : Nat) : pns (ps.eraseIdx a) = (pns ps).eraseIdx a := map_erase _ _ _
def mixPt (ps : List Pt) (a b : Nat) (g : Pt) : List Pt := (ps.set a g).eraseIdx b
theorem mixPt_len {ps : List Pt} {a b : Nat} {g : Pt} (hb : b < ps.length) : (mixPt ps a b g).length = ps.length - 1 := by
  unfold mixPt; rw [List.length_eraseIdx]; simp [hb]
theorem getD_erasePt {s : List Pt} {a : Nat} (i : Nat) : (s.eraseIdx a).getD i default = s.getD (upI a i) default := by
  simp only [List.getD_eq_getElem?_getD, List.getElem?_eraseIdx, upI]
  split <;> rfl
theorem mixPt_get {ps : List Pt} {a b i : Nat} {g : Pt} (hab : a < b) (hb : b < ps.length) : (mixPt ps a b g).getD i default = if i = a then g else ps.getD (upI b i) default := by
  unfold mixPt
  rw [getD_erasePt]
  simp only [List.getD_eq_getElem?_getD, List.getElem?_set]
  unfold upI
  by_cases e : i = a
  · subst e; rw [if_pos hab]; have : i < ps.length := by omega
    simp [this]
  · rw [if_neg e, if_neg (by split <;> omega)]
theorem mixPt_pns {ps : List Pt} {a b : Nat} {g : Pt} (ha : a < ps.length) (hb : b < ps.length) (hg : g.n = gluP (ps.getD a default).n (ps.getD b default).n) : pns (mixPt ps a b g) = merS (pns ps) a b := by
  unfold mixPt merS
  rw [pns_get ps ha, pns_get ps hb, ← hg, pns_erase]
  simp [pns, List.map_set]
theorem SameP.n {p q : Pt} (h : SameP p q) : p.n = q.n := by unfold Pt.n; rw [h.lo, h.hi, h.ft]
theorem SameP.symm {p q : Pt} (h : SameP p q) : SameP q p := ⟨h.sh.symm, h.re.symm, h.lo.symm, h.hi.symm, h.lob.symm, h.hib.symm, h.ft.symm, h.fby.symm⟩
theorem SameP.trans {p q r : Pt} (h : SameP p q) (k : SameP q r) : SameP p r := ⟨h.sh.trans k.sh, h.re.trans k.re, h.lo.trans k.lo, h.hi.trans k.hi, h.lob.trans k.lob, h.hib.trans k.hib, h.ft.trans k.ft, h.fby.trans k.fby⟩
theorem SameC.symm {c d : Cs} (h : SameC c d) : SameC d c := ⟨h.ware.symm, h.lim.symm, h.byr.symm, h.len.symm, fun i hi => (h.each i (by rw [h.len]; exact hi)).symm⟩
theorem SameC.trans {c d e : Cs} (h : SameC c d) (k : SameC d e) : SameC c e := ⟨h.ware.trans k.ware, h.lim.trans k.lim, h.byr.trans k.byr, h.len.trans k.len, fun i hi => (h.each i hi).trans (k.each i (by rw [← h.len]; exact hi))⟩
theorem SameC.refl (c : Cs) : SameC c c := ⟨rfl, rfl, rfl, rfl, fun _ _ => SameP.refl _⟩
/-- What a part holds, wherever its lists lie. -/
def Pt.bare (p : Pt) : Pt := ⟨none, 0, p.sh, p.lo, p.hi, p.lob, p.hib, p.ft, p.fby, none, 0, p.re⟩
theorem SameP.bare {p q : Pt} : SameP p q ↔ p.bare = q.bare := by
  unfold Pt.bare
  constructor
  · rintro ⟨a, b, c, d, e, f, g, h⟩; rw [a, b, c, d, e, f, g, h]
  · intro h; simp only [Pt.mk.injEq, true_and] at h
    exact ⟨h.1, h.2.2.2.2.2.2.2, h.2.1, h.2.2.1, h.2.2.2.1, h.2.2.2.2.1, h.2.2.2.2.2.1, h.2.2.2.2.2.2.1⟩
theorem SameC.bares {c d : Cs} (h : SameC c d) : c.ps.map Pt.bare = d.ps.map Pt.bare := by
  apply List.ext_getElem
  · simpa using h.len
  · intro i h1 h2
    have := SameP.bare.1 (h.each i (by simpa using h1))
    simp only [List.length_map] at h1 h2
    simpa [List.getD_eq_getElem?_getD, h1, h2] using this
theorem disB_bare : ∀ (ps : List Pt), disB (ps.map Pt.bare) = disB ps
  | [] => rfl
  | p :: l => by
    have ih := disB_bare l
    simp only [List.map_cons, disB, ih, List.all_map]
    rfl
theorem cchk_bare (ware : List UInt8) (lim by_ : Int) (ps : List Pt) : cchk ware lim by_ (ps.map Pt.bare) = cchk ware lim by_ ps := by
  unfold cchk
  rw [disB_bare, List.length_map, List.all_map]
  rfl
theorem pns_bare (ps : List Pt) : pns (ps.map Pt.bare) = pns ps := by
  unfold pns; rw [List.map_map]; rfl
theorem SameC.chk {c d : Cs} (h : SameC c d) : c.chk = d.chk := by
  unfold Cs.chk
  rw [← cchk_bare, ← cchk_bare _ _ _ d.ps, h.bares, h.ware, h.lim, h.byr]
theorem SameC.s {c d : Cs} (h : SameC c d) : c.s = d.s := by
  unfold Cs.s
  rw [← pns_bare, ← pns_bare d.ps, h.bares]

/-- Sherds of different parts are different. -/
theorem dis_iff {ps : List Pt} : disB ps = true ↔ ∀ i k, k ≠ i → i < ps.length → k < ps.length → ∀ x ∈ (ps.getD k default).sh, x ∉ (ps.getD i default).sh := by
  rw [disB_iff]
  constructor
  · intro h i k hki hi hk x hx hn
    rcases (by omega : k < i ∨ i < k) with h' | h'
    · exact h i k h' hi x hx hn
    · exact h k i h' hk x hn hx
  · exact fun h i k hki hi x hx => h i k (by omega) hi (by omega) x hx
theorem ptB_parts {p : Pt} (h : ptB p = true) : (1 ≤ p.sh.length ∧ p.sh.length ≤ 40 ∧ risB 1 1000000 p.sh = true) ∧ (p.re.length ≤ 200 ∧ risB 1 1000000 p.re = true) ∧
    toldB p.lob (decide (p.lo = 0)) = true ∧ toldB p.hib (decide (p.hi = 1000)) = true ∧ toldB p.fby (!p.ft) = true := by
  unfold ptB at h
  simp only [Bool.and_eq_true, decide_eq_true_eq] at h
  exact ⟨⟨h.1.1.1.1.1.1.1.1.1.1, h.1.1.1.1.1.1.1.1.1.2, h.1.1.1.1.1.1.1.1.2⟩, ⟨h.1.1.1.1.2, h.1.1.1.2⟩, h.1.1.2, h.1.2, h.2⟩
theorem ptB_of {p : Pt} (h1 : 1 ≤ p.sh.length ∧ p.sh.length ≤ 40 ∧ risB 1 1000000 p.sh = true) (h2 : p.re.length ≤ 200 ∧ risB 1 1000000 p.re = true) (h3 : 0 ≤ p.lo ∧ p.lo ≤ p.hi ∧ p.hi ≤ 1000)
    (h4 : toldB p.lob (decide (p.lo = 0)) = true) (h5 : toldB p.hib (decide (p.hi = 1000)) = true) (h6 : toldB p.fby (!p.ft) = true) : ptB p = true := by
  unfold ptB
  simp only [Bool.and_eq_true, decide_eq_true_eq]
  exact ⟨⟨⟨⟨⟨⟨⟨⟨⟨⟨h1.1, h1.2.1⟩, h1.2.2⟩, h3.1⟩, h3.2.1⟩, h3.2.2⟩, h2.1⟩, h2.2⟩, h4⟩, h5⟩, h6⟩
theorem toldB_iff {id : Int} {no : Bool} : toldB id no = true ↔ 0 ≤ id ∧ id ≤ 1000000 ∧ (no = true → id = 0) := by
  unfold toldB
  cases no <;> simp [and_assoc]
theorem glu_ok {sa : Option Addr} {sc : Nat} {ra : Option Addr} {rc : Nat} {p q : Pt} (hp : ptB p = true) (hq : ptB q = true) (hc1 : p.lo ≤ q.hi) (hc2 : q.lo ≤ p.hi)
    (h1 : (ascOf (p.sh ++ q.sh)).length ≤ 40) (h2 : (ascOf (p.re ++ q.re)).length ≤ 200) : ptB (gluPt sa sc ra rc p q) = true := by
  obtain ⟨⟨p1, p2, p3⟩, ⟨p4, p5⟩, p6, p7, p8⟩ := ptB_parts hp
  obtain ⟨⟨q1, q2, q3⟩, ⟨q4, q5⟩, q6, q7, q8⟩ := ptB_parts hq
  have ps := ptB_span hp
  have qs := ptB_span hq
  have hr : ∀ {l m : List Int}, risB 1 1000000 l = true → risB 1 1000000 m = true → risB 1 1000000 (ascOf (l ++ m)) = true := fun {l m} h k => by
    rw [risB_iff] at h k ⊢
    refine ⟨ascOf_asc _, fun x hx => ?_⟩
    rw [mem_ascOf] at hx
    rcases List.mem_append.1 hx with hx | hx
    · exact h.2 x hx
    · exact k.2 x hx
  refine ptB_of ⟨?_, h1, hr p3 q3⟩ ⟨h2, hr p5 q5⟩ ?_ ?_ ?_ ?_
  · show 1 ≤ (ascOf (p.sh ++ q.sh)).length
    rcases hl : ascOf (p.sh ++ q.sh) with _ | ⟨x, l⟩
    · exfalso
      have hm : p.sh.getD 0 0 ∈ ascOf (p.sh ++ q.sh) := mem_ascOf.2 (List.mem_append.2 (.inl (mem_getD (by omega))))
      rw [hl] at hm; simp at hm
    · simp
  · show 0 ≤ (if p.lo < q.lo then q.lo else p.lo) ∧ (if p.lo < q.lo then q.lo else p.lo) ≤ (if q.hi < p.hi then q.hi else p.hi) ∧ (if q.hi < p.hi then q.hi else p.hi) ≤ 1000
    split <;> split <;> omega
  · show toldB (if p.lo < q.lo then q.lob else p.lob) (decide ((if p.lo < q.lo then q.lo else p.lo) = 0)) = true
    split
    · exact q6
    · exact p6
  · show toldB (if q.hi < p.hi then q.hib else p.hib) (decide ((if q.hi < p.hi then q.hi else p.hi) = 1000)) = true
    split
    · exact q7
    · exact p7
  · show toldB (max p.fby q.fby) (!(p.ft || q.ft)) = true
    rw [toldB_iff] at p8 q8 ⊢
    refine ⟨by omega, by omega, fun h => ?_⟩
    simp at h
    have := p8.2.2 (by simp [h.1])
    have := q8.2.2 (by simp [h.2])
    omega
theorem mix_ok {ware : List UInt8} {lim by_ : Int} {ps : List Pt} (h : CaseOk ware lim by_ ps) {a b : Nat} (hab : a < b) (hb : b < ps.length) (hnc : clB (pns ps) a b = false) {sa : Option Addr} {sc : Nat} {ra : Option Addr} {rc : Nat}
    (h1 : (ascOf ((ps.getD a default).sh ++ (ps.getD b default).sh)).length ≤ 40) (h2 : (ascOf ((ps.getD a default).re ++ (ps.getD b default).re)).length ≤ 200) :
    CaseOk ware lim by_ (mixPt ps a b (gluPt sa sc ra rc (ps.getD a default) (ps.getD b default))) := by
  have hcn := clB_no (by omega : a ≠ b) hnc
  rw [pns_get ps (by omega), pns_get ps hb] at hcn
  have ha : a < ps.length := by omega
  have hG := glu_ok (sa := sa) (sc := sc) (ra := ra) (rc := rc) (h.each _ (Pt.mem ha)) (h.each _ (Pt.mem hb)) hcn.2.2 hcn.2.1 h1 h2
  have hl := mixPt_len (a := a) (g := gluPt sa sc ra rc (ps.getD a default) (ps.getD b default)) hb
  refine ⟨by have := h.many; omega, h.head, fun p hp => ?_, ?_⟩
  · unfold mixPt at hp
    rcases List.mem_or_eq_of_mem_set (List.mem_of_mem_eraseIdx hp) with hp | rfl
    · exact h.each p hp
    · exact hG
  · have hd := dis_iff.1 h.dis
    rw [dis_iff]
    intro i k hki hi hk x hx hn
    rw [hl] at hi hk
    rw [mixPt_get hab hb] at hx hn
    have hu : ∀ i, i < ps.length - 1 → upI b i < ps.length ∧ upI b i ≠ b := fun i hi => by unfold upI; split <;> omega
    have hne : ∀ i, i ≠ a → i < ps.length - 1 → upI b i ≠ a := fun i h hi => by unfold upI; split <;> omega
    by_cases e1 : k = a
    · rw [if_pos e1] at hx
      rw [if_neg (by omega)] at hn
      have hx' : x ∈ (ps.getD a default).sh ++ (ps.getD b default).sh := mem_ascOf.1 hx
      rcases List.mem_append.1 hx' with hx' | hx'
      · exact hd (upI b i) a (fun e => hne i (by omega) hi e.symm) (hu i hi).1 ha x hx' hn
      · exact hd (upI b i) b (fun e => (hu i hi).2 e.symm) (hu i hi).1 hb x hx' hn
    · rw [if_neg e1] at hx
      by_cases e2 : i = a
      · rw [if_pos e2] at hn
        have hn' : x ∈ (ps.getD a default).sh ++ (ps.getD b default).sh := mem_ascOf.1 hn
        rcases List.mem_append.1 hn' with hn' | hn'
        · exact hd a (upI b k) (hne k e1 hk) ha (hu k hk).1 x hx hn'
        · exact hd b (upI b k) (hu k hk).2 hb (hu k hk).1 x hx hn'
      · rw [if_neg e2] at hn
        refine hd (upI b i) (upI b k) (fun e => ?_) (hu i hi).1 (hu k hk).1 x hx hn
        unfold upI at e
        split at e <;> split at e <;> omega
/-- The order of the parts does not matter. -/
theorem disB_pw : ∀ {ps : List Pt}, disB ps = true ↔ ps.Pairwise fun p q => ∀ x ∈ p.sh, x ∉ q.sh
  | [] => by simp [disB]
  | p :: l => by
    have ih := disB_pw (ps := l)
    unfold disB
    rw [List.pairwise_cons, Bool.and_eq_true, ih]
    simp only [List.all_eq_true, Bool.not_eq_true', Bool.eq_false_iff, ne_eq, List.contains_iff_mem]
theorem disB_perm {ps qs : List Pt} (h : ps.Perm qs) : disB ps = disB qs := by
  rw [Bool.eq_iff_iff, disB_pw, disB_pw]
  exact h.pairwise_iff fun {p q} hpq x hx hn => hpq x hn hx
theorem cchk_perm {ware : List UInt8} {lim by_ : Int} {ps qs : List Pt} (h : ps.Perm qs) : cchk ware lim by_ ps = cchk ware lim by_ qs := by
  unfold cchk
  rw [disB_perm h, h.length_eq]
  have : ps.all ptB = qs.all ptB := by
    rw [Bool.eq_iff_iff, List.all_eq_true, List.all_eq_true]
    exact ⟨fun a x hx => a x (h.mem_iff.2 hx), fun a x hx => a x (h.mem_iff.1 hx)⟩
  rw [this]
theorem pns_perm {ps qs : List Pt} (h : ps.Perm qs) : (pns ps).Perm (pns qs) := h.map _
end Go.Proofs.YtodkbfbbpfghiaaGreat
namespace Go.Proofs.YtodkbfbbpfghiaaGreat
open Go.RowKit Go.Shelf
set_option maxHeartbeats 40000000
set_option maxRecDepth 100000
/-- A value made of two rows. -/
def SL.rows2 (s : Nat) (u e : List Nat) (base : Nat) (t : TypeId) (n : Nat) (xs : List Value) (m : Nat) (ys : List Value) (f : Value → Value → Value) : SL.Sp :=
  { sub := s, use := u, eat := e, A := fun x w F => ∃ y z, x = f y z ∧ w.ownsRow base t 1 y n xs ∧ w.ownsRow base t 1 z m ys ∧ F = y.ownBlock.toList ++ z.ownBlock.toList,
    st := by
      rintro v w w' F ⟨y, z, rfl, h1, h2, rfl⟩ hk _
      exact ⟨y, z, rfl, SL.row_stab h1 (fun k h => hk k (by simp only [List.mem_append]; exact .inl h)), SL.row_stab h2 (fun k h => hk k (by simp only [List.mem_append]; exact .inr h)), rfl⟩ }
/-- A box whose cells hold two rows. -/
def SL.boxRows2 (s : Nat) (u e : List Nat) (base : Nat) (bt t : TypeId) (n : Nat) (xs : List Value) (m : Nat) (ys : List Value) (f : Value → Value → Array Value) : SL.Sp :=
  { sub := s, use := u, eat := e, A := fun x w F => ∃ N y z, x = .pointer (some ⟨N, 0, none⟩) ∧ base ≤ N ∧ w.heap[N]? = some (.cells (f y z) bt (0, 0)) ∧ (y.ownBlock ≠ some N ∧ z.ownBlock ≠ some N) ∧ w.ownsRow base t 1 y n xs ∧ w.ownsRow base t 1 z m ys ∧ F = N :: (y.ownBlock.toList ++ z.ownBlock.toList),
    st := by
      rintro v w w' F ⟨N, y, z, rfl, hb, h, hn, h1, h2, rfl⟩ hk _
      exact ⟨N, y, z, rfl, hb, by rw [hk N (by simp)]; exact h, hn, SL.row_stab h1 (fun k h => hk k (by simp only [List.mem_cons, List.mem_append]; exact .inr (.inl h))), SL.row_stab h2 (fun k h => hk k (by simp only [List.mem_cons, List.mem_append]; exact .inr (.inr h))), rfl⟩ }
theorem elemR : Elem Tryz.prog 35 33 (.agg #[.int .i64 0, .int .i64 0]) 2 16 := ⟨Tryz.underlying35, info_parts (by kernel_rfl), rfl, by decide⟩
theorem elemP : Elem Tryz.prog 22 49 (.agg #[.slice none 0 0, .int .i64 0, .int .i64 0, .int .i64 0, .int .i64 0, .bool false, .int .i64 0, .slice none 0 0]) 8 96 := ⟨Tryz.underlying22, info_parts (by kernel_rfl), rfl, by decide⟩
theorem cell8w {W : World} {N : Nat} {a b c d e f g h : Value} {t : TypeId} (hh : W.heap[N]? = some (.cells #[a, b, c, d, e, f, g, h] t (0, 0))) :
    W.cell? ⟨N, 0, none⟩ = some a ∧ W.cell? ⟨N, 1, none⟩ = some b ∧ W.cell? ⟨N, 2, none⟩ = some c ∧ W.cell? ⟨N, 3, none⟩ = some d ∧ W.cell? ⟨N, 4, none⟩ = some e ∧ W.cell? ⟨N, 5, none⟩ = some f ∧ W.cell? ⟨N, 6, none⟩ = some g ∧ W.cell? ⟨N, 7, none⟩ = some h ∧ (∀ i, W.frozen? ⟨N, i, none⟩ = false) ∧ N < W.heap.size := by
  have k := (SL.cells_of hh).1
  exact ⟨by simpa using k 0, by simpa using k 1, by simpa using k 2, by simpa using k 3, by simpa using k 4, by simpa using k 5, by simpa using k 6, by simpa using k 7, (SL.cells_of hh).2, (Array.getElem?_eq_some_iff.1 hh).1⟩

/-- A part whose lists are its own. -/
structure OwnPt (w : World) (base : Nat) (p : Pt) : Prop where
  sh : w.ownsRow base 3 1 (.slice p.sa p.sh.length p.sc) p.sh.length (p.sh.map (.int .i64))
  re : w.ownsRow base 3 1 (.slice p.ra p.re.length p.rc) p.re.length (p.re.map (.int .i64))
theorem OwnPt.at_ {w : World} {base : Nat} {p : Pt} (h : OwnPt w base p) (h1 : p.sh.length ≤ 10000) (h2 : p.re.length ≤ 10000) : PtAt w p := ⟨(IntsAt.of_owns h.sh (by omega)).lat, (IntsAt.of_owns h.re (by omega)).lat⟩
theorem OwnPt.up {w w' : World} {base : Nat} {p : Pt} (h : OwnPt w base p) (hb : Below w.heap.size w w') : OwnPt w' base p := ⟨h.sh.up hb (Nat.le_refl _), h.re.up hb (Nat.le_refl _)⟩
theorem ascOf_len (l : List Int) : (ascOf l).length ≤ l.length := by rw [← uniN_all]; exact uniN_len l l.length
def MergedPost (w : World) (p q : Pt) (e : Ending) (w' : World) : Prop := ∃ sa sc ra rc, e = .returned (gluPt sa sc ra rc p q).v ∧ Below w.heap.size w w' ∧ OwnPt w' w.heap.size (gluPt sa sc ra rc p q)
end Go.Proofs.YtodkbfbbpfghiaaGreat
/-
  Words of the regions' rule made of parts: rows, blocks, pure facts, put side by side; parts whose lists are their own.
-/
namespace Go.Proofs.YtodkbfbbpfghiaaGreat.SL
open Go Go.RowKit Go.Proofs.YtodkbfbbpfghiaaGreat

/-- What holds of a world, and the blocks that it holds for itself. -/
structure As where
  A : World → List Nat → Prop
  st : ∀ (w w' : World) (F : List Nat), A w F → (∀ k ∈ F, w'.heap[k]? = w.heap[k]?) → w.heap.size ≤ w'.heap.size → A w' F
abbrev As.row (base : Nat) (t : TypeId) (size : Nat) (v : Value) (n : Nat) (xs : List Value) : As :=
  { A := fun w F => w.ownsRow base t size v n xs ∧ F = v.ownBlock.toList, st := fun _ _ _ h hk _ => ⟨row_stab h.1 (h.2 ▸ hk), h.2⟩ }
abbrev As.blk (base N : Nat) (t : TypeId) (cs : Array Value) : As :=
  { A := fun w F => base ≤ N ∧ w.heap[N]? = some (.cells cs t (0, 0)) ∧ F = [N], st := by rintro w w' F ⟨hb, h, rfl⟩ hk _; exact ⟨hb, by rw [hk N (by simp)]; exact h, rfl⟩ }
abbrev As.pure (p : Prop) : As := { A := fun _ F => p ∧ F = [], st := fun _ _ _ h _ _ => h }
abbrev As.sep (a b : As) : As :=
  { A := fun w F => ∃ F1 F2, a.A w F1 ∧ b.A w F2 ∧ F = F1 ++ F2,
    st := by
      rintro w w' F ⟨F1, F2, h1, h2, rfl⟩ hk hs
      exact ⟨F1, F2, a.st _ _ _ h1 (fun k h => hk k (List.mem_append.2 (.inl h))) hs, b.st _ _ _ h2 (fun k h => hk k (List.mem_append.2 (.inr h))) hs, rfl⟩ }
/-- The same, and no block is held twice. -/
abbrev As.sepd (a b : As) : As :=
  { A := fun w F => ∃ F1 F2, a.A w F1 ∧ b.A w F2 ∧ (∀ k ∈ F1, k ∉ F2) ∧ F = F1 ++ F2,
    st := by
      rintro w w' F ⟨F1, F2, h1, h2, hd, rfl⟩ hk hs
      exact ⟨F1, F2, a.st _ _ _ h1 (fun k h => hk k (List.mem_append.2 (.inl h))) hs, b.st _ _ _ h2 (fun k h => hk k (List.mem_append.2 (.inr h))) hs, hd, rfl⟩ }
abbrev As.ex {α : Type} (f : α → As) : As := { A := fun w F => ∃ x, (f x).A w F, st := fun w w' F h hk hs => h.elim fun x hx => ⟨x, (f x).st w w' F hx hk hs⟩ }
def aw (s : Nat) (u e : List Nat) (f : Value → As) : Sp := { sub := s, use := u, eat := e, A := fun x => (f x).A, st := fun v => (f v).st }
theorem aw_sub (s : Nat) (u e : List Nat) (f : Value → As) : (aw s u e f).sub = s := rfl
theorem aw_use (s : Nat) (u e : List Nat) (f : Value → As) : (aw s u e f).use = u := rfl
theorem aw_eat (s : Nat) (u e : List Nat) (f : Value → As) : (aw s u e f).eat = e := rfl
theorem aw_V (s : Nat) (u e : List Nat) (f : Value → As) : (aw s u e f).V = fun _ => True := rfl
theorem aw_quiet (s : Nat) (u e : List Nat) (f : Value → As) : (aw s u e f).quiet = false := rfl
theorem aw_in {s : Nat} {u e : List Nat} {f : Value → As} {v : Value} {w : World} {F : List Nat} (h : (f v).A w F) : (aw s u e f).A v w F := h
theorem aw_out {s : Nat} {u e : List Nat} {f : Value → As} {v : Value} {w : World} {F : List Nat} (h : (aw s u e f).A v w F) : (f v).A w F := h

/-- A row is held from the beginning. -/
theorem row_held {ops : List Oper} {Γ : List Sp} {a0 : Act} {w : World} {x : Sp} {v : Value} {base n size : Nat} {t : TypeId} {xs : List Value} (h : Γ.length = ops.length + 1) (hx : Γ[ops.length]? = some x)
    (hA : x.A (a0.tmps.getD x.sub undef) w.drew v.ownBlock.toList) (hr : w.ownsRow base t size v n xs) :
    ∀ i y, ops.length ≤ i → Γ[i]? = some y → y.A (a0.tmps.getD y.sub undef) w.drew ((fun i => if i = ops.length then v.ownBlock.toList else []) i) ∧ ∀ k ∈ (fun i => if i = ops.length then v.ownBlock.toList else []) i, k ∈ v.ownBlock.toList ∧ k < w.heap.size := by
  intro i y hi hy
  by_cases e : i = ops.length
  · subst e
    rw [hx] at hy
    cases hy
    simp only [if_pos]
    exact ⟨hA, fun k hk => ⟨hk, (row_bounds hr k hk).2⟩⟩
  · rw [List.getElem?_eq_none (by omega)] at hy
    cases hy
end Go.Proofs.YtodkbfbbpfghiaaGreat.SL
namespace Go.Proofs.YtodkbfbbpfghiaaGreat
open Go Go.RowKit
/-- The blocks of a part's lists. -/
def Pt.blocks (p : Pt) : List Nat := (Value.slice p.sa p.sh.length p.sc).ownBlock.toList ++ (Value.slice p.ra p.re.length p.rc).ownBlock.toList
theorem OwnPt.stab {w w' : World} {base : Nat} {p : Pt} (h : OwnPt w base p) (hk : ∀ k ∈ p.blocks, w'.heap[k]? = w.heap[k]?) : OwnPt w' base p :=
  ⟨SL.row_stab h.sh fun k hm => hk k (List.mem_append.2 (.inl hm)), SL.row_stab h.re fun k hm => hk k (List.mem_append.2 (.inr hm))⟩
theorem OwnPt.base {w : World} {base base' : Nat} {p : Pt} (h : OwnPt w base p) (hb : base' ≤ base) : OwnPt w base' p := ⟨SL.row_base h.sh hb, SL.row_base h.re hb⟩
theorem OwnPt.bounds {w : World} {base : Nat} {p : Pt} (h : OwnPt w base p) : ∀ k ∈ p.blocks, base ≤ k ∧ k < w.heap.size := fun k hk => by
  rcases List.mem_append.1 hk with hk | hk
  · exact SL.row_bounds h.sh k hk
  · exact SL.row_bounds h.re k hk
abbrev SL.As.own (base : Nat) (p : Pt) : SL.As := { A := fun w F => OwnPt w base p ∧ F = p.blocks, st := fun _ _ _ h hk _ => ⟨h.1.stab (h.2 ▸ hk), h.2⟩ }
/-- Two parts as one, wherever its lists lie. -/
def GluOf (g p q : Pt) : Prop := ∃ sa sc ra rc, g = gluPt sa sc ra rc p q
end Go.Proofs.YtodkbfbbpfghiaaGreat
namespace Go.Proofs.YtodkbfbbpfghiaaGreat
open Go.RowKit Go.Shelf
set_option maxHeartbeats 40000000
set_option maxRecDepth 100000
def MergedPost2 (w : World) (p q : Pt) (e : Ending) (w' : World) : Prop := ∃ g : Pt, GluOf g p q ∧ e = .returned g.v ∧ Below w.heap.size w w' ∧ OwnPt w' w.heap.size g
/-- The row of parts, and the part that was made, which lies apart from it. -/
structure MixAt (w : World) (base : Nat) (v : Value) (qs : List Pt) (g : Pt) : Prop where
  row : w.ownsRow base 49 8 v qs.length (pcs qs)
  own : OwnPt w base g
  apart : ∀ k ∈ v.ownBlock.toList, k ∉ g.blocks
/-- No case. -/
def Cs.zero : Cs := ⟨ByteArray.empty, 0, 0, none, 0, []⟩
theorem Cs.zero_at (w : World) : CsAt w Cs.zero := ⟨by decide, ⟨rfl, by simp [Cs.zero], RowAt.nilAt _, fun p hp => by simp [Cs.zero] at hp⟩⟩
/-- Two parts as one: the error, and what it says. -/
def Cs.mergeE (c : Cs) (a b : Nat) : Int :=
  if clB c.s a b then 60 else if 40 < (ascOf ((c.ps.getD (min a b) default).sh ++ (c.ps.getD (max a b) default).sh)).length ∨ 200 < (ascOf ((c.ps.getD (min a b) default).re ++ (c.ps.getD (max a b) default).re)).length then 2 else 0
structure MrgOf (c : Cs) (a b : Nat) (d : Cs) : Prop where
  ware : d.ware = c.ware
  lim : d.lim = c.lim
  byr : d.byr = c.byr
  ps : ∃ g, GluOf g (c.ps.getD (min a b) default) (c.ps.getD (max a b) default) ∧ d.ps = mixPt c.ps (min a b) (max a b) g
theorem GluOf.sh {g p q : Pt} (h : GluOf g p q) : g.sh = ascOf (p.sh ++ q.sh) := by obtain ⟨_, _, _, _, rfl⟩ := h; rfl
theorem GluOf.re {g p q : Pt} (h : GluOf g p q) : g.re = ascOf (p.re ++ q.re) := by obtain ⟨_, _, _, _, rfl⟩ := h; rfl
theorem MixAt.pts {w : World} {base n : Nat} {va : Option Addr} {vc : Nat} {ps M : List Pt} {g : Pt} (h : MixAt w base (.slice va n vc) M g) (hn : n = M.length) (hs : M.length ≤ 1000) (hm : ∀ p ∈ M, p ∈ ps ∨ p = g) (h1 : g.sh.length ≤ 10000) (h2 : g.re.length ≤ 10000) (hp : ∀ p ∈ ps, PtAt w p) : PtsAt w va n vc M := by
  subst hn
  refine ⟨rfl, by omega, RowAt.of_owns h.row, fun p hpm => ?_⟩
  rcases hm p hpm with hm | rfl
  · exact hp p hm
  · exact h.own.at_ h1 h2
theorem MixAt.stab {w w' : World} {base : Nat} {v : Value} {M : List Pt} {g : Pt} (h : MixAt w base v M g) (hk : ∀ k, base ≤ k → k < w.heap.size → w'.heap[k]? = w.heap[k]?) : MixAt w' base v M g :=
  ⟨SL.row_stab h.row fun k hm => hk k (SL.row_bounds h.row k hm).1 (SL.row_bounds h.row k hm).2, h.own.stab fun k hm => hk k (h.own.bounds k hm).1 (h.own.bounds k hm).2, h.apart⟩
theorem heap_setC (w : World) (p : Addr) (v : Value) {k : Nat} (h : p.block ≠ k) : (w.setCell p v).heap[k]? = w.heap[k]? := Below.heap_setCell _ _ _ _ (fun e => h e.symm)
theorem heap_allocC (w : World) (o : Obj) {k : Nat} (h : k < w.heap.size) : (w.alloc o).heap[k]? = w.heap[k]? := Below.heap_alloc _ _ _ h
theorem MixAt.at_ {w : World} {base : Nat} {v : Value} {ps : List Pt} {a b : Nat} {g : Pt} (h : MixAt w base v (mixPt ps a b g) g) (h1 : g.sh.length ≤ 10000) (h2 : g.re.length ≤ 10000) (hl : ps.length ≤ 1000) (hp : ∀ p ∈ ps, PtAt w p) :
    ∃ va vc, v = .slice va (mixPt ps a b g).length vc ∧ (∀ x, va = some x → base ≤ x.block) ∧ PtsAt w va (mixPt ps a b g).length vc (mixPt ps a b g) := by
  obtain ⟨va, vc, rfl, hva⟩ := owns_slice h.row
  refine ⟨va, vc, rfl, fun x hx => (hva x hx).1, rfl, ?_, RowAt.of_owns h.row, fun p hm => ?_⟩
  · have : (mixPt ps a b g).length ≤ ps.length := by unfold mixPt; rw [List.length_eraseIdx, List.length_set]; split <;> omega
    omega
  · unfold mixPt at hm
    rcases List.mem_or_eq_of_mem_set (List.mem_of_mem_eraseIdx hm) with hm | rfl
    · exact hp p hm
    · exact h.own.at_ h1 h2
/-- What is handed back with an error: nothing, if there is one. -/
def resC (E : Int) (d : Cs) : Cs := if E = 0 then d else Cs.zero
def CaseRes (w : World) (E : Int) (d : Cs) (e : Ending) (w' : World) : Prop := ∃ x, SameC x (resC E d) ∧ e = .returned (.tuple #[Cs.v x, .int .i64 E]) ∧ Below w.heap.size w w' ∧ CsAt w' x
def Cs.wo (c : Cs) (a : Nat) : Cs := { c with a := none, cap := 0, ps := c.ps.eraseIdx a }
/-- Two parts as one. -/
def Cs.mrg (c : Cs) (a b : Nat) : Cs := { c with a := none, cap := 0, ps := mixPt c.ps (min a b) (max a b) (gluPt none 0 none 0 (c.ps.getD (min a b) default) (c.ps.getD (max a b) default)) }
def Cs.mrgE (c : Cs) (x y : Int) : Int := if c.two x y = 0 then c.mergeE x.toNat y.toNat else c.two x y
theorem MrgOf.same {c d : Cs} {a b : Nat} (h : MrgOf c a b d) (ha : a < c.ps.length) (hb : b < c.ps.length) (hab : a ≠ b) : SameC d (c.mrg a b) := by
  obtain ⟨g, ⟨sa, sc, ra, rc, rfl⟩, hps⟩ := h.ps
  have hl := mixPt_len (ps := c.ps) (a := min a b) (b := max a b) (g := gluPt sa sc ra rc (c.ps.getD (min a b) default) (c.ps.getD (max a b) default)) (by omega)
  refine ⟨h.ware, h.lim, h.byr, ?_, fun i hi => ?_⟩
  · rw [hps, hl]
    exact (mixPt_len (by omega)).symm
  · show SameP (d.ps.getD i default) ((mixPt c.ps (min a b) (max a b) _).getD i default)
    rw [hps, mixPt_get (by omega) (by omega), mixPt_get (by omega) (by omega)]
    split
    · exact ⟨rfl, rfl, rfl, rfl, rfl, rfl, rfl, rfl⟩
    · exact SameP.refl _
theorem pcs_take {ps : List Pt} {i : Nat} (h : i ≤ ps.length) : (pcs ps).take (i * 8) = pcs (ps.take i) := by
  conv => lhs; rw [← List.take_append_drop i ps, pcs_append]
  rw [List.take_left' (by rw [pcs_length, List.length_take, Nat.min_eq_left h])]
theorem pcs_drop {ps : List Pt} {i : Nat} (h : i ≤ ps.length) : (pcs ps).drop (i * 8) = pcs (ps.drop i) := by
  conv => lhs; rw [← List.take_append_drop i ps, pcs_append]
  rw [List.drop_left' (by rw [pcs_length, List.length_take, Nat.min_eq_left h])]
theorem cell4w {W : World} {N : Nat} {a b c d : Value} {t : TypeId} (hh : W.heap[N]? = some (.cells #[a, b, c, d] t (0, 0))) :
    W.cell? ⟨N, 0, none⟩ = some a ∧ W.cell? ⟨N, 1, none⟩ = some b ∧ W.cell? ⟨N, 2, none⟩ = some c ∧ W.cell? ⟨N, 3, none⟩ = some d ∧ (∀ i, W.frozen? ⟨N, i, none⟩ = false) ∧ N < W.heap.size := by
  have k := (SL.cells_of hh).1
  exact ⟨by simpa using k 0, by simpa using k 1, by simpa using k 2, by simpa using k 3, (SL.cells_of hh).2, (Array.getElem?_eq_some_iff.1 hh).1⟩
end Go.Proofs.YtodkbfbbpfghiaaGreat
namespace Go.Proofs.YtodkbfbbpfghiaaGreat
open Go
theorem pw_sort (l : List Int) : (l.mergeSort fun x y => decide (x ≤ y)).Pairwise (· ≤ ·) := by
  have h := List.pairwise_mergeSort (le := fun x y : Int => decide (x ≤ y)) (fun a b c h1 h2 => by simp at *; omega) (fun a b => by simp; omega) l
  exact h.imp fun {a b} h => by simpa using h
theorem perm_sort (l : List Int) : (l.mergeSort fun x y => decide (x ≤ y)).Perm l := List.mergeSort_perm l _
theorem asc_ext {a b : List Int} (ha : Asc a) (hb : Asc b) (h : ∀ x, x ∈ a ↔ x ∈ b) : a = b := by
  have hp : a.Perm b := (List.perm_ext_iff_of_nodup ha.nodup hb.nodup).2 h
  exact hp.eq_of_pairwise (le := (· ≤ ·)) (fun x y _ _ h1 h2 => by omega) (ha.imp fun {a b} (h : a < b) => by omega) (hb.imp fun {a b} (h : a < b) => by omega)
theorem comp_go (d : Array Int) (hs : ∀ i j, i ≤ j → j < d.size → d[i]! ≤ d[j]!) : ∀ m, m ≤ d.size → Asc (Lib.compactUpTo d m) ∧ ∀ x, x ∈ Lib.compactUpTo d m ↔ ∃ j, j < m ∧ d[j]! = x
  | 0, _ => by simp [Lib.compactUpTo, Asc]
  | m + 1, hm => by
    obtain ⟨h1, h2⟩ := comp_go d hs m (by omega)
    rw [Lib.compactUpTo_succ]
    have hk : Lib.keeps d m = decide (m = 0 ∨ d[m]! ≠ d[m - 1]!) := rfl
    cases hc : Lib.keeps d m
    · rw [hk] at hc
      simp only [decide_eq_false_iff_not, not_or, Classical.not_not] at hc
      simp only [Bool.false_eq_true, if_false, List.append_nil]
      refine ⟨h1, fun x => ?_⟩
      rw [h2]
      constructor
      · rintro ⟨j, hj, e⟩; exact ⟨j, by omega, e⟩
      · rintro ⟨j, hj, e⟩
        by_cases hjm : j = m
        · subst hjm; exact ⟨j - 1, by omega, by rw [← hc.2]; exact e⟩
        · exact ⟨j, by omega, e⟩
    · rw [hk, decide_eq_true_eq] at hc
      simp only [if_true]
      refine ⟨List.pairwise_append.2 ⟨h1, by simp, fun x hx y hy => ?_⟩, fun x => ?_⟩
      · simp only [List.mem_singleton] at hy
        subst hy
        obtain ⟨j, hj, rfl⟩ := (h2 x).1 hx
        have a1 := hs j (m - 1) (by omega) (by omega)
        have a2 := hs (m - 1) m (by omega) (by omega)
        rcases hc with h | h
        · omega
        · omega
      · rw [List.mem_append, h2]
        constructor
        · rintro (⟨j, hj, e⟩ | h)
          · exact ⟨j, by omega, e⟩
          · simp at h; exact ⟨m, by omega, h.symm⟩
        · rintro ⟨j, hj, e⟩
          by_cases hjm : j = m
          · subst hjm; right; simp [e]
          · left; exact ⟨j, by omega, e⟩
theorem compact_sorted (l : List Int) : Lib.compact (l.mergeSort fun x y => decide (x ≤ y)) = ascOf l := by
  have hp := pw_sort l
  have hm := perm_sort l
  generalize (l.mergeSort fun x y => decide (x ≤ y)) = q at *
  have hg := comp_go q.toArray (fun i j hij hj => by
    have hj' : j < q.length := by simpa using hj
    have := pw_get hp hij hj'
    simpa [List.getD_eq_getElem?_getD, hj', show i < q.length by omega] using this) q.length (by simp)
  unfold Lib.compact
  refine asc_ext hg.1 (ascOf_asc _) fun x => ?_
  rw [hg.2, mem_ascOf, ← hm.mem_iff]
  constructor
  · rintro ⟨j, hj, e⟩
    rw [← e]
    simp [hj]
  · intro h
    obtain ⟨j, hj, e⟩ := List.getElem_of_mem h
    exact ⟨j, hj, by simp [hj, e]⟩
theorem sort_len (l : List Int) : (l.mergeSort fun x y => decide (x ≤ y)).length = l.length := (perm_sort l).length_eq
end Go.Proofs.YtodkbfbbpfghiaaGreat
namespace Go.Proofs.YtodkbfbbpfghiaaGreat
open Go.RowKit Go.Shelf
set_option maxHeartbeats 4000000
set_option maxRecDepth 100000
theorem wrising_any (a : Option Addr) (n cap : Nat) (xs : List Int) (lo hi : Int) (w : World) (hx : LAt w a n cap xs) :
    Calls Tryz.prog 115 #[.slice a n cap, .int .i64 lo, .int .i64 hi] w fun e w' => e = .returned (.bool (risB lo hi xs)) ∧ Below w.heap.size w w' := by
  have hl := hx.small
  obtain rfl := hx.len
  go_enter Tryz.func115, Tryz.ntmps115
  go_wp2_with fail
  go_loopw [11] (fun i wr => ∃ k : Nat, k ≤ xs.length ∧ i = .int .i64 k ∧ Below w.heap.size w wr ∧ risB lo hi (xs.take k) = true) (fun i _ => xs.length - (RowKit.intOf i).toNat)
  case atStart => exact ⟨0, Nat.zero_le _, rfl, Below.refl _ _, rfl⟩
  case round =>
    obtain ⟨k, hk, rfl, hB, hall⟩ := hrel
    have Hall := Lib.hid hall
    clear hall
    by_cases hlt : k < xs.length
    · obtain ⟨b, o, rfl, _, d0⟩ := (hx.below hB).get hlt
      have hs := ris_snoc (lo := lo) (hi := hi) hlt
      rw [Hall.out] at hs
      have d1 : ∀ (_ : 0 < k), ∃ y, wr.cell? ⟨b, o + (k - 1), none⟩ = some (.int .i64 y) ∧ xs.getD (k - 1) 0 = y := fun h0 => by
        obtain ⟨b', o', e, _, d⟩ := (hx.below hB).get (i := k - 1) (by omega)
        simp at e
        obtain ⟨rfl, rfl⟩ := e
        exact ⟨_, d, rfl⟩
      have hnn : (0 : Int) ≤ k := by omega
      have i1 : (k : Int) < (xs.length : Int) := by omega
      obtain ⟨x, hxe⟩ : ∃ x, xs.getD k 0 = x := ⟨_, rfl⟩
      rw [hxe] at d0 hs
      have hW := fun w2 => wwithin_any x lo hi w2
      have Hp := @ris_pre lo hi xs (k + 1)
      cases h1 : withinB x lo hi
      · have Hs : Hid _ := Lib.hid hs
        simp only [h1] at hW
        have Hf := Lib.hid (Hp (by rw [Hs.out, h1]; rfl))
        clear hs h1 hxe d1 Hs
        go_wp2_with (go_at_call 100; (with_reducible refine (hW _).mono ?_); rintro e w1 ⟨rfl, rfl⟩)
        go_ret
        exact ⟨ret_bool Hf.out.symm, hB⟩
      · simp only [h1] at hW
        rw [h1] at hs
        rcases Nat.eq_zero_or_pos k with e | e
        · subst e
          rw [Nat.add_zero] at d0
          have Hs := Lib.hid hs
          clear hs h1 hxe d1
          go_wp2_with (go_at_call 100; (with_reducible refine (hW _).mono ?_); rintro e w1 ⟨rfl, rfl⟩)
          go_roundw
          case rel => exact ⟨1, by omega, by go_num, hB, by rw [Hs.out]; rfl⟩
          case measure => simp [RowKit.intOf]; omega
        · obtain ⟨y, d1, hye⟩ := d1 e
          rw [hye] at hs
          have hk0 : (k == 0) = false := by simp; omega
          rw [hk0] at hs
          have hgt : decide ((0 : Int) < k) = true := by simp; omega
          have e1 : (k : Int) - 1 = ((k - 1 : Nat) : Int) := by omega
          have i2 : (k : Int) - 1 < (xs.length : Int) := by omega
          have i3 : (0 : Int) ≤ (k : Int) - 1 := by omega
          have e2 : ((k : Int) - 1).toNat = k - 1 := by omega
          cases h3 : decide (y < x)
          · have h4 : decide (x ≤ y) = true := by simp at h3 ⊢; omega
            have Hf := Lib.hid (Hp (by rw [hs, h3]; rfl))
            clear hs h1 hxe hye hk0 h3
            go_wp2_with (go_at_call 100; (with_reducible refine (hW _).mono ?_); rintro e w1 ⟨rfl, rfl⟩)
            go_ret
            exact ⟨ret_bool Hf.out.symm, hB⟩
          · have h4 : decide (x ≤ y) = false := by simp at h3 ⊢; omega
            rw [h3] at hs
            have Hs := Lib.hid hs
            clear hs h1 hxe hye hk0 h3
            go_wp2_with (go_at_call 100; (with_reducible refine (hW _).mono ?_); rintro e w1 ⟨rfl, rfl⟩)
            go_roundw
            case rel => exact ⟨k + 1, by omega, by go_num, hB, by rw [Hs.out]; rfl⟩
            case measure => simp [RowKit.intOf]; omega
    · rw [List.take_of_length_le (by omega)] at Hall
      go_wp2_with fail
      go_ret
      exact ⟨ret_bool Hall.out.symm, hB⟩
theorem wright_any (p : Pt) (w : World) (hp : PtAt w p) :
    Calls Tryz.prog 102 #[p.v] w fun e w' => e = .returned (.bool (ptB p)) ∧ Below w.heap.size w w' := by
  obtain ⟨sa, sc, sh, lo, hi, lob, hib, ft, fby, ra, rc, re⟩ := p
  obtain ⟨h1, h2⟩ := hp
  simp only at h1 h2
  have s1 := h1.small
  have s2 := h2.small
  simp only [Pt.v]
  have he : ptB ⟨sa, sc, sh, lo, hi, lob, hib, ft, fby, ra, rc, re⟩ = (decide (1 ≤ sh.length) && decide (sh.length ≤ 40) && risB 1 1000000 sh && decide (0 ≤ lo) && decide (lo ≤ hi) && decide (hi ≤ 1000) &&
    decide (re.length ≤ 200) && risB 1 1000000 re && toldB lob (lo == 0) && toldB hib (hi == 1000) && toldB fby (!ft)) := rfl
  generalize ptB ⟨sa, sc, sh, lo, hi, lob, hib, ft, fby, ra, rc, re⟩ = T at *
  have hlen : (decide (1 ≤ sh.length) && decide (sh.length ≤ 40)) = withinB sh.length 1 40 := by unfold withinB; rw [Bool.eq_iff_iff]; simp; omega
  rw [hlen] at he
  obtain ⟨W0, hW0⟩ : ∃ W0, withinB (sh.length : Int) 1 40 = W0 := ⟨_, rfl⟩
  obtain ⟨R1, hR1⟩ : ∃ R1, risB 1 1000000 sh = R1 := ⟨_, rfl⟩
  obtain ⟨R2, hR2⟩ : ∃ R2, risB 1 1000000 re = R2 := ⟨_, rfl⟩
  obtain ⟨T1, hT1⟩ : ∃ T1, toldB lob (lo == 0) = T1 := ⟨_, rfl⟩
  obtain ⟨T2, hT2⟩ : ∃ T2, toldB hib (hi == 1000) = T2 := ⟨_, rfl⟩
  obtain ⟨T3, hT3⟩ : ∃ T3, toldB fby (!ft) = T3 := ⟨_, rfl⟩
  rw [hR1, hR2, hT1, hT2, hT3, hW0] at he
  have He := Lib.hid he
  have HW0 := Lib.hid hW0
  have HR1 := Lib.hid hR1
  have HR2 := Lib.hid hR2
  have HT1 := Lib.hid hT1
  have HT2 := Lib.hid hT2
  have HT3 := Lib.hid hT3
  clear he hR1 hR2 hT1 hT2 hT3 hW0 hlen
  go_enter Tryz.func102, Tryz.ntmps102
  go_wp2_with (first
    | (go_at_call 100; (with_reducible refine (wwithin_any _ _ _ _).mono ?_); rintro e w0 ⟨rfl, rfl⟩; rw [HW0.out])
    | (go_at_call 115; refine (wrising_any _ _ _ _ _ _ _ (by first | exact h1.below (by ((repeat (first | assumption | exact Below.refl _ _ | refine Below.alloc ?_ ?_ _ | refine Below.setCell ?_ ?_ _ | refine Below.drew ?_ | refine belowN ?_ | refine Below.up ?_ (by assumption) ?_)) <;> (first | assumption | omega | (simp; done) | (simp; omega)))) | exact h2.below (by ((repeat (first | assumption | exact Below.refl _ _ | refine Below.alloc ?_ ?_ _ | refine Below.setCell ?_ ?_ _ | refine Below.drew ?_ | refine belowN ?_ | refine Below.up ?_ (by assumption) ?_)) <;> (first | assumption | omega | (simp; done) | (simp; omega)))))).mono ?_; rintro e w1 ⟨rfl, hb1⟩; (first | rw [HR1.out] | rw [HR2.out]); obtain ⟨hc1, hf1⟩ := bcell hb1; have z1 := lt_size hb1 (b := w.heap.size) (by first | assumption | omega | (simp; done) | (simp; omega)); have z2 := lt_size hb1 (b := w.heap.size + 1) (by first | assumption | omega | (simp; done) | (simp; omega)))
    | (go_at_call 101; refine (wtold_any _ _ _).mono ?_; rintro e w3 ⟨rfl, rfl⟩; (first | rw [HT1.out] | rw [HT2.out] | rw [HT3.out])))
  all_goals
    clear HR1 HR2 HT1 HT2 HT3 HW0
    go_ret
    refine ⟨ret_bool ?_, by ((repeat (first | assumption | exact Below.refl _ _ | refine Below.alloc ?_ ?_ _ | refine Below.setCell ?_ ?_ _ | refine Below.drew ?_ | refine belowN ?_ | refine Below.up ?_ (by assumption) ?_)) <;> (first | assumption | omega | (simp; done) | (simp; omega)))⟩
    rw [He.out]
    clear He
    first
      | (rw [Bool.eq_iff_iff]; simp only [Bool.and_eq_true, decide_eq_true_eq]; grind)
      | (trace_state; fail)
theorem any_take {α : Type} {f : α → Bool} {l : List α} {k : Nat} (hk : k < l.length) : (l.take (k + 1)).any f = ((l.take k).any f || f l[k]) := by
  rw [List.take_succ_eq_append_getElem hk, List.any_append]; simp
theorem any_hit {α : Type} {f : α → Bool} {l : List α} {k : Nat} (hk : k < l.length) (h : f l[k] = true) : l.any f = true := List.any_eq_true.2 ⟨_, List.getElem_mem hk, h⟩
/-- Where IndexFunc stops: at one with it, or nowhere. -/
def IdxPost (w : World) (any : Bool) (e : Ending) (w' : World) : Prop := ∃ i : Int, e = .returned (.int .i64 i) ∧ decide (0 ≤ i) = any ∧ Below w.heap.size w w'
theorem getI {xs : List Int} {k : Nat} (h : k < xs.length) : xs.getD k 0 = xs[k] := by simp [List.getD_eq_getElem?_getD, List.getElem?_eq_getElem h]
/-- A slice of bytes. -/
structure BysAt (w : World) (a : Option Addr) (n cap : Nat) (xs : List UInt8) : Prop where
  len : n = xs.length
  small : xs.length ≤ 140737488351232
  row : RowAt w a cap (xs.map fun b => Value.int .u8 b.toNat)
theorem BysAt.below {w w' : World} {a : Option Addr} {n cap : Nat} {xs : List UInt8} (h : BysAt w a n cap xs) (hb : Below w.heap.size w w') : BysAt w' a n cap xs := ⟨h.len, h.small, h.row.below hb⟩
theorem BysAt.get {w : World} {a : Option Addr} {n cap : Nat} {xs : List UInt8} (h : BysAt w a n cap xs) {i : Nat} (hi : i < xs.length) : ∃ b off, a = some ⟨b, off, none⟩ ∧ b < w.heap.size ∧
    w.cell? ⟨b, off + i, none⟩ = some (.int .u8 (xs.getD i 0).toNat) := h.row.cell (by simp [List.getD_eq_getElem?_getD, List.getElem?_eq_getElem hi])
theorem getB {xs : List UInt8} {k : Nat} (h : k < xs.length) : xs.getD k 0 = xs[k] := by simp [List.getD_eq_getElem?_getD, List.getElem?_eq_getElem h]
/-- A list of ints: where it lies, and what it holds. -/
structure Ls where
  a : Option Addr
  cap : Nat
  l : List Int
instance : Inhabited Ls := ⟨⟨none, 0, []⟩⟩
def Ls.v (x : Ls) : Value := .slice x.a x.l.length x.cap
/-- A slice of lists. -/
structure LssAt (w : World) (a : Option Addr) (n cap : Nat) (xs : List Ls) : Prop where
  len : n = xs.length
  small : xs.length ≤ 140737488351232
  row : RowAt w a cap (xs.map Ls.v)
  each : ∀ x ∈ xs, IntsAt w x.a x.l.length x.cap x.l
theorem LssAt.below {w w' : World} {a : Option Addr} {n cap : Nat} {xs : List Ls} (h : LssAt w a n cap xs) (hb : Below w.heap.size w w') : LssAt w' a n cap xs := ⟨h.len, h.small, h.row.below hb, fun x hx => (h.each x hx).below hb⟩
theorem LssAt.get {w : World} {a : Option Addr} {n cap : Nat} {xs : List Ls} (h : LssAt w a n cap xs) {i : Nat} (hi : i < xs.length) : ∃ b off, a = some ⟨b, off, none⟩ ∧ b < w.heap.size ∧
    w.cell? ⟨b, off + i, none⟩ = some (.slice (xs.getD i default).a (xs.getD i default).l.length (xs.getD i default).cap) := h.row.cell (by simp [List.getD_eq_getElem?_getD, List.getElem?_eq_getElem hi]; rfl)
theorem getL {xs : List Ls} {k : Nat} (h : k < xs.length) : xs.getD k default = xs[k] := by simp [List.getD_eq_getElem?_getD, List.getElem?_eq_getElem h]
theorem idxF_any (k : Nat) (caps : Array Value) (f : Int → Bool) (a : Option Addr) (n cap : Nat) (xs : List Int) (w : World) (hx : IntsAt w a n cap xs) (hent : ∀ args w, (callFunc k args).run Tryz.prog w = .ok (.enter k args) w)
    (hf : ∀ x, x ∈ xs → ∀ w1, Below w.heap.size w w1 → Calls Tryz.prog k (#[.int .i64 x] ++ caps) w1 fun e w' => e = .returned (.bool (f x)) ∧ Below w1.heap.size w1 w') :
    Calls Tryz.prog 145 #[.slice a n cap, .func (.func k) #[] caps] w (IdxPost w (xs.any f)) := by
  have hl := hx.small
  obtain rfl := hx.len
  go_enter Tryz.func145, Tryz.ntmps145
  go_wp2_with fail
  go_loopw [8] (fun i wr => ∃ j : Nat, j ≤ xs.length ∧ i = .int .i64 j ∧ Below w.heap.size w wr ∧ (xs.take j).any f = false) (fun i _ => xs.length - (RowKit.intOf i).toNat)
  case atStart => exact ⟨0, Nat.zero_le _, rfl, Below.refl _ _, rfl⟩
  case round =>
    obtain ⟨j, hj, rfl, hB, hall⟩ := hrel
    have Hall := Lib.hid hall
    clear hall
    have hnn : (0 : Int) ≤ j := by omega
    by_cases hlt : j < xs.length
    · obtain ⟨b, o, rfl, _, d0⟩ := (hx.below hB).get hlt
      have i1 : (j : Int) < (xs.length : Int) := by omega
      have Hat := Lib.hid (any_take (f := f) hlt)
      have Hhit := Lib.hid (any_hit (f := f) hlt)
      have hfx := hf _ (List.getElem_mem hlt) wr hB
      rw [getI hlt] at d0
      generalize xs[j] = x at *
      cases hfv : f x
      · rw [hfv] at hfx
        have Hfv := Lib.hid hfv
        clear hfv
        go_wp2_with fail
        refine hfx.mono ?_
        rintro e w2 ⟨rfl, hb2⟩
        go_wp2_with fail
        go_roundw
        case rel => exact ⟨j + 1, by omega, by go_num, hB.ch2 hb2, by rw [Hat.out, Hall.out, Hfv.out]; rfl⟩
        case measure => simp [RowKit.intOf]; omega
      · rw [hfv] at hfx
        have Hfv := Lib.hid (Hhit.out hfv)
        clear hfv
        go_wp2_with fail
        refine hfx.mono ?_
        rintro e w2 ⟨rfl, hb2⟩
        go_wp2_with fail
        go_ret
        exact ⟨_, rfl, by rw [Hfv.out]; simp, hB.ch2 hb2⟩
    · rw [List.take_of_length_le (by omega)] at Hall
      go_wp2_with fail
      go_ret
      exact ⟨_, rfl, by rw [Hall.out]; rfl, hB⟩
theorem conF_any (k : Nat) (caps : Array Value) (f : Int → Bool) (a : Option Addr) (n cap : Nat) (xs : List Int) (w : World) (hx : IntsAt w a n cap xs) (hent : ∀ args w, (callFunc k args).run Tryz.prog w = .ok (.enter k args) w)
    (hf : ∀ x, x ∈ xs → ∀ w1, Below w.heap.size w w1 → Calls Tryz.prog k (#[.int .i64 x] ++ caps) w1 fun e w' => e = .returned (.bool (f x)) ∧ Below w1.heap.size w1 w') :
    Calls Tryz.prog 116 #[.slice a n cap, .func (.func k) #[] caps] w fun e w' => e = .returned (.bool (xs.any f)) ∧ Below w.heap.size w w' := by
  have hI := idxF_any k caps f a n cap xs w hx hent hf
  generalize xs.any f = T at *
  clear hf
  go_enter Tryz.func116, Tryz.ntmps116
  go_wp2_with (go_at_call 145; (with_reducible refine hI.mono ?_); rintro e w1 ⟨i, rfl, hi, hb1⟩; have Hi := Lib.hid hi; clear hi)
  go_ret
  exact ⟨ret_bool Hi.out, hb1⟩
theorem idxB_any (k : Nat) (caps : Array Value) (f : UInt8 → Bool) (a : Option Addr) (n cap : Nat) (xs : List UInt8) (w : World) (hx : BysAt w a n cap xs) (hent : ∀ args w, (callFunc k args).run Tryz.prog w = .ok (.enter k args) w)
    (hf : ∀ x, x ∈ xs → ∀ w1, Below w.heap.size w w1 → Calls Tryz.prog k (#[.int .u8 x.toNat] ++ caps) w1 fun e w' => e = .returned (.bool (f x)) ∧ Below w1.heap.size w1 w') :
    Calls Tryz.prog 160 #[.slice a n cap, .func (.func k) #[] caps] w (IdxPost w (xs.any f)) := by
  have hl := hx.small
  obtain rfl := hx.len
  go_enter Tryz.func160, Tryz.ntmps160
  go_wp2_with fail
  go_loopw [8] (fun i wr => ∃ j : Nat, j ≤ xs.length ∧ i = .int .i64 j ∧ Below w.heap.size w wr ∧ (xs.take j).any f = false) (fun i _ => xs.length - (RowKit.intOf i).toNat)
  case atStart => exact ⟨0, Nat.zero_le _, rfl, Below.refl _ _, rfl⟩
  case round =>
    obtain ⟨j, hj, rfl, hB, hall⟩ := hrel
    have Hall := Lib.hid hall
    clear hall
    have hnn : (0 : Int) ≤ j := by omega
    by_cases hlt : j < xs.length
    · obtain ⟨b, o, rfl, _, d0⟩ := (hx.below hB).get hlt
      have i1 : (j : Int) < (xs.length : Int) := by omega
      have Hat := Lib.hid (any_take (f := f) hlt)
      have Hhit := Lib.hid (any_hit (f := f) hlt)
      have hfx := hf _ (List.getElem_mem hlt) wr hB
      rw [getB hlt] at d0
      generalize xs[j] = x at *
      cases hfv : f x
      · rw [hfv] at hfx
        have Hfv := Lib.hid hfv
        clear hfv
        go_wp2_with fail
        refine hfx.mono ?_
        rintro e w2 ⟨rfl, hb2⟩
        go_wp2_with fail
        go_roundw
        case rel => exact ⟨j + 1, by omega, by go_num, hB.ch2 hb2, by rw [Hat.out, Hall.out, Hfv.out]; rfl⟩
        case measure => simp [RowKit.intOf]; omega
      · rw [hfv] at hfx
        have Hfv := Lib.hid (Hhit.out hfv)
        clear hfv
        go_wp2_with fail
        refine hfx.mono ?_
        rintro e w2 ⟨rfl, hb2⟩
        go_wp2_with fail
        go_ret
        exact ⟨_, rfl, by rw [Hfv.out]; simp, hB.ch2 hb2⟩
    · rw [List.take_of_length_le (by omega)] at Hall
      go_wp2_with fail
      go_ret
      exact ⟨_, rfl, by rw [Hall.out]; rfl, hB⟩
theorem conB_any (k : Nat) (caps : Array Value) (f : UInt8 → Bool) (a : Option Addr) (n cap : Nat) (xs : List UInt8) (w : World) (hx : BysAt w a n cap xs) (hent : ∀ args w, (callFunc k args).run Tryz.prog w = .ok (.enter k args) w)
    (hf : ∀ x, x ∈ xs → ∀ w1, Below w.heap.size w w1 → Calls Tryz.prog k (#[.int .u8 x.toNat] ++ caps) w1 fun e w' => e = .returned (.bool (f x)) ∧ Below w1.heap.size w1 w') :
    Calls Tryz.prog 135 #[.slice a n cap, .func (.func k) #[] caps] w fun e w' => e = .returned (.bool (xs.any f)) ∧ Below w.heap.size w w' := by
  have hI := idxB_any k caps f a n cap xs w hx hent hf
  generalize xs.any f = T at *
  clear hf
  go_enter Tryz.func135, Tryz.ntmps135
  go_wp2_with (go_at_call 160; (with_reducible refine hI.mono ?_); rintro e w1 ⟨i, rfl, hi, hb1⟩; have Hi := Lib.hid hi; clear hi)
  go_ret
  exact ⟨ret_bool Hi.out, hb1⟩
theorem idxS_any (k : Nat) (caps : Array Value) (f : Ls → Bool) (a : Option Addr) (n cap : Nat) (xs : List Ls) (w : World) (hx : LssAt w a n cap xs) (hent : ∀ args w, (callFunc k args).run Tryz.prog w = .ok (.enter k args) w)
    (hf : ∀ x, x ∈ xs → ∀ w1, Below w.heap.size w w1 → Calls Tryz.prog k (#[.slice x.a x.l.length x.cap] ++ caps) w1 fun e w' => e = .returned (.bool (f x)) ∧ Below w1.heap.size w1 w') :
    Calls Tryz.prog 148 #[.slice a n cap, .func (.func k) #[] caps] w (IdxPost w (xs.any f)) := by
  have hl := hx.small
  obtain rfl := hx.len
  go_enter Tryz.func148, Tryz.ntmps148
  go_wp2_with fail
  go_loopw [8] (fun i wr => ∃ j : Nat, j ≤ xs.length ∧ i = .int .i64 j ∧ Below w.heap.size w wr ∧ (xs.take j).any f = false) (fun i _ => xs.length - (RowKit.intOf i).toNat)
  case atStart => exact ⟨0, Nat.zero_le _, rfl, Below.refl _ _, rfl⟩
  case round =>
    obtain ⟨j, hj, rfl, hB, hall⟩ := hrel
    have Hall := Lib.hid hall
    clear hall
    have hnn : (0 : Int) ≤ j := by omega
    by_cases hlt : j < xs.length
    · obtain ⟨b, o, rfl, _, d0⟩ := (hx.below hB).get hlt
      have i1 : (j : Int) < (xs.length : Int) := by omega
      have Hat := Lib.hid (any_take (f := f) hlt)
      have Hhit := Lib.hid (any_hit (f := f) hlt)
      have hfx := hf _ (List.getElem_mem hlt) wr hB
      rw [getL hlt] at d0
      generalize xs[j] = x at *
      cases hfv : f x
      · rw [hfv] at hfx
        have Hfv := Lib.hid hfv
        clear hfv
        go_wp2_with fail
        refine hfx.mono ?_
        rintro e w2 ⟨rfl, hb2⟩
        go_wp2_with fail
        go_roundw
        case rel => exact ⟨j + 1, by omega, by go_num, hB.ch2 hb2, by rw [Hat.out, Hall.out, Hfv.out]; rfl⟩
        case measure => simp [RowKit.intOf]; omega
      · rw [hfv] at hfx
        have Hfv := Lib.hid (Hhit.out hfv)
        clear hfv
        go_wp2_with fail
        refine hfx.mono ?_
        rintro e w2 ⟨rfl, hb2⟩
        go_wp2_with fail
        go_ret
        exact ⟨_, rfl, by rw [Hfv.out]; simp, hB.ch2 hb2⟩
    · rw [List.take_of_length_le (by omega)] at Hall
      go_wp2_with fail
      go_ret
      exact ⟨_, rfl, by rw [Hall.out]; rfl, hB⟩
theorem conS_any (k : Nat) (caps : Array Value) (f : Ls → Bool) (a : Option Addr) (n cap : Nat) (xs : List Ls) (w : World) (hx : LssAt w a n cap xs) (hent : ∀ args w, (callFunc k args).run Tryz.prog w = .ok (.enter k args) w)
    (hf : ∀ x, x ∈ xs → ∀ w1, Below w.heap.size w w1 → Calls Tryz.prog k (#[.slice x.a x.l.length x.cap] ++ caps) w1 fun e w' => e = .returned (.bool (f x)) ∧ Below w1.heap.size w1 w') :
    Calls Tryz.prog 120 #[.slice a n cap, .func (.func k) #[] caps] w fun e w' => e = .returned (.bool (xs.any f)) ∧ Below w.heap.size w w' := by
  have hI := idxS_any k caps f a n cap xs w hx hent hf
  generalize xs.any f = T at *
  clear hf
  go_enter Tryz.func120, Tryz.ntmps120
  go_wp2_with (go_at_call 148; (with_reducible refine hI.mono ?_); rintro e w1 ⟨i, rfl, hi, hb1⟩; have Hi := Lib.hid hi; clear hi)
  go_ret
  exact ⟨ret_bool Hi.out, hb1⟩
end Go.Proofs.YtodkbfbbpfghiaaGreat
namespace Go.Proofs.YtodkbfbbpfghiaaGreat.SL
open Go Go.RowKit Go.Proofs.YtodkbfbbpfghiaaGreat
/-- The blocks of the words held from the beginning: those behind the n operations' words. -/
def heldL (n : Nat) (Ls : List (List Nat)) : Nat → List Nat := fun i => if i < n then [] else Ls.getD (i - n) []
def HeldAll (a0 : Act) (w : World) (F0 : List Nat) : List Sp → List (List Nat) → Prop
  | x :: xs, L :: Ls => (x.A (a0.tmps.getD x.sub undef) w.drew L ∧ ∀ k ∈ L, k ∈ F0 ∧ k < w.heap.size) ∧ HeldAll a0 w F0 xs Ls
  | [], [] => True
  | _, _ => False
theorem HeldAll.get {a0 : Act} {w : World} {F0 : List Nat} : ∀ {xs : List Sp} {Ls : List (List Nat)} (_ : HeldAll a0 w F0 xs Ls) (i : Nat) (y : Sp), xs[i]? = some y →
    y.A (a0.tmps.getD y.sub undef) w.drew (Ls.getD i []) ∧ ∀ k ∈ Ls.getD i [], k ∈ F0 ∧ k < w.heap.size
  | x :: xs, L :: Ls, h, 0, y, hy => by
    simp at hy
    subst hy
    exact h.1
  | x :: xs, L :: Ls, h, i + 1, y, hy => by
    have := h.2.get i y (by simpa using hy)
    simpa using this
  | [], [], _, i, y, hy => by simp at hy
  | [], _ :: _, h, _, _, _ => h.elim
  | _ :: _, [], h, _, _, _ => h.elim
theorem held_all {ops : List Oper} {Γ : List Sp} {a0 : Act} {w : World} {F0 : List Nat} {Ls : List (List Nat)} (xs : List Sp) (hx : Γ.drop ops.length = xs) (h : HeldAll a0 w F0 xs Ls) :
    ∀ i y, ops.length ≤ i → Γ[i]? = some y → y.A (a0.tmps.getD y.sub undef) w.drew (heldL ops.length Ls i) ∧ ∀ k ∈ heldL ops.length Ls i, k ∈ F0 ∧ k < w.heap.size := by
  intro i y hi hy
  unfold heldL
  rw [if_neg (by omega)]
  refine h.get (i - ops.length) y ?_
  rw [← hx, List.getElem?_drop, ← hy]
  congr 1
  omega
theorem heldL_apart {n : Nat} {Ls : List (List Nat)} (h : Ls.Pairwise fun L M => ∀ k ∈ L, k ∉ M) : ∀ i j, i ≠ j → n ≤ i → n ≤ j → ∀ k ∈ heldL n Ls i, k ∉ heldL n Ls j := by
  have key : ∀ i j, i < j → ∀ k ∈ Ls.getD i [], k ∉ Ls.getD j [] := fun i j hij k hk hk' => by
    by_cases hj : j < Ls.length
    · have := List.pairwise_iff_getElem.1 h i j (by omega) hj hij
      simp only [List.getD_eq_getElem?_getD, List.getElem?_eq_getElem hj, List.getElem?_eq_getElem (show i < Ls.length by omega), Option.getD_some] at hk hk'
      exact this k hk hk'
    · rw [List.getD_eq_getElem?_getD, List.getElem?_eq_none (by omega)] at hk'
      simp at hk'
  intro i j hij hi hj k hk hk'
  unfold heldL at hk hk'
  rw [if_neg (by omega)] at hk hk'
  rcases (by omega : i - n < j - n ∨ j - n < i - n) with h' | h'
  · exact key _ _ h' k hk hk'
  · exact key _ _ h' k hk' hk
end Go.Proofs.YtodkbfbbpfghiaaGreat.SL
