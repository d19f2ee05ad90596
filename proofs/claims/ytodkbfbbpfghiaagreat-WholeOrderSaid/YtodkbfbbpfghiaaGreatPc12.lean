/-
  Lemmas and walks for the laws on roads and boards: what each function of the program answers, for every input.
-/
import Derived.Test.YtodkbfbbpfghiaaGreatPc06
import Derived.Test.YtodkbfbbpfghiaaGreatPc05
import Derived.Shelf.SlGeneric
import Derived.Shelf.Bits.Mul64
import Derived.Ground.NamesProg
import Derived.Test.YtodkbfbbpfghiaaGreatProg
import Derived.Test.YtodkbfbbpfghiaaGreatChecked
import Derived.ProofKit
import Derived.SizedLaws
import Derived.Lib.SmallJoins
import Derived.Deep.Slices
import Derived.Deep.Fields
import Derived.OpenShut
set_option linter.unusedSimpArgs false
set_option linter.unusedVariables false
set_option linter.unnecessarySimpa false
namespace Go.Proofs.YtodkbfbbpfghiaaGreat
open Go.RowKit Go.Shelf
set_option maxHeartbeats 4000000
set_option maxRecDepth 100000
def shwOk (l : List (Int × Int)) (k : Nat) : Bool := decide (0 ≤ (l.getD k default).1) && decide ((l.getD k default).1 ≤ (l.getD k default).2) && decide ((l.getD k default).2 ≤ 1000) && (decide (k = 0) || decide ((l.getD (k - 1) default).2 < (l.getD k default).1))
def shwN (l : List (Int × Int)) (k : Nat) : Bool := (List.range k).all (shwOk l)
theorem shwN_succ (l : List (Int × Int)) (k : Nat) : shwN l (k + 1) = (shwN l k && shwOk l k) := by
  unfold shwN
  rw [List.range_succ, List.all_append]; simp
theorem getR {l : List (Int × Int)} {i : Nat} (h : i < l.length) : l.getD i default = l[i] := by simp [List.getD_eq_getElem?_getD, List.getElem?_eq_getElem h]
theorem shwB_N (l : List (Int × Int)) : shwB l = shwN l l.length := by
  rw [Bool.eq_iff_iff, shwB_iff]
  unfold shwN
  simp only [List.all_eq_true, List.mem_range]
  constructor
  · rintro ⟨h1, h2⟩ i hi
    have a := h1 _ (List.getElem_mem hi)
    unfold shwOk
    rw [getR hi]
    simp only [Bool.and_eq_true, Bool.or_eq_true, decide_eq_true_eq]
    refine ⟨⟨⟨a.1, a.2.1⟩, a.2.2⟩, ?_⟩
    rcases Nat.eq_zero_or_pos i with e | e
    · exact .inl e
    · right
      rw [getR (show i - 1 < l.length by omega)]
      exact List.pairwise_iff_getElem.1 h2 (i - 1) i (by omega) hi (by omega)
  · intro h
    have hk : ∀ i (hi : i < l.length), 0 ≤ l[i].1 ∧ l[i].1 ≤ l[i].2 ∧ l[i].2 ≤ 1000 ∧ (i = 0 ∨ (l.getD (i - 1) default).2 < l[i].1) := fun i hi => by
      have := h i hi
      unfold shwOk at this
      rw [getR hi] at this
      simp only [Bool.and_eq_true, Bool.or_eq_true, decide_eq_true_eq] at this
      exact ⟨this.1.1.1, this.1.1.2, this.1.2, this.2⟩
    refine ⟨fun r hr => ?_, List.pairwise_iff_getElem.2 fun i j hi hj hij => ?_⟩
    · obtain ⟨i, hi, rfl⟩ := List.getElem_of_mem hr
      have := hk i hi
      exact ⟨this.1, this.2.1, this.2.2.1⟩
    · induction j with
      | zero => omega
      | succ j ih =>
        have a := (hk (j + 1) hj).2.2.2
        rcases a with a | a
        · omega
        · simp only [Nat.add_sub_cancel] at a
          rw [getR (show j < l.length by omega)] at a
          rcases (by omega : i = j ∨ i < j) with e | e
          · subst e; exact a
          · have b := ih (by omega) e
            have c := hk j (by omega)
            omega
theorem shwN_pre {l : List (Int × Int)} {k n : Nat} (hk : k ≤ n) (h : shwN l k = false) : shwN l n = false := by
  unfold shwN at *
  rw [Bool.eq_false_iff] at h ⊢
  intro h2
  apply h
  rw [List.all_eq_true] at h2 ⊢
  exact fun i hi => h2 i (List.mem_range.2 (by have := List.mem_range.1 hi; omega))
def Cs.shw (c : Cs) (l : List (Int × Int)) (n : Int) : Bool := decide (c.chk = 0) && (shwB l && decide (n ≤ (sumD c.s l : Int)))
theorem sumD_take {s : List Pn} {l : List (Int × Int)} {k : Nat} (hk : k < l.length) : sumD s (l.take (k + 1)) = sumD s (l.take k) + dem s (l.getD k default).1 (l.getD k default).2 := by
  rw [take_get hk, sumD_snoc]
theorem sumD_bound (s : List Pn) (l : List (Int × Int)) : sumD s l ≤ l.length * s.length := by
  unfold sumD
  induction l with
  | nil => simp
  | cons r l ih =>
    simp only [List.map_cons, List.sum_cons, List.length_cons]
    have := dem_le (s := s) r.1 r.2
    rw [Nat.succ_mul]
    omega
theorem SL.pu_held {ops : List Oper} {Γ : List SL.Sp} {a0 : Act} {w : World} {F0 : List Nat} {x : SL.Sp} (h : Γ.length = ops.length + 1) (hx : Γ[ops.length]? = some x) (hA : x.A (a0.tmps.getD x.sub undef) w.drew []) :
    ∀ i y, ops.length ≤ i → Γ[i]? = some y → y.A (a0.tmps.getD y.sub undef) w.drew ((fun _ => []) i) ∧ ∀ k ∈ (fun (_ : Nat) => ([] : List Nat)) i, k ∈ F0 ∧ k < w.heap.size := by
  intro i y hi hy
  by_cases e : i = ops.length
  · subst e
    rw [hx] at hy
    cases hy
    exact ⟨hA, fun k hk => by cases hk⟩
  · rw [List.getElem?_eq_none (by omega)] at hy
    cases hy
end Go.Proofs.YtodkbfbbpfghiaaGreat
namespace Go.Proofs
open Go.Shelf
def Tryz.mulA_ren : Go.Shelf.Ren := ⟨fun | 212 => 151 | 263 => 163 | 264 => 164 | n => n, fun | 46 => 155 | 51 => 165 | 146 => 166 | 53 => 168 | 148 => 169 | n => n, fun | n => n⟩
theorem Tryz.mulA : Go.Proofs.Lays.n212 Tryz.prog Tryz.mulA_ren := {
  mixed := by kernel_rfl
  f212 := Tryz.func151.trans (congrArg some (by kernel_rfl))
  f263 := Tryz.func163.trans (congrArg some (by kernel_rfl))
  f264 := Tryz.func164.trans (congrArg some (by kernel_rfl))
  t46 := Tryz.underlying155
  a46 := Tryz.isAgg155
  z46 := Tryz.sizeOf155
  v46 := Tryz.zeroValue155
  t51 := Tryz.underlying165
  a51 := Tryz.isAgg165
  z51 := Tryz.sizeOf165
  v51 := Tryz.zeroValue165
  t53 := Tryz.underlying168
  a53 := Tryz.isAgg168
  z53 := Tryz.sizeOf168
  v53 := Tryz.zeroValue168
  t146 := Tryz.underlying166
  a146 := Tryz.isAgg166
  z146 := Tryz.sizeOf166
  v146 := Tryz.zeroValue166
  t148 := Tryz.underlying169
  a148 := Tryz.isAgg169
  z148 := Tryz.sizeOf169
  v148 := Tryz.zeroValue169 }
end Go.Proofs
namespace Go.Proofs.YtodkbfbbpfghiaaGreat
open Go.ChangeShapes Go.WideShapes Go.ChangeAt Go.RowKit Go.Joins Go.Deep
set_option maxRecDepth 100000
set_option maxHeartbeats 1000000
theorem Tryz.own : ownKnob Tryz.prog.godebug = none := by kernel_rfl
theorem Tryz.laidOut : laidOutB Tryz.prog = true := by kernel_rfl
theorem Tryz.cellsInt : Tryz.prog.cellsOf 3 = 1 := by kernel_rfl
theorem Tryz.cellsCase : Tryz.prog.cellsOf 24 = 4 := by kernel_rfl
theorem Tryz.cellsPart : Tryz.prog.cellsOf 49 = 8 := by kernel_rfl
theorem Tryz.cellsSpan : Tryz.prog.cellsOf 47 = 4 := by kernel_rfl
theorem Tryz.cellsBool : Tryz.prog.cellsOf 4 = 1 := by kernel_rfl
theorem Tryz.cellsInts : Tryz.prog.cellsOf 34 = 1 := by kernel_rfl
theorem Tryz.bytesInt : Tryz.prog.bytesOf 3 = 8 := by kernel_rfl
theorem Tryz.bytesPart : Tryz.prog.bytesOf 49 = 96 := by kernel_rfl
theorem Tryz.cellTypesCase : Tryz.prog.cellTypes Tryz.prog.depth 24 = some [9, 3, 3, 22] := by kernel_rfl
theorem cell_size {w : World} {a : Addr} {v : Value} (h : w.cell? a = some v) : a.spot = none ∧ a.block < w.heap.size := by
  refine ⟨World.cell?_spot h, ?_⟩
  by_cases hl : a.block < w.heap.size
  · exact hl
  · simp only [World.cell?] at h
    rw [Array.getElem?_eq_none (by omega)] at h
    simp at h
theorem add_plain {b o : Nat} (k : Nat) : (⟨b, o, none⟩ : Addr).add k = ⟨b, o + k, none⟩ := by
  unfold Addr.add
  split
  · rename_i h; subst h; simp
  · rfl
section
variable {H : Type} {enc : TypeId × Value → H} {w : World} {base : Nat}
theorem weightsAll_mem {P : Program} {e : TypeId} : ∀ {l : List (DataW H)} {d : DataW H} {n : Nat}, d ∈ l → n ∈ d.weights P e → n ∈ DataW.weightsAll P e l
  | x :: l, d, n, hd, hn => by
    unfold DataW.weightsAll
    rcases List.mem_cons.1 hd with rfl | hd
    · exact List.mem_append.2 (.inl hn)
    · exact List.mem_append.2 (.inr (weightsAll_mem hd hn))
theorem int_cell {t : TypeId} {k : IntKind} {n : Nat} {v : Value} {y : DataW H × List MemPlace} (ht : Tryz.prog.underlying t = some (.int k)) (h : DataW.trod enc Tryz.prog w base (fun _ => true) true n t [v] = some y) : ∃ x, v = .int k x := by
  obtain ⟨x, e0, _, _⟩ := DataW.trod_int ht h
  simp at e0
  exact ⟨x, e0⟩
/-- A list of ints in a cell. -/
theorem ints_cell {n : Nat} {v : Value} {y : DataW H × List MemPlace} (h : DataW.trod enc Tryz.prog w base (fun _ => true) true n 34 [v] = some y) (hs : ∀ k ∈ y.1.weights Tryz.prog 34, k ≤ reachBytes) :
    ∃ a len cap xs, v = .slice a len cap ∧ LAt w a len cap xs ∧ len ≤ cap ∧ (a = none → cap = 0) := by
  rcases open_slice1 Tryz.underlying34 Tryz.cellsInt h with ⟨hc, _⟩ | ⟨a, len, cap, m, k, V, D, Pl, hc, _, hl, _, hm, rfl, hat⟩
  · simp at hc
    exact ⟨none, 0, 0, [], hc, (IntsAt.nilAt w).lat, Nat.le_refl _, fun _ => rfl⟩
  · simp at hc
    simp only [if_true] at hm
    subst hm
    have hb : m * 8 ≤ reachBytes := by
      have := hs _ (by simp only [DataW.weights, Tryz.underlying34]; exact List.mem_cons_self ..)
      rw [Tryz.bytesInt] at this
      simp only [List.length_map, List.length_range] at this
      rw [show len + (m - len) = m by omega] at this
      exact this
    unfold reachBytes at hb
    rcases Nat.eq_zero_or_pos m with h0 | h0
    · subst h0
      obtain rfl : len = 0 := by omega
      exact ⟨some a, 0, 0, [], hc, .inr ⟨rfl, rfl, rfl⟩, Nat.le_refl _, fun h => by cases h⟩
    · obtain ⟨z1, z2⟩ := cell_size (hat 0 h0).1
      obtain ⟨ab, ao, sp⟩ := a
      simp [Addr.add] at z1 z2
      subst z1
      have hV : ∀ i, i < m → ∃ x, V i = .int .i64 x := fun i hi => int_cell Tryz.underlying3 (hat i hi).2
      refine ⟨some ⟨ab, ao, none⟩, len, m, (List.range len).map fun i => match V i with | .int _ z => z | _ => 0, hc, .inl ⟨by simp, by simp; omega, fun h => (by cases h), fun x hx => ?_⟩, hl, fun h => by cases h⟩
      obtain rfl := Option.some.inj hx
      refine ⟨rfl, z2, fun i u hu => ?_⟩
      simp only [List.map_map, List.getElem?_map, Option.map_eq_some_iff] at hu
      obtain ⟨j, hj, rfl⟩ := hu
      obtain ⟨hj1, hj2⟩ := List.getElem?_eq_some_iff.1 hj
      simp at hj1 hj2
      subst hj2
      obtain ⟨z, hz⟩ := hV i (by omega)
      have := (hat i (by omega)).1
      rw [add_plain] at this
      simp only [Function.comp, hz] at this ⊢
      exact this
theorem list8 {l : List Value} (h : l.length = 8) : ∃ a b c d e f g i, l = [a, b, c, d, e, f, g, i] := by
  match l, h with
  | [a, b, c, d, e, f, g, i], _ => exact ⟨a, b, c, d, e, f, g, i, rfl⟩
theorem list_getE {α : Type} {l : List α} {i : Nat} {x : α} (h : l[i]? = some x) : i < l.length := (List.getElem?_eq_some_iff.1 h).1
/-- A part in its cells. -/
theorem part_cells {n : Nat} {cs : List Value} {y : DataW H × List MemPlace} (h : DataW.trod enc Tryz.prog w base (fun _ => true) true n 49 cs = some y) (hs : ∀ k ∈ y.1.weights Tryz.prog 49, k ≤ reachBytes) : ∃ p : Pt, cs = p.cs ∧ PtAt w p := by
  obtain ⟨xs, m, rfl, rfl, hl, hxl, hf⟩ := DataW.trod_struct Tryz.underlying49 h
  rw [Tryz.cellsPart] at hl
  obtain ⟨c0, c1, c2, c3, c4, c5, c6, c7, rfl⟩ := list8 hl
  have f0 : DataW.trod enc Tryz.prog w base (fun _ => true) true m 34 [c0] = xs[0]? := by have := hf 0 _ rfl; simpa [Tryz.cellsInts] using this
  have f1 : DataW.trod enc Tryz.prog w base (fun _ => true) true m 47 [c1, c2, c3, c4] = xs[1]? := by have := hf 1 _ rfl; simpa [Tryz.cellsSpan] using this
  have f2 : DataW.trod enc Tryz.prog w base (fun _ => true) true m 4 [c5] = xs[2]? := by have := hf 2 _ rfl; simpa [Tryz.cellsBool] using this
  have f3 : DataW.trod enc Tryz.prog w base (fun _ => true) true m 3 [c6] = xs[3]? := by have := hf 3 _ rfl; simpa [Tryz.cellsInt] using this
  have f4 : DataW.trod enc Tryz.prog w base (fun _ => true) true m 34 [c7] = xs[4]? := by have := hf 4 _ rfl; simpa [Tryz.cellsInts] using this
  have hx : xs.length = 5 := hxl
  match xs, hx with
  | [y0, y1, y2, y3, y4], _ =>
    simp only [List.getElem?_cons_zero, List.getElem?_cons_succ] at f0 f1 f2 f3 f4
    have hw : ∀ k, k ∈ y0.1.weights Tryz.prog 34 ∨ k ∈ y4.1.weights Tryz.prog 34 → k ≤ reachBytes := fun k hk => hs k (by
      simp only [DataW.weights, Tryz.underlying49, List.map_cons, List.map_nil, DataW.weightsEach, List.mem_append]
      rcases hk with hk | hk
      · exact .inl hk
      · exact .inr (.inr (.inr (.inr (.inl hk)))))
    obtain ⟨sa, sn, sc, sh, rfl, h1, _, _⟩ := ints_cell f0 fun k hk => hw k (.inl hk)
    obtain ⟨ra, rn, rc, re, rfl, h2, _, _⟩ := ints_cell f4 fun k hk => hw k (.inr hk)
    obtain ⟨ft, e5, _⟩ := DataW.trod_bool Tryz.underlying4 f2
    obtain ⟨fby, rfl⟩ := int_cell Tryz.underlying3 f3
    simp at e5
    subst e5
    obtain ⟨zs, m2, _, _, _, hzl, hg⟩ := DataW.trod_struct Tryz.underlying47 f1
    have g0 : DataW.trod enc Tryz.prog w base (fun _ => true) true m2 3 [c1] = zs[0]? := by have := hg 0 _ rfl; simpa [Tryz.cellsInt] using this
    have g1 : DataW.trod enc Tryz.prog w base (fun _ => true) true m2 3 [c2] = zs[1]? := by have := hg 1 _ rfl; simpa [Tryz.cellsInt] using this
    have g2 : DataW.trod enc Tryz.prog w base (fun _ => true) true m2 3 [c3] = zs[2]? := by have := hg 2 _ rfl; simpa [Tryz.cellsInt] using this
    have g3 : DataW.trod enc Tryz.prog w base (fun _ => true) true m2 3 [c4] = zs[3]? := by have := hg 3 _ rfl; simpa [Tryz.cellsInt] using this
    have hz : zs.length = 4 := hzl
    match zs, hz with
    | [z0, z1, z2, z3], _ =>
      simp only [List.getElem?_cons_zero, List.getElem?_cons_succ] at g0 g1 g2 g3
      obtain ⟨lo, rfl⟩ := int_cell Tryz.underlying3 g0
      obtain ⟨hi, rfl⟩ := int_cell Tryz.underlying3 g1
      obtain ⟨lob, rfl⟩ := int_cell Tryz.underlying3 g2
      obtain ⟨hib, rfl⟩ := int_cell Tryz.underlying3 g3
      obtain rfl := h1.len
      obtain rfl := h2.len
      exact ⟨⟨sa, sc, sh, lo, hi, lob, hib, ft, fby, ra, rc, re⟩, rfl, h1, h2⟩
end
/-- A case by value. -/
theorem case_open {H : Type} {enc : TypeId × Value → H} {W : World} {base : Nat} {v : Value} {d : DataW H} {p : List MemPlace} (hv : Value.okWide Tryz.prog W .any base 24 v)
    (h : DataW.Trod enc Tryz.prog W 0 (fun _ => true) true 24 v d p) (hs : ∀ n ∈ d.weights Tryz.prog 24, n ≤ reachBytes) : ∃ c : Cs, v = c.v ∧ CsAt W c ∧ c.ps.length ≤ c.cap := by
  have hv0 := hv
  obtain ⟨c0, c1, c2, c3, y0, y1, y2, y3, m, rfl, rfl, rfl, h0, h1, h2, h3⟩ := open_agg4 Tryz.underlying24 (by kernel_rfl) Tryz.cellsCase hv h
  obtain ⟨ware, e0, _, hware⟩ := DataW.trod_string Tryz.underlying9 h0
  obtain ⟨lim, rfl⟩ := int_cell Tryz.underlying3 h1
  obtain ⟨byr, rfl⟩ := int_cell Tryz.underlying3 h2
  simp at e0
  subst e0
  rcases open_slice Tryz.underlying22 h3 with ⟨hc, _⟩ | ⟨a, len, cap, m', k, D, Pl, hc, _, hl, _, hm, rfl, hat⟩
  · simp at hc
    subst hc
    exact ⟨⟨ware, lim, byr, none, 0, []⟩, rfl, ⟨hware, rfl, by simp, RowAt.nilAt _, fun p hp => by simp at hp⟩, Nat.le_refl _⟩
  · simp at hc
    subst hc
    simp only [if_true] at hm
    subst hm
    have hw : ∀ k, k ∈ DataW.weights Tryz.prog 22 (.slice ((List.range len).map D) ((List.range (m' - len)).map fun j => D (len + j))) → k ≤ reachBytes := fun k hk => hs k (by
      simp only [DataW.weights, Tryz.underlying24, DataW.weightsEach, List.mem_append, List.map_cons, List.map_nil] at hk ⊢
      exact .inr (.inr (.inr (.inl hk))))
    simp only [DataW.weights, Tryz.underlying22] at hw
    have hb : m' * 96 ≤ reachBytes := by
      have := hw _ (List.mem_cons_self ..)
      rw [Tryz.bytesPart] at this
      simp only [List.length_map, List.length_range] at this
      rw [show len + (m' - len) = m' by omega] at this
      exact this
    unfold reachBytes at hb
    obtain ⟨hsp, hblk⟩ : a.spot = none ∧ a.block < W.heap.size := by
      simp only [Value.okWide, Tryz.underlying24] at hv0
      obtain ⟨cs, he, _, ts, k1, _, k2⟩ := hv0
      rw [Tryz.cellTypesCase] at k1
      obtain rfl := Option.some.inj k1
      obtain rfl : #[.string ware, .int .i64 lim, .int .i64 byr, .slice (some a) len m'] = cs := by simpa using he
      obtain ⟨u, hu, k3⟩ := k2 3 (.slice (some a) len m') rfl
      obtain rfl : 22 = u := by simpa using hu
      simp only [Cell.okWide, Tryz.underlying22, Cell.ok] at k3
      obtain ⟨_, _, _, hsp, row, cells, hsh, _⟩ := k3
      refine ⟨hsp, ?_⟩
      simp only [World.shape?] at hsh
      by_cases hlt : a.block < W.heap.size
      · exact hlt
      · rw [Array.getElem?_eq_none (by omega)] at hsh
        simp at hsh
    obtain ⟨ab, ao, sp⟩ := a
    simp only at hsp hblk
    subst hsp
    have hex : ∀ i, ∃ p : Pt, i < len → (∃ cs, W.cells? 0 ((⟨ab, ao, none⟩ : Addr).add (i * 8)) 8 = some cs ∧ cs = p.cs) ∧ PtAt W p := fun i => by
      by_cases hi : i < len
      · obtain ⟨cs, e1, e2⟩ := hat i (by omega)
        rw [Tryz.cellsPart] at e1
        obtain ⟨p, e3, e4⟩ := part_cells e2 fun k hk => hw k (List.mem_cons_of_mem _ (List.mem_append.2 (.inl (weightsAll_mem (List.mem_map.2 ⟨i, by simpa using hi, rfl⟩) hk))))
        exact ⟨p, fun _ => ⟨⟨cs, e1, e3⟩, e4⟩⟩
      · exact ⟨default, fun h => absurd h hi⟩
    obtain ⟨F, hF⟩ := Classical.axiomOfChoice hex
    refine ⟨⟨ware, lim, byr, some ⟨ab, ao, none⟩, m', (List.range len).map F⟩, by simp [Cs.v], ⟨hware, by simp, by simp; omega, ⟨fun h => (by cases h), fun x hx => ?_⟩, fun p hp => ?_⟩, by simp; omega⟩
    · obtain rfl := Option.some.inj hx
      refine ⟨rfl, hblk, fun i u hu => ?_⟩
      have hil := list_getE hu
      rw [pcs_length] at hil
      simp at hil
      have hk : i / 8 < len := by omega
      obtain ⟨⟨cs, e1, e2⟩, _⟩ := hF (i / 8) hk
      obtain ⟨_, hcl, hct⟩ := World.cells?_some e1
      have hfg := flat_get (f := Pt.cs) (k := 8) (fun _ => rfl) ((List.range len).map F) (i / 8) (i % 8) (by simpa using hk) (by omega)
      rw [show i / 8 * 8 + i % 8 = i by omega] at hfg
      have hu := hfg.symm.trans hu
      have hgd : ((List.range len).map F).getD (i / 8) default = F (i / 8) := by simp [List.getD_eq_getElem?_getD, hk]
      rw [hgd, ← e2] at hu
      have := hct (i % 8) (by omega)
      rw [hu, add_plain, add_plain] at this
      simp only
      rw [show ao + i = ao + i / 8 * 8 + i % 8 by omega]
      exact this
    · obtain ⟨i, hi, rfl⟩ := List.mem_map.1 hp
      exact (hF i (by simpa using hi)).2
theorem slice_where {W : World} {base : Nat} {t e : TypeId} {a : Addr} {n cap : Nat} (ht : Tryz.prog.underlying t = some (.slice e)) (hv : Value.okWide Tryz.prog W .any base t (.slice (some a) n cap)) : a.spot = none ∧ a.block < W.heap.size := by
  simp only [Value.okWide, ht, Cell.okWide, Cell.ok] at hv
  obtain ⟨_, _, _, hsp, row, cells, hsh, _⟩ := hv
  refine ⟨hsp, ?_⟩
  simp only [World.shape?] at hsh
  by_cases hlt : a.block < W.heap.size
  · exact hlt
  · rw [Array.getElem?_eq_none (by omega)] at hsh
    simp at hsh
theorem okWide_slice {W : World} {base : Nat} {t e : TypeId} {v : Value} (ht : Tryz.prog.underlying t = some (.slice e)) (hv : Value.okWide Tryz.prog W .any base t v) : ∃ a n cap, v = .slice a n cap := by
  simp only [Value.okWide, ht, Cell.okWide, Cell.ok] at hv
  cases v <;> simp at hv
  exact ⟨_, _, _, rfl⟩
/-- A list of ints. -/
theorem ints_open {H : Type} {enc : TypeId × Value → H} {W : World} {base : Nat} {v : Value} {d : DataW H} {p : List MemPlace} (hv : Value.okWide Tryz.prog W .any base 34 v)
    (h : DataW.Trod enc Tryz.prog W 0 (fun _ => true) true 34 v d p) (hs : ∀ n ∈ d.weights Tryz.prog 34, n ≤ reachBytes) : ∃ a n cap xs, v = .slice a n cap ∧ IntsAt W a n cap xs ∧ xs.length ≤ cap := by
  obtain ⟨a0, n0, c0, rfl⟩ := okWide_slice Tryz.underlying34 hv
  obtain ⟨fuel, hf⟩ := h
  obtain ⟨a, n, cap, xs, e, hl, hr, _⟩ := ints_cell (y := (d, p)) (show DataW.trod enc Tryz.prog W 0 (fun _ => true) true fuel 34 [.slice a0 n0 c0] = some (d, p) from hf) hs
  simp only [Value.slice.injEq] at e
  obtain ⟨rfl, rfl, rfl⟩ := e
  refine ⟨_, _, _, xs, rfl, ?_, by rw [← hl.len]; exact hr⟩
  rcases hl with hl | ⟨rfl, rfl, rfl⟩
  · exact hl
  · cases a0 with
    | none => exact IntsAt.nilAt W
    | some x =>
      obtain ⟨h1, h2⟩ := slice_where Tryz.underlying34 hv
      exact ⟨rfl, by simp, fun h => (by cases h), fun y hy => by
        obtain rfl := Option.some.inj hy
        exact ⟨h1, h2, fun i u hi => by simp at hi⟩⟩
end Go.Proofs.YtodkbfbbpfghiaaGreat
