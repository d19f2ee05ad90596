/-
  The law Memory, walked, and its statement.
-/
import Derived.Test.YtelkcohhagblaaaGreatSc02
import Derived.Test.YtelkcohhagblaaaGreatSc07
import Derived.Test.YtelkcohhagblaaaGreatChecked
import Derived.ProofKit
import Derived.SizedLaws
import Derived.Lib.SmallJoins
import Derived.Deep.Slices
import Derived.Deep.Fields
import Derived.OpenShut
import Derived.Test.YtelkcohhagblaaaGreatSc44
import Derived.Test.YtelkcohhagblaaaGreatSc26
import Derived.Test.YtelkcohhagblaaaGreatSc38
import Derived.Test.YtelkcohhagblaaaGreatSc36
import Derived.Test.YtelkcohhagblaaaGreatSc27
import Derived.Test.YtelkcohhagblaaaGreatSc43
import Derived.Test.YtelkcohhagblaaaGreatSc08
import Derived.Test.YtelkcohhagblaaaGreatRows
set_option linter.unusedSimpArgs false
set_option linter.unusedVariables false
set_option linter.unnecessarySimpa false
namespace Go.Proofs.YtelkcohhagblaaaGreat
open Go.RowKit
theorem BdsAt.nilAt (w : World) : BdsAt w none 0 0 [] := ⟨rfl, by simp, fun _ => ⟨rfl, rfl⟩, fun x h => by cases h⟩

theorem RowAt.nilAt (w : World) : RowAt w none 0 [] := ⟨fun _ => ⟨rfl, rfl⟩, fun x h => by cases h⟩

theorem IntsAt.nilAt (w : World) : IntsAt w none 0 0 [] := ⟨rfl, by simp, RowAt.nilAt w⟩

end Go.Proofs.YtelkcohhagblaaaGreat
namespace Go.Proofs.YtelkcohhagblaaaGreat
open Go Go.RowKit
theorem ItmsAt.nilAt (w : World) : ItmsAt w none 0 0 [] := ⟨rfl, by simp, RowAt.nilAt w, fun x hx => by cases hx⟩
end Go.Proofs.YtelkcohhagblaaaGreat
namespace Go.Proofs.YtelkcohhagblaaaGreat
open Go.ChangeShapes Go.WideShapes Go.ChangeAt Go.RowKit Go.Joins Go.Deep
set_option maxRecDepth 100000
set_option maxHeartbeats 2000000
theorem Tryz.own : ownKnob Tryz.prog.godebug = none := by kernel_rfl
theorem Tryz.laidOut : laidOutB Tryz.prog = true := by kernel_rfl
theorem Tryz.cI : Tryz.prog.cellsOf 3 = 1 := by kernel_rfl
theorem Tryz.cU : Tryz.prog.cellsOf 5 = 1 := by kernel_rfl
theorem Tryz.cS : Tryz.prog.cellsOf 9 = 1 := by kernel_rfl
theorem Tryz.cB : Tryz.prog.cellsOf 4 = 1 := by kernel_rfl
theorem Tryz.cItem : Tryz.prog.cellsOf 24 = 16 := by kernel_rfl
theorem Tryz.bItem : Tryz.prog.bytesOf 24 = 144 := by kernel_rfl
theorem itm_add {b o : Nat} (k : Nat) : (⟨b, o, none⟩ : Addr).add k = ⟨b, o + k, none⟩ := by
 unfold Addr.add
 split
 ·rename_i h; subst h; simp
 ·rfl
theorem itm_where {W : World} {base : Nat} {t e : TypeId} {a : Addr} {n cap : Nat} (ht : Tryz.prog.underlying t = some (.slice e)) (hv : Value.okWide Tryz.prog W .any base t (.slice (some a) n cap)) : a.spot = none ∧ a.block < W.heap.size := by
 simp only [Value.okWide, ht, Cell.okWide, Cell.ok] at hv
 obtain ⟨_, _, _, hsp, row, cells, hsh, _⟩ := hv
 refine ⟨hsp, ?_⟩
 simp only [World.shape?] at hsh
 by_cases hlt : a.block < W.heap.size
 ·exact hlt
 ·rw [Array.getElem?_eq_none (by omega)] at hsh
  simp at hsh
theorem itm_slice {W : World} {base : Nat} {t e : TypeId} {v : Value} (ht : Tryz.prog.underlying t = some (.slice e)) (hv : Value.okWide Tryz.prog W .any base t v) : ∃ a n cap, v = .slice a n cap := by
 simp only [Value.okWide, ht, Cell.okWide, Cell.ok] at hv
 cases v <;> simp at hv
 exact ⟨_, _, _, rfl⟩
theorem u8_in {x : Int} (h : (Lit.int .u8 x).wf = true) : 0 ≤ x ∧ x ≤ 255 := by
 have h1 : IntKind.u8.min = 0 := by decide
 have h2 : IntKind.u8.max = 255 := by decide
 have h3 : (decide (IntKind.u8.min ≤ x) && decide (x ≤ IntKind.u8.max)) = true := h
 rw [h1, h2] at h3
 simpa using h3
section
variable {H : Type} {enc : TypeId × Value → H} {w : World} {base : Nat}
theorem int_cw {t : TypeId} {k : IntKind} {n i : Nat} {v : Value} {xs : List (DataW H × List MemPlace)} (ht : Tryz.prog.underlying t = some (.int k)) (h : DataW.trod enc Tryz.prog w base (fun _ => true) true n t [v] = xs[i]?) (hi : i < xs.length) : ∃ x, v = .int k x ∧ (Lit.int k x).wf = true := by
 rw [List.getElem?_eq_getElem hi] at h
 obtain ⟨x, e0, _, e2⟩ := DataW.trod_int ht h
 simp at e0
 exact ⟨x, e0, e2⟩
theorem str_cw {t : TypeId} {n i : Nat} {v : Value} {xs : List (DataW H × List MemPlace)} (ht : Tryz.prog.underlying t = some .string) (h : DataW.trod enc Tryz.prog w base (fun _ => true) true n t [v] = xs[i]?) (hi : i < xs.length) : ∃ x : ByteArray, v = .string x ∧ x.size ≤ maxLen := by
 rw [List.getElem?_eq_getElem hi] at h
 obtain ⟨x, e0, _, e2⟩ := DataW.trod_string ht h
 simp at e0
 exact ⟨x, e0, e2⟩
theorem bool_cw {t : TypeId} {n i : Nat} {v : Value} {xs : List (DataW H × List MemPlace)} (ht : Tryz.prog.underlying t = some .bool) (h : DataW.trod enc Tryz.prog w base (fun _ => true) true n t [v] = xs[i]?) (hi : i < xs.length) : ∃ x, v = .bool x := by
 rw [List.getElem?_eq_getElem hi] at h
 obtain ⟨x, e0, _⟩ := DataW.trod_bool ht h
 simp at e0
 exact ⟨x, e0⟩
theorem list16 {l : List Value} (h : l.length = 16) : ∃ c0 c1 c2 c3 c4 c5 c6 c7 c8 c9 c10 c11 c12 c13 c14 c15, l = [c0, c1, c2, c3, c4, c5, c6, c7, c8, c9, c10, c11, c12, c13, c14, c15] := by
 match l, h with
 | [c0, c1, c2, c3, c4, c5, c6, c7, c8, c9, c10, c11, c12, c13, c14, c15], _ => exact ⟨c0, c1, c2, c3, c4, c5, c6, c7, c8, c9, c10, c11, c12, c13, c14, c15, rfl⟩
/-- An item in its cells. -/
theorem item_cells {n : Nat} {cs : List Value} {y : DataW H × List MemPlace} (h : DataW.trod enc Tryz.prog w base (fun _ => true) true n 24 cs = some y) : ∃ x : Itm, cs = x.cs ∧ x.Wide := by
 obtain ⟨xs, m, rfl, rfl, hl, hxl, hf⟩ := DataW.trod_struct Tryz.underlying24 h
 rw [Tryz.cItem] at hl
 obtain ⟨c0, c1, c2, c3, c4, c5, c6, c7, c8, c9, c10, c11, c12, c13, c14, c15, rfl⟩ := list16 hl
 have hx : xs.length = 16 := hxl
 have f0 : DataW.trod enc Tryz.prog w base (fun _ => true) true m 3 [c0] = xs[0]? := by have := hf 0 _ rfl; simpa [Tryz.cI] using this
 have f1 : DataW.trod enc Tryz.prog w base (fun _ => true) true m 3 [c1] = xs[1]? := by have := hf 1 _ rfl; simpa [Tryz.cI] using this
 have f2 : DataW.trod enc Tryz.prog w base (fun _ => true) true m 5 [c2] = xs[2]? := by have := hf 2 _ rfl; simpa [Tryz.cU] using this
 have f3 : DataW.trod enc Tryz.prog w base (fun _ => true) true m 9 [c3] = xs[3]? := by have := hf 3 _ rfl; simpa [Tryz.cS] using this
 have f4 : DataW.trod enc Tryz.prog w base (fun _ => true) true m 3 [c4] = xs[4]? := by have := hf 4 _ rfl; simpa [Tryz.cI] using this
 have f5 : DataW.trod enc Tryz.prog w base (fun _ => true) true m 3 [c5] = xs[5]? := by have := hf 5 _ rfl; simpa [Tryz.cI] using this
 have f6 : DataW.trod enc Tryz.prog w base (fun _ => true) true m 3 [c6] = xs[6]? := by have := hf 6 _ rfl; simpa [Tryz.cI] using this
 have f7 : DataW.trod enc Tryz.prog w base (fun _ => true) true m 4 [c7] = xs[7]? := by have := hf 7 _ rfl; simpa [Tryz.cB] using this
 have f8 : DataW.trod enc Tryz.prog w base (fun _ => true) true m 3 [c8] = xs[8]? := by have := hf 8 _ rfl; simpa [Tryz.cI] using this
 have f9 : DataW.trod enc Tryz.prog w base (fun _ => true) true m 3 [c9] = xs[9]? := by have := hf 9 _ rfl; simpa [Tryz.cI] using this
 have f10 : DataW.trod enc Tryz.prog w base (fun _ => true) true m 3 [c10] = xs[10]? := by have := hf 10 _ rfl; simpa [Tryz.cI] using this
 have f11 : DataW.trod enc Tryz.prog w base (fun _ => true) true m 3 [c11] = xs[11]? := by have := hf 11 _ rfl; simpa [Tryz.cI] using this
 have f12 : DataW.trod enc Tryz.prog w base (fun _ => true) true m 3 [c12] = xs[12]? := by have := hf 12 _ rfl; simpa [Tryz.cI] using this
 have f13 : DataW.trod enc Tryz.prog w base (fun _ => true) true m 9 [c13] = xs[13]? := by have := hf 13 _ rfl; simpa [Tryz.cS] using this
 have f14 : DataW.trod enc Tryz.prog w base (fun _ => true) true m 3 [c14] = xs[14]? := by have := hf 14 _ rfl; simpa [Tryz.cI] using this
 have f15 : DataW.trod enc Tryz.prog w base (fun _ => true) true m 3 [c15] = xs[15]? := by have := hf 15 _ rfl; simpa [Tryz.cI] using this
 obtain ⟨x0, rfl, e0⟩ := int_cw Tryz.underlying3 f0 (by omega)
 obtain ⟨x1, rfl, e1⟩ := int_cw Tryz.underlying3 f1 (by omega)
 obtain ⟨x2, rfl, e2⟩ := int_cw Tryz.underlying5 f2 (by omega)
 obtain ⟨x3, rfl, e3⟩ := str_cw Tryz.underlying9 f3 (by omega)
 obtain ⟨x4, rfl, e4⟩ := int_cw Tryz.underlying3 f4 (by omega)
 obtain ⟨x5, rfl, e5⟩ := int_cw Tryz.underlying3 f5 (by omega)
 obtain ⟨x6, rfl, e6⟩ := int_cw Tryz.underlying3 f6 (by omega)
 obtain ⟨x7, rfl⟩ := bool_cw Tryz.underlying4 f7 (by omega)
 obtain ⟨x8, rfl, e8⟩ := int_cw Tryz.underlying3 f8 (by omega)
 obtain ⟨x9, rfl, e9⟩ := int_cw Tryz.underlying3 f9 (by omega)
 obtain ⟨x10, rfl, e10⟩ := int_cw Tryz.underlying3 f10 (by omega)
 obtain ⟨x11, rfl, e11⟩ := int_cw Tryz.underlying3 f11 (by omega)
 obtain ⟨x12, rfl, e12⟩ := int_cw Tryz.underlying3 f12 (by omega)
 obtain ⟨x13, rfl, e13⟩ := str_cw Tryz.underlying9 f13 (by omega)
 obtain ⟨x14, rfl, e14⟩ := int_cw Tryz.underlying3 f14 (by omega)
 obtain ⟨x15, rfl, e15⟩ := int_cw Tryz.underlying3 f15 (by omega)
 have hu : 0 ≤ x2 ∧ x2 ≤ 255 := u8_in e2
 exact ⟨⟨x0, x1, x2, x3, x4, x5, x6, x7, x8, x9, x10, x11, x12, x13, x14, x15⟩, rfl, ⟨e3, e13, hu, e0, e15⟩⟩
end
theorem items_open {H : Type} {enc : TypeId × Value → H} {W : World} {base : Nat} {v : Value} {d : DataW H} {p : List MemPlace} (hv : Value.okWide Tryz.prog W .any base 22 v)
 (h : DataW.Trod enc Tryz.prog W 0 (fun _ => true) true 22 v d p) (hs : ∀ n ∈ d.weights Tryz.prog 22, n ≤ reachBytes) : ∃ a n cap l, v = .slice a n cap ∧ ItmsAt W a n cap l ∧ l.length ≤ cap := by
 obtain ⟨a0, n0, c0, rfl⟩ := itm_slice Tryz.underlying22 hv
 obtain ⟨fuel, hf⟩ := h
 rcases open_slice Tryz.underlying22 (show DataW.trod enc Tryz.prog W 0 (fun _ => true) true fuel 22 [.slice a0 n0 c0] = some (d, p) from hf) with ⟨hc, _⟩ | ⟨a, len, cap, m', k, D, Pl, hc, _, hl, _, hm, hx, hat⟩
 ·simp at hc
  obtain ⟨rfl, rfl, rfl⟩ := hc
  exact ⟨none, 0, 0, [], rfl, ItmsAt.nilAt _, Nat.le_refl _⟩
 ·simp only [List.cons.injEq, Value.slice.injEq, and_true] at hc
  obtain ⟨rfl, rfl, rfl⟩ := hc
  simp only [if_true] at hm
  subst hm
  simp only [Prod.mk.injEq] at hx
  obtain ⟨rfl, _⟩ := hx
  have hb : m' * 144 ≤ reachBytes := by
   have := hs _ (by simp only [DataW.weights, Tryz.underlying22]; exact List.mem_cons_self ..)
   rw [Tryz.bItem] at this
   simp only [List.length_map, List.length_range] at this
   rw [show n0 + (m' - n0) = m' by omega] at this
   exact this
  unfold reachBytes at hb
  obtain ⟨h1, h2⟩ := itm_where Tryz.underlying22 hv
  obtain ⟨ab, ao, sp⟩ := a
  simp only at h1 h2
  subst h1
  have hex : ∀ i, ∃ x : Itm, i < n0 → x.Wide ∧ ∀ j, j < 16 → W.cell? ⟨ab, ao + i * 16 + j, none⟩ = x.cs[j]? := fun i => by
   by_cases hi : i < n0
   ·obtain ⟨cs, e1, e2⟩ := hat i (by omega)
    rw [Tryz.cItem] at e1
    obtain ⟨_, hcl, hct⟩ := World.cells?_some e1
    obtain ⟨x, rfl, hw⟩ := item_cells e2
    refine ⟨x, fun _ => ⟨hw, fun j hj => ?_⟩⟩
    have := hct j hj
    rw [itm_add, itm_add] at this
    rw [this]
   ·exact ⟨Itm.zero, fun h => absurd h hi⟩
  obtain ⟨F, hF⟩ := Classical.axiomOfChoice hex
  refine ⟨_, n0, m', (List.range n0).map F, rfl, ⟨by simp, by simp; omega, ⟨fun h => (by cases h), fun x hx => ?_⟩, fun x hx => ?_⟩, by simp; omega⟩
  ·obtain rfl := Option.some.inj hx
   refine ⟨rfl, h2, fun i u hu => ?_⟩
   have hil := (List.getElem?_eq_some_iff.1 hu).1
   rw [ics_length] at hil
   simp at hil
   have hk : i / 16 < n0 := by omega
   have hfg := flatS_get (f := Itm.cs) (k := 16) (fun _ => rfl) ((List.range n0).map F) (i / 16) (i % 16) (by simpa using hk) (by omega)
   rw [show i / 16 * 16 + i % 16 = i by omega] at hfg
   have hu := hfg.symm.trans hu
   have hgd : ((List.range n0).map F).getD (i / 16) default = F (i / 16) := by simp [List.getD_eq_getElem?_getD, hk]
   rw [hgd] at hu
   have := (hF (i / 16) hk).2 (i % 16) (by omega)
   simp only
   rw [show ao + i = ao + i / 16 * 16 + i % 16 by omega, this, hu]
  ·obtain ⟨i, hi, rfl⟩ := List.mem_map.1 hx
   rw [List.mem_range] at hi
   exact (hF i hi).1
end Go.Proofs.YtelkcohhagblaaaGreat
namespace Go.Proofs.YtelkcohhagblaaaGreat
open Go.RowKit Go.Shelf
set_option maxHeartbeats 8000000
set_option maxRecDepth 100000
def shortB (x : Itm) : Bool := decide (x.wa.size ≤ 100) && decide (x.st.size ≤ 100)
theorem lone (x : Itm) (w : World) : Calls Tryz.prog 19 #[x.v] w fun e w' => e = .returned (.bool (shortB x)) ∧ Below w.heap.size w w' := by
 have hal := one_alloc w (Obj.cells #[.int .i64 x.id, .int .i64 x.kn, .int .u8 x.kd, .string x.wa, .int .i64 x.pit, .int .i64 x.ly, .int .i64 x.co, .bool x.ft, .int .i64 x.sh, .int .i64 x.fr, .int .i64 x.tw, .int .i64 x.lo, .int .i64 x.hi, .string x.st, .int .i64 x.li, .int .i64 x.vo] 24)
 have hX := World.alloc_heap_new w (Obj.cells #[.int .i64 x.id, .int .i64 x.kn, .int .u8 x.kd, .string x.wa, .int .i64 x.pit, .int .i64 x.ly, .int .i64 x.co, .bool x.ft, .int .i64 x.sh, .int .i64 x.fr, .int .i64 x.tw, .int .i64 x.lo, .int .i64 x.hi, .string x.st, .int .i64 x.li, .int .i64 x.vo] 24)
 have d3 := (ItmCells.of_heap hX).1.c3
 have d13 := (ItmCells.of_heap hX).1.c13
 simp only [Itm.v, Itm.cs]
 unfold shortB
 obtain ⟨A, hA⟩ : ∃ A, x.wa.size = A := ⟨_, rfl⟩
 obtain ⟨B, hB⟩ : ∃ B, x.st.size = B := ⟨_, rfl⟩
 rw [hA, hB]
 clear hX
 by_cases h1 : A ≤ 100
 ·have e1 : (A : Int) ≤ 100 := by omega
  have d1 : decide (A ≤ 100) = true := decide_eq_true h1
  rw [d1, Bool.true_and]
  by_cases h2 : B ≤ 100
  ·have e2 : (B : Int) ≤ 100 := by omega
   have d2 : decide (B ≤ 100) = true := decide_eq_true h2
   rw [d2]
   go_enter Tryz.func19, Tryz.ntmps19
   go_wp2_with fail
   go_ret
   exact ⟨rfl, hal⟩
  ·have e2 : ¬ (B : Int) ≤ 100 := by omega
   have d2 : decide (B ≤ 100) = false := decide_eq_false h2
   rw [d2]
   go_enter Tryz.func19, Tryz.ntmps19
   go_wp2_with fail
   go_ret
   exact ⟨rfl, hal⟩
 ·have e1 : ¬ (A : Int) ≤ 100 := by omega
  have d1 : decide (A ≤ 100) = false := decide_eq_false h1
  rw [d1, Bool.false_and]
  go_enter Tryz.func19, Tryz.ntmps19
  go_wp2_with fail
  go_ret
  exact ⟨rfl, hal⟩
def fewB (l : List Itm) (m : Nat) : Bool := (l.take m).all shortB && decide (l.length ≤ m)
theorem fewB_len {l : List Itm} {m : Nat} (h : fewB l m = true) : l.length ≤ m := by
 unfold fewB at h
 rw [Bool.and_eq_true] at h
 exact of_decide_eq_true h.2
theorem all_succ {l : List Itm} {k : Nat} (hk : k < l.length) : (l.take (k + 1)).all shortB = ((l.take k).all shortB && shortB (l.getD k default)) := by
 rw [List.take_succ_eq_append_getElem hk, List.all_append, List.getD_eq_getElem?_getD, List.getElem?_eq_getElem hk]
 simp
theorem all_no {l : List Itm} {k m : Nat} (hk : k < l.length) (hm : k < m) (h : shortB (l.getD k default) = false) : (l.take m).all shortB = false := by
 rw [List.all_eq_false]
 refine ⟨l.getD k default, ?_, by rw [h]; simp⟩
 rw [List.getD_eq_getElem?_getD, List.getElem?_eq_getElem hk]
 have : l[k] ∈ l.take m := List.mem_take_iff_getElem.2 ⟨k, by omega, rfl⟩
 exact this
theorem lfew (m : Nat) (a : Option Addr) (n cap : Nat) (l : List Itm) (w : World) (h : ItmsAt w a n cap l) (hm : m ≤ 1000) : Calls Tryz.prog 18 #[.slice a n cap, .int .i64 m] w fun e w' => e = .returned (.bool (fewB l m)) ∧ Below w.heap.size w w' := by
 obtain rfl := h.len
 have hsm := h.small
 have HP := Lib.hid (show ∀ w' b, fewB l m = b → Below w.heap.size w w' → (fun e w' => e = Ending.returned (.bool (fewB l m)) ∧ Below w.heap.size w w' : Ending → World → Prop) (.returned (.bool b)) w' from fun w' b h1 h2 => ⟨by rw [h1], h2⟩)
 generalize (fun e w' => e = Ending.returned (.bool (fewB l m)) ∧ Below w.heap.size w w' : Ending → World → Prop) = Post at *
 go_enter Tryz.func18, Tryz.ntmps18
 go_wp2_with fail
 go_loopw [5] (fun i wr => ∃ k : Nat, k ≤ l.length ∧ k ≤ m ∧ i = .int .i64 k ∧ Hid ((l.take k).all shortB = true) ∧ Below w.heap.size w wr) (fun i _ => l.length - (RowKit.intOf i).toNat)
 case atStart => exact ⟨0, Nat.zero_le _, Nat.zero_le _, rfl, Lib.hid rfl, Below.refl _ _⟩
 case round =>
  obtain ⟨k, hk, hkm, rfl, hall, hB⟩ := hrel
  have hnn : (0 : Int) ≤ k := by omega
  by_cases hlt : k < l.length
  ·have i1 : (k : Int) < (l.length : Int) := by omega
   by_cases hlm : k < m
   ·have i2 : (k : Int) < (m : Int) := by omega
    obtain ⟨b, o, rfl, hb, hdc⟩ := (h.below hB).get hlt
    have Hs := Lib.hid (all_succ hlt)
    have Hn := Lib.hid (all_no hlt hlm)
    generalize l.getD k default = x at *
    have hcl := lone x wr
    cases hv : shortB x with
    | true =>
      rw [hv] at hcl Hs
      have h2 := Lib.hid (show (l.take (k + 1)).all shortB = true by rw [Hs.out, hall.out]; rfl)
      clear hv Hn
      go_wp2_with (first
       | (refine wpList_loadI rfl _ rfl rfl hdc ?_)
       | (go_at_call 19; (with_reducible refine hcl.mono ?_); rintro e w2 ⟨rfl, hb2⟩))
      go_roundw
      case rel => exact ⟨k + 1, by omega, by omega, by go_num, h2, hB.ch2 hb2⟩
      case measure => simp [RowKit.intOf]; omega
    | false =>
      have HE := Lib.hid (fun w' hb => HP.out w' false (by unfold fewB; rw [Hn.out hv]; rfl) hb)
      rw [hv] at hcl
      clear hv Hn Hs
      go_wp2_with (first
       | (refine wpList_loadI rfl _ rfl rfl hdc ?_)
       | (go_at_call 19; (with_reducible refine hcl.mono ?_); rintro e w2 ⟨rfl, hb2⟩))
      exact HE.out _ (hB.ch2 hb2)
   ·have i2 : ¬ (k : Int) < (m : Int) := by omega
    have i3 : ¬ (l.length : Int) ≤ (m : Int) := by omega
    have HE := Lib.hid (HP.out wr false (by unfold fewB; rw [decide_eq_false (by omega), Bool.and_false]) hB)
    go_wp2_with fail
    exact HE.out
  ·have i1 : ¬ (k : Int) < (l.length : Int) := by omega
   have hkl : k = l.length := by omega
   have i3 : (l.length : Int) ≤ (m : Int) := by omega
   have HE := Lib.hid (HP.out wr true (by unfold fewB; rw [decide_eq_true (by omega), Bool.and_true, List.take_of_length_le (by omega)]; have := hall.out; rw [hkl, List.take_length] at this; exact this) hB)
   clear hkl
   go_wp2_with fail
   exact HE.out
def outC (l : List Itm) (day id : Int) : Int := if lookE l day id = 0 then (lookS l day id).co else 0
def outW (l : List Itm) (day id : Int) : List Bd := if lookE l day id = 0 then wayB l day id else []
def outT (l : List Itm) (day id : Int) : List Bd := if lookE l day id = 0 then turnB l day id else []
/-- An outline with rows of its own, and an error. -/
def OutE (w : World) (E co : Int) (ws ts : List Bd) (e : Ending) (w' : World) : Prop := ∃ v1 v2, e = .returned (.tuple #[.agg #[.int .i64 co, v1, v2], .int .i64 E]) ∧ Below w.heap.size w w' ∧ w'.ownsRow w.heap.size 69 4 v1 ws.length (bcs ws) ∧ w'.ownsRow w.heap.size 69 4 v2 ts.length (bcs ts)
theorem sOutline_any (a : Option Addr) (n cap : Nat) (l : List Itm) (day id : Int) (w : World) (h : ItmsAt w a n cap l) (hcap : l.length ≤ cap) :
 Calls Tryz.prog 36 #[.slice a n cap, .int .i64 day, .int .i64 id] w (OutE w (lookE l day id) (outC l day id) (outW l day id) (outT l day id)) := by
 have hB0 := one_alloc w (Obj.cells #[.int .i64 0, .slice none 0 0, .slice none 0 0] 52)
 have hR0 := World.alloc_heap_new w (Obj.cells #[.int .i64 0, .slice none 0 0, .slice none 0 0] 52)
 have hL := slooked_any a n cap l day id _ (h.below hB0) hcap
 have hw := h.wide
 unfold LookPost at hL
 have HP := Lib.hid (show ∀ w' v1 v2 E co W T, lookE l day id = E → outC l day id = co → outW l day id = W → outT l day id = T → Below w.heap.size w w' → w'.ownsRow w.heap.size 69 4 v1 W.length (bcs W) → w'.ownsRow w.heap.size 69 4 v2 T.length (bcs T) → OutE w (lookE l day id) (outC l day id) (outW l day id) (outT l day id) (.returned (.tuple #[.agg #[.int .i64 co, v1, v2], .int .i64 E])) w' from
  fun w' v1 v2 E co W T h1 h2 h3 h4 h5 h6 h7 => by subst h1 h2 h3 h4; exact ⟨v1, v2, rfl, h5, h6, h7⟩)
 generalize OutE w (lookE l day id) (outC l day id) (outW l day id) (outT l day id) = Post at *
 by_cases h0 : lookE l day id = 0
 ·have hlk := look_ok h0
  have hS : lookR l day id = countL l day := by unfold lookR; rw [if_pos h0]
  have hZ : lookZ l day id = lookS l day id := by unfold lookZ; rw [if_pos h0]
  have h1 : outC l day id = (lookS l day id).co := by unfold outC; rw [if_pos h0]
  have h2 : outW l day id = wayB l day id := by unfold outW; rw [if_pos h0]
  have h3 : outT l day id = turnB l day id := by unfold outT; rw [if_pos h0]
  have HPf := Lib.hid (fun w' v1 v2 => HP.out w' v1 v2 0 _ _ _ h0 h1 h2 h3)
  have hsl := Nat.le_trans (countL_len l day) hlk.cat.few
  have hcw := wides hw (fun x (hx : x ∈ countL l day) => (countL_sub hx).1)
  have hms : ∀ x ∈ countL l day, x.kd = 2 ∨ x.kd = 3 → x.sh = (lookS l day id).id → -10000 ≤ x.lo ∧ x.lo ≤ 10000 := fun x hx hk hs => by
   rw [hlk.sid] at hs
   rcases hk with hk | hk
   ·exact (hlk.wms x (by unfold keptL; rw [List.mem_filter]; exact ⟨hx, by simp [hk, hs]⟩)).lo
   ·exact (hlk.tms x (by unfold keptL; rw [List.mem_filter]; exact ⟨hx, by simp [hk, hs]⟩)).lo
  have hOu := fun W va vc (hi : ItmsAt W va (countL l day).length vc (countL l day)) => soutline va _ vc (countL l day) (lookS l day id) W hi hsl hlk.co hms
  unfold OutPost at hOu
  simp only [hlk.sid] at hOu
  change ∀ W va vc, ItmsAt W va (countL l day).length vc (countL l day) → Calls Tryz.prog _ _ W (fun e w' => ∃ v1 v2, e = .returned (.agg #[.int .i64 (lookS l day id).co, v1, v2]) ∧ Below W.heap.size W w' ∧ w'.ownsRow W.heap.size 69 4 v1 (wayB l day id).length (bcs (wayB l day id)) ∧ w'.ownsRow W.heap.size 69 4 v2 (turnB l day id).length (bcs (turnB l day id))) at hOu
  rw [hS, hZ, h0] at hL
  clear hS hZ hms hlk h0 h1 h2 h3 HP
  generalize wayB l day id = WB at *
  generalize turnB l day id = TB at *
  generalize countL l day = S at *
  generalize lookS l day id = y at *
  simp only [Shd.v, Shd.cs] at hL hOu
  go_enter Tryz.func36, Tryz.ntmps36
  go_wp2_with (first
   | (go_at_call 82; (with_reducible refine hL.mono ?_); rintro e w2 ⟨v, rfl, hb2, ho2⟩; obtain ⟨va, vc, rfl, _⟩ := owns_slice ho2; have hi2 := (ItmsAt.of_owns ho2 (by omega) hcw).below (one_alloc w2 (Obj.cells #[.int .i64 y.id, .string y.wa, .int .i64 y.pit, .int .i64 y.ly, .int .i64 y.co, .bool y.ft] 72)); have hY2 := World.alloc_heap_new w2 (Obj.cells #[.int .i64 y.id, .string y.wa, .int .i64 y.pit, .int .i64 y.ly, .int .i64 y.co, .bool y.ft] 72); obtain ⟨p0, p1, p2, p3, p4, p5, pf⟩ := cell6 hY2; have hR2 := alKeep (o' := Obj.cells #[.int .i64 y.id, .string y.wa, .int .i64 y.pit, .int .i64 y.ly, .int .i64 y.co, .bool y.ft] 72) ((hb2.block w.heap.size (by simp)).trans hR0))
   | (go_at_call 83; (with_reducible refine (hOu _ va vc hi2).mono ?_); rintro e w3 ⟨v1, v2, rfl, hb3, ho31, ho32⟩; obtain ⟨a1, c1, rfl, _⟩ := owns_slice ho31; obtain ⟨a2, c2, rfl, _⟩ := owns_slice ho32; have hR3 := (hb3.block w.heap.size (Array.getElem?_eq_some_iff.1 hR2).1).trans hR2; obtain ⟨q0, q1, q2, qf, ql⟩ := cell3s hR3))
  obtain ⟨k1, k2⟩ := set3 hR3 (.int .i64 y.co) (.slice a1 WB.length c1) (.slice a2 TB.length c2)
  have hB3 := ((hB0.ch2 hb2).ch2 (one_alloc w2 (Obj.cells #[.int .i64 y.id, .string y.wa, .int .i64 y.pit, .int .i64 y.ly, .int .i64 y.co, .bool y.ft] 72))).ch2 hb3
  have hz2 := hb2.size
  rw [World.size_alloc] at hz2
  have hr1 := SL.row_base (SL.row_stab ho31 fun k hk => k2.block k (SL.row_bounds ho31 k hk).2 (by have := (SL.row_bounds ho31 k hk).1; simp at this ⊢; omega)) (show w.heap.size ≤ (w2.alloc (Obj.cells #[.int .i64 y.id, .string y.wa, .int .i64 y.pit, .int .i64 y.ly, .int .i64 y.co, .bool y.ft] 72)).heap.size by simp; omega)
  have hr2 := SL.row_base (SL.row_stab ho32 fun k hk => k2.block k (SL.row_bounds ho32 k hk).2 (by have := (SL.row_bounds ho32 k hk).1; simp at this ⊢; omega)) (show w.heap.size ≤ (w2.alloc (Obj.cells #[.int .i64 y.id, .string y.wa, .int .i64 y.pit, .int .i64 y.ly, .int .i64 y.co, .bool y.ft] 72)).heap.size by simp; omega)
  have hBF := hB3.trans (k2.belowE_w hB3.size (by simp))
  obtain ⟨g0, g1, g2, gf, gl⟩ := cell3s k1
  have HF := Lib.hid (HPf.out _ _ _ hBF hr1 hr2)
  clear hr1 hr2 hBF k1 k2 ho31 ho32 ho2 hR3 hR2 q0 q1 q2 qf ql hb3 hb2 hB3
  generalize ((w3.setCell ⟨w.heap.size, 0, none⟩ (.int .i64 y.co)).setCell ⟨w.heap.size, 1, none⟩ (.slice a1 WB.length c1)).setCell ⟨w.heap.size, 2, none⟩ (.slice a2 TB.length c2) = WF at *
  exact bodyPost_ret (v := .tuple #[.agg #[.int .i64 y.co, .slice a1 WB.length c1, .slice a2 TB.length c2], .int .i64 0]) (by simp [results, Tryz.results36, go_sem, g0, g1, g2]) rfl HF.out
 ·have h1 : outC l day id = 0 := by unfold outC; rw [if_neg h0]
  have h2 : outW l day id = [] := by unfold outW; rw [if_neg h0]
  have h3 : outT l day id = [] := by unfold outT; rw [if_neg h0]
  generalize lookE l day id = E at *
  have e2 : (E != 0) = true := by simpa using h0
  have HF := Lib.hid (fun w' hb => HP.out w' (.slice none 0 0) (.slice none 0 0) E 0 [] [] rfl h1 h2 h3 hb (World.ownsRow_nil _ _ _ _) (World.ownsRow_nil _ _ _ _))
  generalize lookZ l day id = y at *
  generalize lookR l day id = S at *
  simp only [Shd.v, Shd.cs] at hL
  clear h0 h1 h2 h3 HP
  go_enter Tryz.func36, Tryz.ntmps36
  go_wp2_with (go_at_call 82; (with_reducible refine hL.mono ?_); rintro e w2 ⟨v, rfl, hb2, ho2⟩; obtain ⟨va, vc, rfl, _⟩ := owns_slice ho2; have hR2 := alKeep (o' := Obj.cells #[.int .i64 y.id, .string y.wa, .int .i64 y.pit, .int .i64 y.ly, .int .i64 y.co, .bool y.ft] 72) ((hb2.block w.heap.size (by simp)).trans hR0); obtain ⟨q0, q1, q2, qf, ql⟩ := cell3s hR2)
  obtain ⟨k1, k2⟩ := set3 hR2 (.int .i64 0) (.slice none 0 0) (.slice none 0 0)
  have hB2 := (hB0.ch2 hb2).ch2 (one_alloc w2 (Obj.cells #[.int .i64 y.id, .string y.wa, .int .i64 y.pit, .int .i64 y.ly, .int .i64 y.co, .bool y.ft] 72))
  have hBF := hB2.trans (k2.belowE_w hB2.size (by simp))
  obtain ⟨g0, g1, g2, gf, gl⟩ := cell3s k1
  have HF2 := Lib.hid (HF.out _ hBF)
  clear hBF k1 k2 ho2 hR2 q0 q1 q2 qf ql hb2 hB2
  generalize (((w2.alloc (Obj.cells #[.int .i64 y.id, .string y.wa, .int .i64 y.pit, .int .i64 y.ly, .int .i64 y.co, .bool y.ft] 72)).setCell ⟨w.heap.size, 0, none⟩ (.int .i64 0)).setCell ⟨w.heap.size, 1, none⟩ (.slice none 0 0)).setCell ⟨w.heap.size, 2, none⟩ (.slice none 0 0) = WF at *
  exact bodyPost_ret (v := .tuple #[.agg #[.int .i64 0, .slice none 0 0, .slice none 0 0], .int .i64 E]) (by simp [results, Tryz.results36, go_sem, g0, g1, g2]) rfl HF2.out
theorem r2same (a1 a2 : Option Addr) (n1 n2 c1 c2 : Nat) (xs : List Itm) (w : World) (hx : ItmsAt w a1 n1 c1 xs) (hy : ItmsAt w a2 n2 c2 xs) :
 Calls Tryz.prog 25 #[.slice a1 n1 c1, .slice a2 n2 c2] w fun e w' => e = .returned (.bool true) ∧ Below w.heap.size w w' := by
 have hlx := hx.small
 obtain rfl := hx.len
 obtain rfl := hy.len
 go_enter Tryz.func25, Tryz.ntmps25
 go_wp2_with fail
 go_loopw [5] (fun i wr => ∃ k : Nat, k ≤ xs.length ∧ i = .int .i64 k ∧ Below w.heap.size w wr) (fun i _ => xs.length - (RowKit.intOf i).toNat)
 case atStart => exact ⟨0, Nat.zero_le _, rfl, Below.refl _ _⟩
 case round =>
  obtain ⟨k, hk, rfl, hB⟩ := hrel
  have hnn : (0 : Int) ≤ k := by omega
  by_cases hlt : k < xs.length
  ·obtain ⟨b1, o1, rfl, _, ⟨d0, d1, d2, d3, d4, d5, d6, d7, d8, d9, d10, d11, d12, d13, d14, d15⟩⟩ := (hx.below hB).get hlt
   obtain ⟨b2, o2, rfl, _, ⟨g0, g1, g2, g3, g4, g5, g6, g7, g8, g9, g10, g11, g12, g13, g14, g15⟩⟩ := (hy.below hB).get hlt
   have i1 : (k : Int) < (xs.length : Int) := by omega
   generalize xs.getD k default = x at *
   have hne : ∀ W, (binOp .neq 24 x.v x.v).run Tryz.prog W = .ok (.bool false) W := fun W => by rw [neqI_run, eqI_refl]; rfl
   simp only [Itm.v, Itm.cs] at hne
   go_wp2_with fail
   go_quiet (fail)
   go_wp2
   go_roundw
   case rel => exact ⟨k + 1, by omega, by go_num, belowN hB⟩
   case measure => simp [RowKit.intOf]; omega
  ·go_wp2_with fail
   go_ret
   exact ⟨rfl, hB⟩
theorem neqB_run (x y z u : Int) (w : World) : (binOp .neq 69 (.agg #[.int .i64 x, .int .i64 y, .int .i64 z, .int .i64 u]) (.agg #[.int .i64 x, .int .i64 y, .int .i64 z, .int .i64 u])).run Tryz.prog w = .ok (.bool false) w := by
 rw [run_neq_struct, run_equalIn_agg _ _ _ _ _ (by kernel_rfl) (by kernel_rfl)]
 simp [go_sem, Tryz.underlying69]
theorem r2sameB (a1 a2 : Option Addr) (n1 n2 c1 c2 : Nat) (xs : List Bd) (w : World) (hx : BdsAt w a1 n1 c1 xs) (hy : BdsAt w a2 n2 c2 xs) :
 Calls Tryz.prog 43 #[.slice a1 n1 c1, .slice a2 n2 c2] w fun e w' => e = .returned (.bool true) ∧ Below w.heap.size w w' := by
 have hlx := hx.small
 obtain rfl := hx.len
 obtain rfl := hy.len
 go_enter Tryz.func43, Tryz.ntmps43
 go_wp2_with fail
 go_loopw [5] (fun i wr => ∃ k : Nat, k ≤ xs.length ∧ i = .int .i64 k ∧ Below w.heap.size w wr) (fun i _ => xs.length - (RowKit.intOf i).toNat)
 case atStart => exact ⟨0, Nat.zero_le _, rfl, Below.refl _ _⟩
 case round =>
  obtain ⟨k, hk, rfl, hB⟩ := hrel
  have hnn : (0 : Int) ≤ k := by omega
  by_cases hlt : k < xs.length
  ·obtain ⟨b1, o1, rfl, _, d0, d1, d2, d3⟩ := (hx.below hB).get hlt
   obtain ⟨b2, o2, rfl, _, g0, g1, g2, g3⟩ := (hy.below hB).get hlt
   have i1 : (k : Int) < (xs.length : Int) := by omega
   generalize xs.getD k default = x at *
   have hne := fun W => neqB_run x.frm x.tow x.most x.bid W
   go_wp2_with fail
   go_quiet (fail)
   go_wp2
   go_roundw
   case rel => exact ⟨k + 1, by omega, by go_num, belowN hB⟩
   case measure => simp [RowKit.intOf]; omega
  ·go_wp2_with fail
   go_ret
   exact ⟨rfl, hB⟩
theorem brow {w : World} {base : Nat} {t : TypeId} {n G cap : Nat} {xs : List Value} (h : w.ownsRow base t 4 (.slice (some ⟨G, 0, none⟩) n cap) n xs) {i : Nat} (hi : i < n) :
 ∃ c0 c1 c2 c3, w.cell? ⟨G, i * 4, none⟩ = some c0 ∧ w.cell? ⟨G, i * 4 + 1, none⟩ = some c1 ∧ w.cell? ⟨G, i * 4 + 2, none⟩ = some c2 ∧ w.cell? ⟨G, i * 4 + 3, none⟩ = some c3 ∧ (∀ i, w.frozen? ⟨G, i, none⟩ = false) ∧ G < w.heap.size := by
 have hl := h.1
 have k := fun (j : Nat) (hj : i * 4 + j < n * 4) => (show w.cell? ⟨G, i * 4 + j, none⟩ = some (xs[i * 4 + j]'(by omega)) by
  rw [h.cellAt (i * 4 + j) (by omega)]
  exact List.getElem?_eq_getElem (by omega))
 exact ⟨_, _, _, _, k 0 (by omega), k 1 (by omega), k 2 (by omega), k 3 (by omega), fun i => h.frozenAt i, (SL.row_bounds h G (by simp [Value.ownBlock])).2⟩
def junkI : Itm := { Itm.zero with id := -7 }
/-- A slice of one's own that is not empty has a block. -/
theorem owns_some {w : World} {base : Nat} {e : TypeId} {size n cap : Nat} {a : Option Addr} {xs : List Value} (h : w.ownsRow base e size (.slice a n cap) n xs) (hn : 0 < n) : ∃ G, a = some ⟨G, 0, none⟩ := by
 obtain ⟨_, ⟨hv, h0⟩ | ⟨g, c, cur, hv, _⟩⟩ := h
 ·omega
 ·injection hv with h1 _ _
  exact ⟨g, h1⟩
theorem outW_len (l : List Itm) (day id : Int) : (outW l day id).length ≤ 400 := by
 unfold outW
 split
 ·rename_i h
  exact chk_len (look_ok h).ways
 ·simp
theorem outT_len (l : List Itm) (day id : Int) : (outT l day id).length ≤ 400 := by
 unfold outT
 split
 ·rename_i h
  exact chk_len (look_ok h).turns
 ·simp
theorem outC_range (l : List Itm) (day id : Int) : -1000000 ≤ outC l day id ∧ outC l day id ≤ 1000000 := by
 unfold outC
 split
 ·rename_i h
  have := (look_ok h).co
  omega
 ·omega
theorem sysBs_len (co : Int) (bs : List Bd) : (sysBs co bs).length ≤ bs.length := by
 unfold sysBs
 split
 ·exact Nat.le_refl _
 ·simp
theorem lmemory (a : Option Addr) (n cap : Nat) (l : List Itm) (x : Itm) (day id : Int) (w : World) (h : ItmsAt w a n cap l) (hcap : l.length ≤ cap) (hxw : x.Wide) :
 Calls Tryz.prog 9 #[.slice a n cap, x.v, .int .i64 day, .int .i64 id] w fun e w' => e = .returned (.bool true) ∧ Below w.heap.size w w' := by
 have hSh := fun W => lshelved W
 have hB0 := one_alloc w (Obj.cells #[.int .i64 x.id, .int .i64 x.kn, .int .u8 x.kd, .string x.wa, .int .i64 x.pit, .int .i64 x.ly, .int .i64 x.co, .bool x.ft, .int .i64 x.sh, .int .i64 x.fr, .int .i64 x.tw, .int .i64 x.lo, .int .i64 x.hi, .string x.st, .int .i64 x.li, .int .i64 x.vo] 24)
 have hX0 := World.alloc_heap_new w (Obj.cells #[.int .i64 x.id, .int .i64 x.kn, .int .u8 x.kd, .string x.wa, .int .i64 x.pit, .int .i64 x.ly, .int .i64 x.co, .bool x.ft, .int .i64 x.sh, .int .i64 x.fr, .int .i64 x.tw, .int .i64 x.lo, .int .i64 x.hi, .string x.st, .int .i64 x.li, .int .i64 x.vo] 24)
 have hFe := fun W (hb : Below w.heap.size w W) => lfew 25 a n cap l W (h.below hb) (by omega)
 have hOn := fun W => lone x W
 have h25 : ((25 : Nat) : Int) = 25 := rfl
 rw [h25] at hFe
 have hlen := fun (hF : fewB l 25 = true) => fewB_len hF
 generalize hFF : fewB l 25 = F at *
 generalize hOO : shortB x = O at *
 simp only [Itm.v, Itm.cs] at hOn
 show Calls Tryz.prog _ #[_, .agg #[.int .i64 x.id, .int .i64 x.kn, .int .u8 x.kd, .string x.wa, .int .i64 x.pit, .int .i64 x.ly, .int .i64 x.co, .bool x.ft, .int .i64 x.sh, .int .i64 x.fr, .int .i64 x.tw, .int .i64 x.lo, .int .i64 x.hi, .string x.st, .int .i64 x.li, .int .i64 x.vo], _, _] w _
 cases F with
 | false =>
   clear hlen
   as_aux_lemma =>
    go_enter Tryz.func9, Tryz.ntmps9
    go_wp2_with (first
     | (go_at_call 18; (with_reducible refine (hFe _ hB0).mono ?_); rintro e w1 ⟨rfl, hb1⟩; obtain ⟨⟨d0, d1, d2, d3, d4, d5, d6, d7, d8, d9, d10, d11, d12, d13, d14, d15⟩, _, _⟩ := ItmCells.of_heap ((hb1.block w.heap.size (by simp)).trans hX0); have hB1 := hB0.ch2 hb1)
     | (go_at_call 19; (with_reducible refine (hOn _).mono ?_); rintro e w2 ⟨rfl, hb2⟩; have hB1 := hB1.ch2 hb2)
     | (go_at_call 20; (with_reducible refine (hSh _).mono ?_); rintro e w3 ⟨rfl, hb3⟩))
    go_ret
    exact ⟨rfl, hB1.ch2 hb3⟩
 | true =>
   cases O with
   | false =>
     clear hlen
     as_aux_lemma =>
      go_enter Tryz.func9, Tryz.ntmps9
      go_wp2_with (first
       | (go_at_call 18; (with_reducible refine (hFe _ hB0).mono ?_); rintro e w1 ⟨rfl, hb1⟩; obtain ⟨⟨d0, d1, d2, d3, d4, d5, d6, d7, d8, d9, d10, d11, d12, d13, d14, d15⟩, _, _⟩ := ItmCells.of_heap ((hb1.block w.heap.size (by simp)).trans hX0); have hB1 := hB0.ch2 hb1)
       | (go_at_call 19; (with_reducible refine (hOn _).mono ?_); rintro e w2 ⟨rfl, hb2⟩; have hB1 := hB1.ch2 hb2)
       | (go_at_call 20; (with_reducible refine (hSh _).mono ?_); rintro e w3 ⟨rfl, hb3⟩))
      go_ret
      exact ⟨rfl, hB1.ch2 hb3⟩
   | true =>
     have hl25 := hlen rfl
     clear hlen hFF hOO
     have Hhl := Lib.hid h.len
     have hAp := fun W hi => sAppend_any x a n cap l W hi hcap (fun y hy w1 => sCheckItem_any y w1 (by
      rcases hy with hy | rfl
      ·exact h.wide y hy
      ·exact hxw))
     have hCo := fun W hi => sCounting_any a n cap l day W hi hcap
     have hOu := fun W hi => sOutline_any a n cap l day id W hi hcap
     have hAl : (apL l x).length ≤ 26 ∧ ∀ y ∈ apL l x, y.Wide := by
      unfold apL
      split
      ·exact ⟨by simp; omega, fun y hy => by
        rcases List.mem_append.1 hy with hy | hy
        ·exact h.wide y hy
        ·simp at hy; subst hy; exact hxw⟩
      ·exact ⟨by simp, fun y hy => by cases hy⟩
     have hCl : (cntL l day).length ≤ 25 ∧ ∀ y ∈ cntL l day, y.Wide := by
      unfold cntL
      split
      ·exact ⟨Nat.le_trans (countL_len l day) hl25, fun y hy => h.wide y (countL_sub hy).1⟩
      ·exact ⟨by simp, fun y hy => by cases hy⟩
     have hWl := outW_len l day id
     have hTl := outT_len l day id
     have hco := outC_range l day id
     have hSl := sysBs_len (outC l day id) (outW l day id)
     have hWa := fun W wa wc ta tc (h1 : BdsAt W wa (outW l day id).length wc (outW l day id)) (h2 : BdsAt W ta (outT l day id).length tc (outT l day id)) => sWays_any (outC l day id) wa _ wc _ ta _ tc _ W hco h1 h2 ⟨by omega, by omega⟩
     unfold RowE at hAp hCo
     simp only [Itm.v, Itm.cs] at hAp
     unfold OutE at hOu
     unfold SysPost at hWa
     have hsm := h.small
     generalize apL l x = A at *
     generalize apE l x = E1 at *
     generalize cntL l day = C at *
     generalize (chkI l).2 = E2 at *
     generalize outC l day id = co at *
     generalize sysBs co (outW l day id) = SB at *
     generalize sysIf co (co + 1) = P at *
     generalize outW l day id = WB at *
     generalize outT l day id = TB at *
     generalize lookE l day id = E3 at *
     have tok1 : True := trivial
     have tok2 : True := trivial
     have tok3 : True := trivial
     have tok4 : True := trivial
     have HAl := Lib.hid hAl
     have HCl := Lib.hid hCl
     have lA := hAl.1
     have lC := hCl.1
     clear hAl hCl
     go_enter Tryz.func9, Tryz.ntmps9
     go_wp2_with (first
      | (go_at_call 18; (with_reducible refine (hFe _ hB0).mono ?_); rintro e w1 ⟨rfl, hb1⟩; obtain ⟨⟨d0, d1, d2, d3, d4, d5, d6, d7, d8, d9, d10, d11, d12, d13, d14, d15⟩, _, _⟩ := ItmCells.of_heap ((hb1.block w.heap.size (by simp)).trans hX0))
      | (go_at_call 19; (with_reducible refine (hOn _).mono ?_); rintro e w2 ⟨rfl, hb2⟩; clear d0 d1 d2 d3 d4 d5 d6 d7 d8 d9 d10 d11 d12 d13 d14 d15; have hC2 := hb1.ch2 hb2; have hB2 := hB0.ch2 hC2; have hlit := World.ownsRow_lit (base := w2.heap.size) (e := 24) (size := 16) w2 #[] 0 (Nat.le_refl _) (by decide) rfl; have hsr := (h.below (hB2.ch2 (one_alloc w2 (Obj.cells #[] 24)))).row)
      | (at_builtin; clear tok1; refine wpList_app elemT rfl _ _ rfl hlit rfl rfl hsr (by rw [ics_length, Hhl.out]) (fun u hu => ics_one l u hu) (by have := Hhl.out; unfold maxLen; omega) (by have := Hhl.out; omega) (by simp) ?_; intro v4 w4 hr4 hg4 hb4 _ _; clear hlit hsr hg4; have hC4 := hC2.ch2 ((one_alloc w2 (Obj.cells #[] 24)).trans hb4); have hB4 := hB0.ch2 hC4; replace hr4 : w4.ownsRow w2.heap.size 24 16 v4 n (ics l) := (by simpa using hr4); obtain ⟨wa4, wc4, rfl, _⟩ := owns_slice hr4; obtain ⟨⟨d0, d1, d2, d3, d4, d5, d6, d7, d8, d9, d10, d11, d12, d13, d14, d15⟩, _, _⟩ := ItmCells.of_heap ((hC4.block w.heap.size (by simp)).trans hX0)))
     go_wp2_with (first
      | (go_at_call 23; (with_reducible refine (hAp _ (h.below hB4)).mono ?_); rintro e w5 ⟨va, rfl, hb5, ho5⟩; obtain ⟨aa, ac, rfl, _⟩ := owns_slice ho5; have hB5 := hB4.ch2 hb5; clear d0 d1 d2 d3 d4 d5 d6 d7 d8 d9 d10 d11 d12 d13 d14 d15)
      | (go_at_call 49; (with_reducible refine (hCo _ (h.below hB5)).mono ?_); rintro e w6 ⟨vb, rfl, hb6, ho6⟩; obtain ⟨ba, bc, rfl, _⟩ := owns_slice ho6; have hB6 := hB5.ch2 hb6)
      | (go_at_call 36; (with_reducible refine (hOu _ (h.below hB6)).mono ?_); rintro e w7 ⟨v1, v2, rfl, hb7, ho71, ho72⟩; obtain ⟨o1, c1, rfl, _⟩ := owns_slice ho71; obtain ⟨o2, c2, rfl, _⟩ := owns_slice ho72; have hal7 := one_alloc w7 (Obj.cells #[.int .i64 co, .slice o1 WB.length c1, .slice o2 TB.length c2] 52); have hO7 := World.alloc_heap_new w7 (Obj.cells #[.int .i64 co, .slice o1 WB.length c1, .slice o2 TB.length c2] 52); have hq1 := (BdsAt.of_owns ho71 (by omega)).below hal7; have hq2 := (BdsAt.of_owns ho72 (by omega)).below hal7; have hB7 := (hB6.ch2 hb7).ch2 hal7)
      | (go_at_call 39; (with_reducible refine (hWa _ o1 c1 o2 c2 hq1 hq2).mono ?_); rintro e w9 ⟨vs, rfl, hb9, ho9⟩; obtain ⟨sa, sc, rfl, _⟩ := owns_slice ho9; have hal9 := one_alloc w9 (Obj.cells #[.int .i64 P, .slice sa SB.length sc] 57); have hS9 := World.alloc_heap_new w9 (Obj.cells #[.int .i64 P, .slice sa SB.length sc] 57); have hB9 := (hB7.ch2 hb9).ch2 hal9; have hlit := World.ownsRow_lit (base := w9.heap.size + 1) (e := 24) (size := 16) (w9.alloc (Obj.cells #[.int .i64 P, .slice sa SB.length sc] 57)) #[] 0 (by simp) (by decide) rfl; rw [World.size_alloc] at hlit; have hE6 := ((((hb6.ch2 hb7).ch2 hal7).ch2 hb9).ch2 hal9); have hsr := (RowAt.of_owns ho5).below (hE6.ch2 (one_alloc _ (Obj.cells #[] 24))))
      | (at_builtin; clear tok2; refine wpList_app elemT rfl _ _ rfl hlit rfl rfl hsr (ics_length A) (fun u hu => ics_one A u hu) (by unfold maxLen; omega) (by omega) (by simp) ?_; intro v12 w12 hr12 hg12 hb12 _ _; clear hlit hsr hg12; have hG12 : Below (w9.alloc (Obj.cells #[.int .i64 P, .slice sa SB.length sc] 57)).heap.size (w9.alloc (Obj.cells #[.int .i64 P, .slice sa SB.length sc] 57)) w12 := (one_alloc _ (Obj.cells #[] 24)).trans (by rw [World.size_alloc]; exact hb12); clear hb12; have hB12 := hB9.ch2 hG12; have hlit := World.ownsRow_lit (base := w12.heap.size) (e := 24) (size := 16) w12 #[] 0 (Nat.le_refl _) (by decide) rfl; have hE7 := ((((hb7.ch2 hal7).ch2 hb9).ch2 hal9).ch2 hG12); have hsr := (RowAt.of_owns ho6).below (hE7.ch2 (one_alloc _ (Obj.cells #[] 24))); replace hr12 : w12.ownsRow (w9.heap.size + 1) 24 16 v12 A.length (ics A) := (by simpa using hr12); obtain ⟨xa12, xc12, rfl, _⟩ := owns_slice hr12)
      | (at_builtin; clear tok3; refine wpList_app elemT rfl _ _ rfl hlit rfl rfl hsr (ics_length C) (fun u hu => ics_one C u hu) (by unfold maxLen; omega) (by omega) (by simp) ?_; intro v14 w14 hr14 hg14 hb14 _ _; clear hlit hsr hg14; have hG14 : Below w12.heap.size w12 w14 := (one_alloc _ (Obj.cells #[] 24)).trans hb14; clear hb14; replace hr14 : w14.ownsRow w12.heap.size 24 16 v14 C.length (ics C) := (by simpa using hr14); obtain ⟨xa14, xc14, rfl, _⟩ := owns_slice hr14; have hlit := World.ownsRow_lit (base := w14.heap.size) (e := 69) (size := 4) w14 #[] 0 (Nat.le_refl _) (by decide) rfl; have hE8 := (((hal7.ch2 hb9).ch2 hal9).ch2 hG12).ch2 hG14; have hsr := (RowAt.of_owns ho71).below (hE8.ch2 (one_alloc _ (Obj.cells #[] 69))); have hE9 := ((hb9.ch2 hal9).ch2 hG12).ch2 hG14; have hO14 := (hE9.block w7.heap.size (by simp)).trans hO7; have k1 := (SL.cells_of (alKeep (o' := (Obj.cells #[] 69)) hO14)).1 1; have zk := (Array.getElem?_eq_some_iff.1 (alKeep (o' := (Obj.cells #[] 69)) hO14)).1; simp at k1)
      | (at_builtin; clear tok4; refine wpList_app elemB rfl _ _ rfl hlit rfl rfl hsr (bcs_length WB) (fun u hu => bcs_one WB u hu) (by unfold maxLen; omega) (by omega) (by simp) ?_; intro v16 w16 hr16 hg16 hb16 _ _; clear hlit hsr hg16 k1 zk; have hG16 : Below w14.heap.size w14 w16 := (one_alloc _ (Obj.cells #[] 69)).trans hb16; clear hb16; replace hr16 : w16.ownsRow w14.heap.size 69 4 v16 WB.length (bcs WB) := (by simpa using hr16); obtain ⟨xa16, xc16, rfl, _⟩ := owns_slice hr16))
     have hH9 := (hG12.ch2 hG14).ch2 hG16
     have hH6 := (hE7.ch2 hG14).ch2 hG16
     have hH5 := ((hE6.ch2 hG12).ch2 hG14).ch2 hG16
     have hH4 := hb5.ch2 hH5
     have hH7 := hE8.ch2 hG16
     have hH8 := hE9.ch2 hG16
     have hB16 := (hB12.ch2 hG14).ch2 hG16
     have hC16 := hC4.ch2 hH4
     have HX := Lib.hid ((hC16.block w.heap.size (by simp)).trans hX0)
     have HO := Lib.hid ((hH8.block w7.heap.size (by simp)).trans hO7)
     have hS16 := (hH9.block w9.heap.size (by simp)).trans hS9
     have bWas := SL.row_bounds hr4
     have bA := SL.row_bounds ho5
     have bB := SL.row_bounds ho6
     have bO := SL.row_bounds ho71
     have bS := SL.row_bounds ho9
     have bOld := SL.row_bounds hr12
     have bCnt := SL.row_bounds hr14
     have bWay := SL.row_bounds hr16
     have rA := ho5.up hH5 (Nat.le_refl _)
     have HrB := Lib.hid (ho6.up hH6 (Nat.le_refl _))
     have HrS := Lib.hid (SL.row_base (base' := w7.heap.size) (ho9.up (hal9.ch2 hH9) (Nat.le_refl _)) (by simp))
     have HrWas := Lib.hid (hr4.up hH4 (Nat.le_refl _))
     have HrO := Lib.hid (ho71.up hH7 (Nat.le_refl _))
     have HrOld := Lib.hid (hr12.up (hG14.ch2 hG16) (Nat.le_refl _))
     have HrCnt := Lib.hid (hr14.up hG16 (Nat.le_refl _))
     have HrWay := Lib.hid hr16
     have z4 := hC4.size
     rw [World.size_alloc] at z4
     have z5 := hb5.size
     have z6 := hb6.size
     have z7 := hb7.size
     have z9 := hb9.size
     have z12 := hG12.size
     have z14 := hG14.size
     have z16 := hG16.size
     rw [World.size_alloc] at z9 z12
     simp only [World.size_alloc] at bS
     clear hH9 hH6 hH5 hH4 hH7 hH8 hC16 hb1 hb2 hC2 hB2 hb4 hC4 hB4 hb5 hB5 hb6 hB6 hb7 hB7 hal7 hO7 hq1 hq2 hb9 hal9 hS9 hB9 hE6 hE7 hE8 hE9 hG12 hG14 hG16 hB12 hO14 ho5 ho6 ho71 ho72 ho9 hr4 hr12 hr14 hr16 hB0 hX0
     go_loopw [20] (fun i wr => ∃ (k : Nat) (ys : List Itm), k ≤ A.length ∧ i = .int .i64 k ∧ ys.length = A.length ∧ wr.ownsRow w4.heap.size 24 16 (Value.slice aa A.length ac) A.length (ics ys) ∧ SL.Chg (Value.slice aa A.length ac).ownBlock.toList w16 wr) (fun i _ => A.length - (RowKit.intOf i).toNat)
     case atStart => exact ⟨0, A, Nat.zero_le _, rfl, rfl, rA, .refl _ _⟩
     case round =>
     obtain ⟨k, ys, hk, rfl, hyl, hro, hch⟩ := hrel
     have hnn : (0 : Int) ≤ k := by omega
     by_cases hlt : k < A.length
     ·have i1 : (k : Int) < (A.length : Int) := by omega
      obtain ⟨G, rfl⟩ := owns_some hro (by omega)
      obtain ⟨hrc, hrf, hG⟩ := irow hro (i := k) (by omega)
      have qo := row_puts junkI.cs (o := k * 16) hro
      rw [← ics_put (show k < ys.length by omega) junkI] at qo
      have qc := chg_puts (E := (Value.slice (some ⟨G, 0, none⟩) A.length ac).ownBlock.toList) (G := G) (by simp [Value.ownBlock]) junkI.cs wr (k * 16)
      have HQ := Lib.hid (And.intro qo (hch.trans qc))
      generalize ys.getD k default = old at *
      clear qo qc hro hch
      go_wp2_with (refine wpList_storeI (g := G) (q := k * 16) (x := junkI) (old := old) rfl _ _ rfl rfl rfl hrc hrf rfl ?_; generalize putsAt wr G (k * 16) junkI.cs = w3 at *)
      go_roundw
      case rel => exact ⟨k + 1, ys.set k junkI, by omega, by go_num, by simp [hyl], HQ.out.1, HQ.out.2⟩
      case measure => simp [RowKit.intOf]; omega
     clear hro hyl rA
     have HA := Lib.hid hch
     clear hch
     have rB1 := SL.row_stab HrB.out fun k hk => HA.out.block k (by have := bB k hk; omega) (fun hm => by have := bB k hk; have := bA k hm; omega)
     have hS1 := (HA.out.block w9.heap.size (Array.getElem?_eq_some_iff.1 hS16).1 (fun hm => by have := bA _ hm; omega)).trans hS16
     have rS1 := SL.row_stab HrS.out fun k hk => HA.out.block k (by have := bS k hk; omega) (fun hm => by have := bS k hk; have := bA k hm; omega)
     have zz1 := HA.out.size
     generalize wr = W1 at *
     go_wp2_with fail
     go_loopw [21] (fun i wr => ∃ (k : Nat) (ys : List Itm), k ≤ C.length ∧ i = .int .i64 k ∧ ys.length = C.length ∧ wr.ownsRow w5.heap.size 24 16 (Value.slice ba C.length bc) C.length (ics ys) ∧ SL.Chg (Value.slice ba C.length bc).ownBlock.toList W1 wr) (fun i _ => C.length - (RowKit.intOf i).toNat)
     case atStart => exact ⟨0, C, Nat.zero_le _, rfl, rfl, rB1, .refl _ _⟩
     case round =>
     obtain ⟨k, ys, hk, rfl, hyl, hro, hch⟩ := hrel
     have hnn : (0 : Int) ≤ k := by omega
     by_cases hlt : k < C.length
     ·have i1 : (k : Int) < (C.length : Int) := by omega
      obtain ⟨G, rfl⟩ := owns_some hro (by omega)
      obtain ⟨hrc, hrf, hG⟩ := irow hro (i := k) (by omega)
      have qo := row_puts junkI.cs (o := k * 16) hro
      rw [← ics_put (show k < ys.length by omega) junkI] at qo
      have qc := chg_puts (E := (Value.slice (some ⟨G, 0, none⟩) C.length bc).ownBlock.toList) (G := G) (by simp [Value.ownBlock]) junkI.cs wr (k * 16)
      have HQ := Lib.hid (And.intro qo (hch.trans qc))
      generalize ys.getD k default = old at *
      clear qo qc hro hch
      go_wp2_with (refine wpList_storeI (g := G) (q := k * 16) (x := junkI) (old := old) rfl _ _ rfl rfl rfl hrc hrf rfl ?_; generalize putsAt wr G (k * 16) junkI.cs = w3 at *)
      go_roundw
      case rel => exact ⟨k + 1, ys.set k junkI, by omega, by go_num, by simp [hyl], HQ.out.1, HQ.out.2⟩
      case measure => simp [RowKit.intOf]; omega
     clear hro hyl rB1
     have HB := Lib.hid hch
     clear hch
     have rS2 := SL.row_stab rS1 fun k hk => HB.out.block k (by have := bS k hk; omega) (fun hm => by have := bS k hk; have := bB k hm; omega)
     have hS2 := (HB.out.block w9.heap.size (Array.getElem?_eq_some_iff.1 hS1).1 (fun hm => by have := bB _ hm; omega)).trans hS1
     have zz2 := HB.out.size
     generalize wr = W2 at *
     go_wp2_with fail
     go_loopw [22] (fun i wr => ∃ (k : Nat) (xs : List Value), k ≤ SB.length ∧ i = .int .i64 k ∧ wr.ownsRow w7.heap.size 69 4 (Value.slice sa SB.length sc) SB.length xs ∧ SL.Chg (Value.slice sa SB.length sc).ownBlock.toList W2 wr) (fun i _ => SB.length - (RowKit.intOf i).toNat)
     case atStart => exact ⟨0, _, Nat.zero_le _, rfl, rS2, .refl _ _⟩
     case round =>
     obtain ⟨k, xs, hk, rfl, hro, hch⟩ := hrel
     have hnn : (0 : Int) ≤ k := by omega
     have hSw := (hch.block w9.heap.size (Array.getElem?_eq_some_iff.1 hS2).1 (fun hm => by have := bS _ hm; omega)).trans hS2
     have sc1 := (SL.cells_of hSw).1 1
     simp at sc1
     have zS := (Array.getElem?_eq_some_iff.1 hSw).1
     clear hSw
     by_cases hlt : k < SB.length
     ·have i1 : (k : Int) < (SB.length : Int) := by omega
      obtain ⟨G, rfl⟩ := owns_some hro (by omega)
      obtain ⟨u0, u1, u2, u3, e0, e1, e2, e3, hfz, hG⟩ := brow hro hlt
      have qo := row_puts [.int .i64 (-7), .int .i64 0, .int .i64 0, .int .i64 0] (o := k * 4) hro
      have qc := chg_puts (E := (Value.slice (some ⟨G, 0, none⟩) SB.length sc).ownBlock.toList) (G := G) (by simp [Value.ownBlock]) [.int .i64 (-7), .int .i64 0, .int .i64 0, .int .i64 0] wr (k * 4)
      have HQ := Lib.hid (And.intro qo (hch.trans qc))
      clear qo qc hro hch
      go_wp2_with fail
      go_roundw
      case rel => exact ⟨k + 1, _, by omega, by go_num, HQ.out.1, HQ.out.2⟩
      case measure => simp [RowKit.intOf]; omega
     have hSt : ∀ k, k < w16.heap.size → (k < w4.heap.size ∨ (w6.heap.size ≤ k ∧ k ≤ w7.heap.size) ∨ w9.heap.size ≤ k) → wr.heap[k]? = w16.heap[k]? := fun k hk hn =>
      ((hch.block k (by omega) (fun hm => by have := bS k hm; omega)).trans (HB.out.block k (by omega) (fun hm => by have := bB k hm; omega))).trans (HA.out.block k hk (fun hm => by have := bA k hm; omega))
     have hB3 : Below w.heap.size w wr := ((hB16.trans (HA.out.belowE_w (by omega) (fun k hk => by have := bA k hk; omega))).trans (HB.out.belowE_w (by omega) (fun k hk => by have := bB k hk; omega))).trans (hch.belowE_w (by omega) (fun k hk => by have := bS k hk; omega))
     have hX3 := (hSt w.heap.size (by omega) (.inl (by omega))).trans HX.out
     have hO3 := (hSt w7.heap.size (by omega) (.inr (.inl (by omega)))).trans HO.out
     have hWas := ItmsAt.of_owns (SL.row_stab HrWas.out fun k hk => hSt k (by have := bWas k hk; omega) (.inl (by have := bWas k hk; omega))) (by omega) h.wide
     have hOld := ItmsAt.of_owns (SL.row_stab HrOld.out fun k hk => hSt k (by have := bOld k hk; omega) (.inr (.inr (by have := bOld k hk; omega)))) (by omega) HAl.out.2
     have hCnt := ItmsAt.of_owns (SL.row_stab HrCnt.out fun k hk => hSt k (by have := bCnt k hk; omega) (.inr (.inr (by have := bCnt k hk; omega)))) (by omega) HCl.out.2
     have hWay := BdsAt.of_owns (SL.row_stab HrWay.out fun k hk => hSt k (by have := bWay k hk; omega) (.inr (.inr (by have := bWay k hk; omega)))) (by omega)
     have hOw := BdsAt.of_owns (SL.row_stab HrO.out fun k hk => hSt k (by have := bO k hk; omega) (.inr (.inl (by have := bO k hk; omega)))) (by omega)
     have hi3 := h.below hB3
     obtain ⟨⟨d0, d1, d2, d3, d4, d5, d6, d7, d8, d9, d10, d11, d12, d13, d14, d15⟩, _, _⟩ := ItmCells.of_heap hX3
     have tokA : True := trivial
     have tokB : True := trivial
     have tokC : True := trivial
     have e11 : (E1 == E1) = true := by simp
     have e22 : (E2 == E2) = true := by simp
     clear hch hro bWas bA bB bO bS bOld bCnt bWay HA HB HX HO HrB HrS HrWas HrO HrOld HrCnt HrWay hSt hS16 hS1 hS2 rS1 rS2 hB16 z4 z5 z6 z7 z9 z12 z14 z16 zz1 zz2 hX3
     by_cases h3 : E3 = 0
     ·have e33 : (E3 != 0) = false := by simp [h3]
      clear h3
      as_aux_lemma =>
       go_wp2_with (first
        | (go_at_call 23; (with_reducible refine (hAp _ hi3).mono ?_); rintro e w20 ⟨vc, rfl, hb20, ho20⟩; obtain ⟨ca, cc, rfl, _⟩ := owns_slice ho20; have hi4 := hi3.below hb20; have hA4 := ItmsAt.of_owns ho20 (by omega) HAl.out.2; clear d0 d1 d2 d3 d4 d5 d6 d7 d8 d9 d10 d11 d12 d13 d14 d15 sc1 zS)
        | (go_at_call 49; (with_reducible refine (hCo _ hi4).mono ?_); rintro e w21 ⟨vd, rfl, hb21, ho21⟩; obtain ⟨ea, ec, rfl, _⟩ := owns_slice ho21; have hC4 := ItmsAt.of_owns ho21 (by omega) HCl.out.2)
        | (go_at_call 20; (with_reducible refine (hSh _).mono ?_); rintro e w22 ⟨rfl, hb22⟩; have hY := (hb20.ch2 hb21).ch2 hb22; have hO4 := (hY.block w7.heap.size (Array.getElem?_eq_some_iff.1 hO3).1).trans hO3; have oc1 := (SL.cells_of hO4).1 1; simp at oc1; have zO := (Array.getElem?_eq_some_iff.1 hO4).1; have hq4 := fun W (hb : Below w22.heap.size w22 W) => r2same ca xa12 _ _ cc xc12 A W ((hA4.below (hb21.ch2 hb22)).below hb) ((hOld.below hY).below hb); have hq5 := fun W (hb : Below w22.heap.size w22 W) => r2same ea xa14 _ _ ec xc14 C W ((hC4.below hb22).below hb) ((hCnt.below hY).below hb); have hq6 := fun W (hb : Below w22.heap.size w22 W) => r2same a wa4 _ _ cap wc4 l W ((hi3.below hY).below hb) ((hWas.below hY).below hb); have hq7 := fun W (hb : Below w22.heap.size w22 W) => r2sameB o1 xa16 _ _ c1 xc16 WB W ((hOw.below hY).below hb) ((hWay.below hY).below hb); have hZ := Below.refl w22.heap.size w22)
        | (go_at_call 43; (with_reducible refine (hq7 _ hZ).mono ?_); rintro e w23 ⟨rfl, hb⟩; have hZ := hZ.ch2 hb)
        | (go_at_call 25; clear tokA; (with_reducible refine (hq4 _ hZ).mono ?_); rintro e w24 ⟨rfl, hb⟩; have hZ := hZ.ch2 hb)
        | (go_at_call 25; clear tokB; (with_reducible refine (hq5 _ hZ).mono ?_); rintro e w25 ⟨rfl, hb⟩; have hZ := hZ.ch2 hb)
        | (go_at_call 25; clear tokC; (with_reducible refine (hq6 _ hZ).mono ?_); rintro e w26 ⟨rfl, hb⟩; have hZ := hZ.ch2 hb))
       go_ret
       exact ⟨rfl, (hB3.ch2 hY).ch2 hZ⟩
     ·have e33 : (E3 != 0) = true := by simpa using h3
      clear h3
      as_aux_lemma =>
       go_wp2_with (first
        | (go_at_call 23; (with_reducible refine (hAp _ hi3).mono ?_); rintro e w20 ⟨vc, rfl, hb20, ho20⟩; obtain ⟨ca, cc, rfl, _⟩ := owns_slice ho20; have hi4 := hi3.below hb20; have hA4 := ItmsAt.of_owns ho20 (by omega) HAl.out.2; clear d0 d1 d2 d3 d4 d5 d6 d7 d8 d9 d10 d11 d12 d13 d14 d15 sc1 zS)
        | (go_at_call 49; (with_reducible refine (hCo _ hi4).mono ?_); rintro e w21 ⟨vd, rfl, hb21, ho21⟩; obtain ⟨ea, ec, rfl, _⟩ := owns_slice ho21; have hC4 := ItmsAt.of_owns ho21 (by omega) HCl.out.2)
        | (go_at_call 20; (with_reducible refine (hSh _).mono ?_); rintro e w22 ⟨rfl, hb22⟩; have hY := (hb20.ch2 hb21).ch2 hb22; have hO4 := (hY.block w7.heap.size (Array.getElem?_eq_some_iff.1 hO3).1).trans hO3; have oc1 := (SL.cells_of hO4).1 1; simp at oc1; have zO := (Array.getElem?_eq_some_iff.1 hO4).1; have hq4 := fun W (hb : Below w22.heap.size w22 W) => r2same ca xa12 _ _ cc xc12 A W ((hA4.below (hb21.ch2 hb22)).below hb) ((hOld.below hY).below hb); have hq5 := fun W (hb : Below w22.heap.size w22 W) => r2same ea xa14 _ _ ec xc14 C W ((hC4.below hb22).below hb) ((hCnt.below hY).below hb); have hq6 := fun W (hb : Below w22.heap.size w22 W) => r2same a wa4 _ _ cap wc4 l W ((hi3.below hY).below hb) ((hWas.below hY).below hb); have hq7 := fun W (hb : Below w22.heap.size w22 W) => r2sameB o1 xa16 _ _ c1 xc16 WB W ((hOw.below hY).below hb) ((hWay.below hY).below hb); have hZ := Below.refl w22.heap.size w22)
        | (go_at_call 43; (with_reducible refine (hq7 _ hZ).mono ?_); rintro e w23 ⟨rfl, hb⟩; have hZ := hZ.ch2 hb)
        | (go_at_call 25; clear tokA; (with_reducible refine (hq4 _ hZ).mono ?_); rintro e w24 ⟨rfl, hb⟩; have hZ := hZ.ch2 hb)
        | (go_at_call 25; clear tokB; (with_reducible refine (hq5 _ hZ).mono ?_); rintro e w25 ⟨rfl, hb⟩; have hZ := hZ.ch2 hb)
        | (go_at_call 25; clear tokC; (with_reducible refine (hq6 _ hZ).mono ?_); rintro e w26 ⟨rfl, hb⟩; have hZ := hZ.ch2 hb))
       go_ret
       exact ⟨rfl, (hB3.ch2 hY).ch2 hZ⟩
end Go.Proofs.YtelkcohhagblaaaGreat
namespace Go.Proofs.YtelkcohhagblaaaGreat
open Go.ChangeShapes Go.WideShapes Go.ChangeAt Go.RowKit Go.Joins Go.Deep
set_option maxRecDepth 100000
set_option maxHeartbeats 2000000
theorem item_open {H : Type} {enc : TypeId × Value → H} {W : World} {base : Nat} {v : Value} {d : DataW H} {p : List MemPlace} (hv : Value.okWide Tryz.prog W .any base 24 v)
 (h : DataW.Trod enc Tryz.prog W 0 (fun _ => true) true 24 v d p) : ∃ x : Itm, v = x.v ∧ x.Wide := by
 simp only [Value.okWide, Tryz.underlying24] at hv
 obtain ⟨cs, he, _⟩ := hv
 subst he
 obtain ⟨fuel, hf⟩ := h
 obtain ⟨x, hx, hw⟩ := item_cells (show DataW.trod enc Tryz.prog W 0 (fun _ => true) true fuel 24 cs.toList = some (d, p) from hf)
 refine ⟨x, ?_, hw⟩
 unfold Itm.v
 rw [← hx]
set_option maxRecDepth 100000 in
theorem sherdMemory_lifted (os : Os) (started : os.Started) (H : Type) (enc : TypeId × Value → H) :
 ReturnsInHanded {} Tryz.checked os 9 .any (Rows.sherdMemorySpec.pre6 enc Tryz.prog Tryz.f9 Rows.sherdMemoryRow.domain false) (Rows.sherdMemorySpec.post enc Tryz.prog Tryz.f9 false true false false) := by
 refine returnsInHanded_of_change_sized (C := Tryz.checked) Tryz.own started (by kernel_rfl) Tryz.func9
  (ChangeSpec.witness6 (enc := enc) (C := Tryz.checked) false ⟨#[], #[.slice none 0 0, .agg #[.int .i64 0, .int .i64 0, .int .u8 0, .string ⟨#[]⟩, .int .i64 0, .int .i64 0, .int .i64 0, .bool false, .int .i64 0, .int .i64 0, .int .i64 0, .int .i64 0, .int .i64 0, .string ⟨#[]⟩, .int .i64 0, .int .i64 0], .int .i64 0, .int .i64 0], []⟩ 8 (by kernel_rfl) (by kernel_rfl) (by kernel_rfl) (by kernel_rfl)) ?_
 intro W base args ds gs before hval0 hW _ hsz0 _
 have hsz : (DataW.weightsEach Tryz.prog (Tryz.f9.params.toList ++ Rows.sherdMemorySpec.plain.varTypes Tryz.prog) (ds ++ gs)).all (· ≤ reachBytes) = true := hsz0
 clear hsz0
 have hval : ∀ (j : Nat) t v, Tryz.f9.params[j]? = some t → args[j]? = some v → Value.okWide Tryz.prog W .any base t v := hval0
 have hW' := hW
 obtain ⟨p, q, hA0, hV, rfl, _, _⟩ := hW
 have hA : DataW.TrodAll enc Tryz.prog W 0 (fun _ => true) true Tryz.f9.params.toList args.toList ds p := hA0
 rw [Tryz.params9] at hA hval hsz
 obtain ⟨v0, vs0, d0, ds0, p0, q0, hargs, rfl, rfl, h0, r0⟩ := trodAll_cons hA
 obtain ⟨v1, vs1, d1, ds1, p1, q1, rfl, rfl, rfl, h1, r1⟩ := trodAll_cons r0
 obtain ⟨v2, vs2, d2, ds2, p2, q2, rfl, rfl, rfl, h2, r2⟩ := trodAll_cons r1
 obtain ⟨v3, vs3, d3, ds3, p3, q3, rfl, rfl, rfl, h3, r3⟩ := trodAll_cons r2
 obtain ⟨rfl, rfl, rfl⟩ := trodAll_nil r3
 obtain rfl : args = #[v0, v1, v2, v3] := by cases args; simp_all
 obtain ⟨rfl, rfl⟩ := trodVars_none hV
 clear hA0 hval0
 have hlt : ∀ x ∈ p0 ++ p1 ++ p2 ++ p3, x.block < W.heap.size := fun x hx => by have := hW'.lt x (by simpa using hx); simpa using this
 obtain ⟨a0, n0, k0, xs0, rfl, hb0, hn0⟩ := items_open (hval 0 22 v0 rfl rfl) h0 (fun n hn => by
  have := List.all_eq_true.1 hsz _ (DataW.weights_mem_each (j := 0) rfl rfl n hn)
  simpa using this)
 obtain ⟨x1, rfl, hw1⟩ := item_open (hval 1 24 v1 rfl rfl) h1
 obtain ⟨x2, rfl⟩ := okWide_int Tryz.underlying3 (hval 2 3 v2 rfl rfl)
 obtain ⟨x3, rfl⟩ := okWide_int Tryz.underlying3 (hval 3 3 v3 rfl rfl)
 refine (lmemory a0 n0 k0 xs0 x1 x2 x3 W hb0 hn0 hw1).mono fun e W' ⟨he, hw⟩ => ?_
 subst he
 exact ⟨_, rfl, ⟨_, _, _, [], _, [], hW', trodAll_mk1 (shut_bool Tryz.underlying4 _), (trodAll_cons_mk (Below.trod Tryz.laidOut (by kernel_rfl) (of_decide_eq_true (by kernel_rfl)) h0 hw (fun x hx => hlt x (by simp [hx]))) (trodAll_cons_mk (Below.trod Tryz.laidOut (by kernel_rfl) (of_decide_eq_true (by kernel_rfl)) h1 hw (fun x hx => hlt x (by simp [hx]))) (trodAll_cons_mk (Below.trod Tryz.laidOut (by kernel_rfl) (of_decide_eq_true (by kernel_rfl)) h2 hw (fun x hx => hlt x (by simp [hx]))) (trodAll_cons_mk (Below.trod Tryz.laidOut (by kernel_rfl) (of_decide_eq_true (by kernel_rfl)) h3 hw (fun x hx => hlt x (by simp [hx]))) trodAll_mk0)))), rfl, hw.frame _, fun h => by cases h⟩⟩
set_option maxRecDepth 100000 in
set_option maxHeartbeats 8000000 in
theorem sherdMemory_closed : joinedFacts Tryz.prog 9 Tryz.f9 Rows.sherdMemorySpec Rows.sherdMemoryRow = true := by
 unfold joinedFacts
 repeat' (with_reducible refine (Bool.and_eq_true _ _).mpr ⟨?_, ?_⟩)
 all_goals as_aux_lemma => kernel_rfl
theorem sherdMemory_holds : Rows.SherdMemorySaid :=
 OpenClaim.holds_of_wide 9 Tryz.f9 rfl rfl rfl rfl rfl rfl rfl ⟨rfl, rfl, rfl, rfl, rfl⟩ rfl rfl rfl rfl rfl (by kernel_rfl) Tryz.func9 sherdMemory_closed
  (of_decide_eq_true (by kernel_rfl)) (by unfold Func.isWrapper; rw [if_neg (of_decide_eq_false (by kernel_rfl))]; exact ⟨rfl, rfl⟩)
  (fun os started H enc _ => sherdMemory_lifted os started H enc)
#print axioms sherdMemory_holds
end Go.Proofs.YtelkcohhagblaaaGreat
