/-
  The law Either, walked, and its statement.
-/
import Derived.Test.YtelkcohhagblaaaGreatSc02
import Derived.Test.YtelkcohhagblaaaGreatSc07
import Derived.Test.YtelkcohhagblaaaGreatSc08
import Derived.Test.YtelkcohhagblaaaGreatSc24
import Derived.Test.YtelkcohhagblaaaGreatSc26
import Derived.Test.YtelkcohhagblaaaGreatSc27
import Derived.Test.YtelkcohhagblaaaGreatChecked
import Derived.ProofKit
import Derived.SizedLaws
import Derived.Lib.SmallJoins
import Derived.Deep.Slices
import Derived.Deep.Fields
import Derived.OpenShut
import Derived.Test.YtelkcohhagblaaaGreatSc44
import Derived.Test.YtelkcohhagblaaaGreatSc43
import Derived.Test.YtelkcohhagblaaaGreatRows
set_option linter.unusedSimpArgs false
set_option linter.unusedVariables false
set_option linter.unnecessarySimpa false
namespace Go.Proofs.YtelkcohhagblaaaGreat
open Go.RowKit
theorem BdsAt.nilAt (w : World) : BdsAt w none 0 0 [] := ⟨rfl, by simp, fun _ => ⟨rfl, rfl⟩, fun x h => by cases h⟩

theorem RowAt.nilAt (w : World) : RowAt w none 0 [] := ⟨fun _ => ⟨rfl, rfl⟩, fun x h => by cases h⟩

theorem IntsAt.nilAt (w : World) : IntsAt w none 0 0 [] := ⟨rfl, by simp, RowAt.nilAt w⟩

end Go.Proofs.YtelkcohhagblaaaGreat
namespace Go.Proofs.YtelkcohhagblaaaGreat
open Go Go.RowKit
theorem ItmsAt.nilAt (w : World) : ItmsAt w none 0 0 [] := ⟨rfl, by simp, RowAt.nilAt w, fun x hx => by cases hx⟩
end Go.Proofs.YtelkcohhagblaaaGreat
namespace Go.Proofs.YtelkcohhagblaaaGreat
open Go.RowKit Go.Shelf
set_option maxHeartbeats 4000000
set_option maxRecDepth 100000
theorem take_get {α : Type} [Inhabited α] {l : List α} {k : Nat} (hk : k < l.length) : l.take (k + 1) = l.take k ++ [l.getD k default] := by
 rw [List.take_succ_eq_append_getElem hk]
 simp [List.getD_eq_getElem?_getD, List.getElem?_eq_getElem hk]
end Go.Proofs.YtelkcohhagblaaaGreat
namespace Go.Proofs.YtelkcohhagblaaaGreat
open Go.RowKit Go.Shelf
theorem insI_len (x : Int) (l : List Int) : (insI x l).length ≤ l.length + 1 := by
 induction l with
 | nil => simp [insI]
 | cons y l ih =>
   unfold insI
   split
   ·simp; omega
   ·split <;> simp
def uniN (l : List Int) (k : Nat) : List Int := ascOf (l.take k)
theorem uniN_succ {l : List Int} {k : Nat} (hk : k < l.length) : uniN l (k + 1) = insI (l.getD k 0) (uniN l k) := by
 unfold uniN ascOf
 rw [take_get hk, List.foldl_append]
 rfl
theorem uniN_len (l : List Int) (k : Nat) : (uniN l k).length ≤ k := by
 induction k with
 | zero => simp [uniN, ascOf]
 | succ k ih =>
   rcases Nat.lt_or_ge k l.length with h | h
   ·rw [uniN_succ h]
    have := insI_len (l.getD k 0) (uniN l k)
    omega
   ·have : uniN l (k + 1) = uniN l k := by
     unfold uniN
     rw [List.take_of_length_le (by omega), List.take_of_length_le (by omega)]
    rw [this]; omega
theorem uniN_all (l : List Int) : uniN l l.length = ascOf l := by unfold uniN; rw [List.take_length]
end Go.Proofs.YtelkcohhagblaaaGreat
namespace Go.Proofs.YtelkcohhagblaaaGreat
open Go
theorem spareK_not {α : Type} (nd : List α → Bool) : ∀ (i : Nat) (rest : List α), nd rest = false → nd (spareK nd rest i) = false
 | 0, rest, h => h
 | i + 1, rest, h => by
   unfold spareK
   refine spareK_not nd i _ ?_
   split
   ·exact h
   ·rename_i h2; simpa using h2
end Go.Proofs.YtelkcohhagblaaaGreat
namespace Go.Proofs.YtelkcohhagblaaaGreat
open Go.RowKit Go.Shelf
set_option maxHeartbeats 40000000
set_option maxRecDepth 100000
theorem ascOf_len (l : List Int) : (ascOf l).length ≤ l.length := by rw [← uniN_all]; exact uniN_len l l.length

end Go.Proofs.YtelkcohhagblaaaGreat
namespace Go.Proofs
open Go.Shelf
def Tryz.containsA_ren : Go.Shelf.Ren := ⟨fun | 107 => 126 | 108 => 184 | n => n, fun | 28 => 61 | 3 => 3 | 4 => 4 | 0 => 0 | n => n, fun | n => n⟩
theorem Tryz.containsA : Go.Proofs.Lays.n107 Tryz.prog Tryz.containsA_ren := {
 mixed := by kernel_rfl
 f107 := Tryz.func126.trans (congrArg some (by kernel_rfl))
 f108 := Tryz.func184.trans (congrArg some (by kernel_rfl))
 t0 := Tryz.underlying0
 a0 := Tryz.isAgg0
 z0 := Tryz.sizeOf0
 v0 := Tryz.zeroValue0
 t3 := Tryz.underlying3
 a3 := Tryz.isAgg3
 z3 := Tryz.sizeOf3
 v3 := Tryz.zeroValue3
 t4 := Tryz.underlying4
 a4 := Tryz.isAgg4
 z4 := Tryz.sizeOf4
 v4 := Tryz.zeroValue4
 t28 := Tryz.underlying61
 a28 := Tryz.isAgg61
 z28 := Tryz.sizeOf61
 v28 := Tryz.zeroValue61 }
def Tryz.equalA_ren : Go.Shelf.Ren := ⟨fun | 111 => 123 | n => n, fun | 28 => 61 | 3 => 3 | 4 => 4 | 0 => 0 | n => n, fun | n => n⟩
theorem Tryz.equalA : Go.Proofs.Lays.n111 Tryz.prog Tryz.equalA_ren := {
 mixed := by kernel_rfl
 f111 := Tryz.func123.trans (congrArg some (by kernel_rfl))
 t0 := Tryz.underlying0
 a0 := Tryz.isAgg0
 z0 := Tryz.sizeOf0
 v0 := Tryz.zeroValue0
 t3 := Tryz.underlying3
 a3 := Tryz.isAgg3
 z3 := Tryz.sizeOf3
 v3 := Tryz.zeroValue3
 t4 := Tryz.underlying4
 a4 := Tryz.isAgg4
 z4 := Tryz.sizeOf4
 v4 := Tryz.zeroValue4
 t28 := Tryz.underlying61
 a28 := Tryz.isAgg61
 z28 := Tryz.sizeOf61
 v28 := Tryz.zeroValue61 }
end Go.Proofs
namespace Go.Proofs.YtelkcohhagblaaaGreat
theorem mem_pts {p j : Int} (h0 : 0 ≤ j) (h1 : j < p) : j ∈ (List.range p.toNat).map fun (i : Nat) => (i : Int) := List.mem_map.2 ⟨j.toNat, by simp; omega, by simp; omega⟩

/-- Where some list keeps all bounds, there is a solution. -/
theorem okB_of_keeps {p : Int} {bs : List Bd} (h : chk p bs = 0) {y : Int → Int} (hy : keepsB bs y) : okB p bs = true := by
 have hs := Sys.of_chk h
 have hp := hs.p2
 have hp1 := hs.p1
 obtain ⟨v, hv, hm⟩ := least_of (fun j => - y j) ((List.range p.toNat).map fun (i : Nat) => (i : Int)) (by
  intro e
  have := mem_pts (p := p) (j := 0) (by omega) (by omega)
  rw [e] at this
  simp at this)
 refine BF.settles hp hs.inr hy (Pts.of_chk h) (p + 1).toNat ((List.range p.toNat).map fun (i : Nat) => (i : Int)) (- y v) ⟨List.replicate 60 0, List.replicate 60 (-1), 0⟩ (by simp; omega) ⟨fun j hj => hj, fun j j0 j1 hj => ?_, fun j j0 j1 hj hf => ?_, fun j _ _ a b => absurd a b, fun b hb hf => ?_⟩ (by simp)
 ·exact absurd (mem_pts j0 j1) hj
 ·have := hm j hj
  simp only at this ⊢
  rw [gi_zeros]
  omega
 ·obtain ⟨q0, q1, _⟩ := Pts.of_chk h b hb
  exact absurd (mem_pts q0 q1) hf

theorem okB_sub {p : Int} {bs cs : List Bd} (h : chk p bs = 0) (hok : okB p bs = true) (h1 : ∀ b ∈ cs, b ∈ bs) (h2 : cs.length ≤ bs.length) : okB p cs = true :=
 okB_of_keeps (chk_sub h h1 h2) (fun b hb => okB_keeps (Sys.of_chk h) hok b (h1 b hb))

end Go.Proofs.YtelkcohhagblaaaGreat
namespace Go.Proofs.YtelkcohhagblaaaGreat
open Go
theorem clashI_comm (a b : Itm) : clashI a b = clashI b a := by unfold clashI; rw [Bool.or_comm]
theorem clashP_none {l : List Itm} : ∀ {i : Nat}, clashP l i = [] ↔ ∀ j, j < i → clashTo (l.take j) (l.getD j default) = none
 | 0 => by simp [clashP]
 | i + 1 => by
   have ih := clashP_none (l := l) (i := i)
   unfold clashP
   cases h : clashP l i with
   | nil =>
     simp only
     rw [h] at ih
     simp only [true_iff] at ih
     cases h2 : clashTo (l.take i) (l.getD i default) with
     | none =>
       simp only [true_iff]
       intro j hj
       by_cases e : j = i
       ·subst e; exact h2
       ·exact ih j (by omega)
     | some b =>
       simp only [reduceCtorEq, false_iff]
       intro hh
       have := hh i (by omega)
       rw [h2] at this
       cases this
   | cons x p =>
     simp only [reduceCtorEq, false_iff]
     rw [h] at ih
     simp only [reduceCtorEq, false_iff] at ih
     exact fun hh => ih fun j hj => hh j (by omega)
/-- A doubt is one. -/
def dubB (s : List Itm) (y : Shd) (k : Int) (ids : List Int) : Bool :=
 decide (1 ≤ k) && (decide (k ≤ 4) && ((ids == ascOf ids) &&
  (decide (((keptL s (k + 1) y.id).filter fun x => ids.contains x.id).length = ids.length) &&
   (if k = 3 then (match (keptL s 4 y.id).filter fun x => ids.contains x.id with | [a, b] => clashI a b | _ => false)
    else contraB (k + 1) y.co ((keptL s (k + 1) y.id).filter fun x => ids.contains x.id)))))
end Go.Proofs.YtelkcohhagblaaaGreat
namespace Go.Proofs.YtelkcohhagblaaaGreat
open Go.RowKit Go.Shelf Go.Sort Go.Lib
set_option maxHeartbeats 1000000
set_option maxRecDepth 100000
theorem containsI (a : Option Addr) (n cap : Nat) (xs : List Int) (x : Int) (w : World) (hx : IntsAt w a n cap xs) :
 Calls Tryz.prog 126 #[.slice a n cap, .int .i64 x] w fun e w' => e = .returned (.bool (xs.contains x)) ∧ Below w.heap.size w w' := by
 have hsm := hx.small
 obtain rfl := hx.len
 match a, hx with
 | none, hx =>
   obtain ⟨h0, h1⟩ := hx.row.nil rfl
   have h2 : xs = [] := by simpa using h0
   subst h2
   refine (Any.slices_Contains_int_empty Tryz.containsA _ _ _ w).mono ?_
   rintro e w' ⟨rfl, rfl⟩
   exact ⟨rfl, Below.refl _ _⟩
 | some ⟨b, o, sp⟩, hx =>
   obtain ⟨rfl, hb, hc⟩ := hx.cells
   refine (Any.slices_Contains_int Tryz.containsA b o xs.length cap xs x w (Nat.le_refl _) (by omega) hc).mono ?_
   rintro e w' ⟨rfl, rfl⟩
   rw [List.take_length]
   exact ⟨rfl, Below.refl _ _⟩
end Go.Proofs.YtelkcohhagblaaaGreat
namespace Go.Proofs.YtelkcohhagblaaaGreat
open Go.ChangeShapes Go.WideShapes Go.ChangeAt Go.RowKit Go.Joins Go.Deep
set_option maxRecDepth 100000
set_option maxHeartbeats 2000000
theorem Tryz.own : ownKnob Tryz.prog.godebug = none := by kernel_rfl
theorem Tryz.laidOut : laidOutB Tryz.prog = true := by kernel_rfl
theorem Tryz.cI : Tryz.prog.cellsOf 3 = 1 := by kernel_rfl
theorem Tryz.cU : Tryz.prog.cellsOf 5 = 1 := by kernel_rfl
theorem Tryz.cS : Tryz.prog.cellsOf 9 = 1 := by kernel_rfl
theorem Tryz.cB : Tryz.prog.cellsOf 4 = 1 := by kernel_rfl
theorem Tryz.cItem : Tryz.prog.cellsOf 24 = 16 := by kernel_rfl
theorem Tryz.bItem : Tryz.prog.bytesOf 24 = 144 := by kernel_rfl
theorem itm_add {b o : Nat} (k : Nat) : (⟨b, o, none⟩ : Addr).add k = ⟨b, o + k, none⟩ := by
 unfold Addr.add
 split
 ·rename_i h; subst h; simp
 ·rfl
theorem itm_where {W : World} {base : Nat} {t e : TypeId} {a : Addr} {n cap : Nat} (ht : Tryz.prog.underlying t = some (.slice e)) (hv : Value.okWide Tryz.prog W .any base t (.slice (some a) n cap)) : a.spot = none ∧ a.block < W.heap.size := by
 simp only [Value.okWide, ht, Cell.okWide, Cell.ok] at hv
 obtain ⟨_, _, _, hsp, row, cells, hsh, _⟩ := hv
 refine ⟨hsp, ?_⟩
 simp only [World.shape?] at hsh
 by_cases hlt : a.block < W.heap.size
 ·exact hlt
 ·rw [Array.getElem?_eq_none (by omega)] at hsh
  simp at hsh
theorem itm_slice {W : World} {base : Nat} {t e : TypeId} {v : Value} (ht : Tryz.prog.underlying t = some (.slice e)) (hv : Value.okWide Tryz.prog W .any base t v) : ∃ a n cap, v = .slice a n cap := by
 simp only [Value.okWide, ht, Cell.okWide, Cell.ok] at hv
 cases v <;> simp at hv
 exact ⟨_, _, _, rfl⟩
theorem u8_in {x : Int} (h : (Lit.int .u8 x).wf = true) : 0 ≤ x ∧ x ≤ 255 := by
 have h1 : IntKind.u8.min = 0 := by decide
 have h2 : IntKind.u8.max = 255 := by decide
 have h3 : (decide (IntKind.u8.min ≤ x) && decide (x ≤ IntKind.u8.max)) = true := h
 rw [h1, h2] at h3
 simpa using h3
section
variable {H : Type} {enc : TypeId × Value → H} {w : World} {base : Nat}
theorem int_cw {t : TypeId} {k : IntKind} {n i : Nat} {v : Value} {xs : List (DataW H × List MemPlace)} (ht : Tryz.prog.underlying t = some (.int k)) (h : DataW.trod enc Tryz.prog w base (fun _ => true) true n t [v] = xs[i]?) (hi : i < xs.length) : ∃ x, v = .int k x ∧ (Lit.int k x).wf = true := by
 rw [List.getElem?_eq_getElem hi] at h
 obtain ⟨x, e0, _, e2⟩ := DataW.trod_int ht h
 simp at e0
 exact ⟨x, e0, e2⟩
theorem str_cw {t : TypeId} {n i : Nat} {v : Value} {xs : List (DataW H × List MemPlace)} (ht : Tryz.prog.underlying t = some .string) (h : DataW.trod enc Tryz.prog w base (fun _ => true) true n t [v] = xs[i]?) (hi : i < xs.length) : ∃ x : ByteArray, v = .string x ∧ x.size ≤ maxLen := by
 rw [List.getElem?_eq_getElem hi] at h
 obtain ⟨x, e0, _, e2⟩ := DataW.trod_string ht h
 simp at e0
 exact ⟨x, e0, e2⟩
theorem bool_cw {t : TypeId} {n i : Nat} {v : Value} {xs : List (DataW H × List MemPlace)} (ht : Tryz.prog.underlying t = some .bool) (h : DataW.trod enc Tryz.prog w base (fun _ => true) true n t [v] = xs[i]?) (hi : i < xs.length) : ∃ x, v = .bool x := by
 rw [List.getElem?_eq_getElem hi] at h
 obtain ⟨x, e0, _⟩ := DataW.trod_bool ht h
 simp at e0
 exact ⟨x, e0⟩
theorem list16 {l : List Value} (h : l.length = 16) : ∃ c0 c1 c2 c3 c4 c5 c6 c7 c8 c9 c10 c11 c12 c13 c14 c15, l = [c0, c1, c2, c3, c4, c5, c6, c7, c8, c9, c10, c11, c12, c13, c14, c15] := by
 match l, h with
 | [c0, c1, c2, c3, c4, c5, c6, c7, c8, c9, c10, c11, c12, c13, c14, c15], _ => exact ⟨c0, c1, c2, c3, c4, c5, c6, c7, c8, c9, c10, c11, c12, c13, c14, c15, rfl⟩
/-- An item in its cells. -/
theorem item_cells {n : Nat} {cs : List Value} {y : DataW H × List MemPlace} (h : DataW.trod enc Tryz.prog w base (fun _ => true) true n 24 cs = some y) : ∃ x : Itm, cs = x.cs ∧ x.Wide := by
 obtain ⟨xs, m, rfl, rfl, hl, hxl, hf⟩ := DataW.trod_struct Tryz.underlying24 h
 rw [Tryz.cItem] at hl
 obtain ⟨c0, c1, c2, c3, c4, c5, c6, c7, c8, c9, c10, c11, c12, c13, c14, c15, rfl⟩ := list16 hl
 have hx : xs.length = 16 := hxl
 have f0 : DataW.trod enc Tryz.prog w base (fun _ => true) true m 3 [c0] = xs[0]? := by have := hf 0 _ rfl; simpa [Tryz.cI] using this
 have f1 : DataW.trod enc Tryz.prog w base (fun _ => true) true m 3 [c1] = xs[1]? := by have := hf 1 _ rfl; simpa [Tryz.cI] using this
 have f2 : DataW.trod enc Tryz.prog w base (fun _ => true) true m 5 [c2] = xs[2]? := by have := hf 2 _ rfl; simpa [Tryz.cU] using this
 have f3 : DataW.trod enc Tryz.prog w base (fun _ => true) true m 9 [c3] = xs[3]? := by have := hf 3 _ rfl; simpa [Tryz.cS] using this
 have f4 : DataW.trod enc Tryz.prog w base (fun _ => true) true m 3 [c4] = xs[4]? := by have := hf 4 _ rfl; simpa [Tryz.cI] using this
 have f5 : DataW.trod enc Tryz.prog w base (fun _ => true) true m 3 [c5] = xs[5]? := by have := hf 5 _ rfl; simpa [Tryz.cI] using this
 have f6 : DataW.trod enc Tryz.prog w base (fun _ => true) true m 3 [c6] = xs[6]? := by have := hf 6 _ rfl; simpa [Tryz.cI] using this
 have f7 : DataW.trod enc Tryz.prog w base (fun _ => true) true m 4 [c7] = xs[7]? := by have := hf 7 _ rfl; simpa [Tryz.cB] using this
 have f8 : DataW.trod enc Tryz.prog w base (fun _ => true) true m 3 [c8] = xs[8]? := by have := hf 8 _ rfl; simpa [Tryz.cI] using this
 have f9 : DataW.trod enc Tryz.prog w base (fun _ => true) true m 3 [c9] = xs[9]? := by have := hf 9 _ rfl; simpa [Tryz.cI] using this
 have f10 : DataW.trod enc Tryz.prog w base (fun _ => true) true m 3 [c10] = xs[10]? := by have := hf 10 _ rfl; simpa [Tryz.cI] using this
 have f11 : DataW.trod enc Tryz.prog w base (fun _ => true) true m 3 [c11] = xs[11]? := by have := hf 11 _ rfl; simpa [Tryz.cI] using this
 have f12 : DataW.trod enc Tryz.prog w base (fun _ => true) true m 3 [c12] = xs[12]? := by have := hf 12 _ rfl; simpa [Tryz.cI] using this
 have f13 : DataW.trod enc Tryz.prog w base (fun _ => true) true m 9 [c13] = xs[13]? := by have := hf 13 _ rfl; simpa [Tryz.cS] using this
 have f14 : DataW.trod enc Tryz.prog w base (fun _ => true) true m 3 [c14] = xs[14]? := by have := hf 14 _ rfl; simpa [Tryz.cI] using this
 have f15 : DataW.trod enc Tryz.prog w base (fun _ => true) true m 3 [c15] = xs[15]? := by have := hf 15 _ rfl; simpa [Tryz.cI] using this
 obtain ⟨x0, rfl, e0⟩ := int_cw Tryz.underlying3 f0 (by omega)
 obtain ⟨x1, rfl, e1⟩ := int_cw Tryz.underlying3 f1 (by omega)
 obtain ⟨x2, rfl, e2⟩ := int_cw Tryz.underlying5 f2 (by omega)
 obtain ⟨x3, rfl, e3⟩ := str_cw Tryz.underlying9 f3 (by omega)
 obtain ⟨x4, rfl, e4⟩ := int_cw Tryz.underlying3 f4 (by omega)
 obtain ⟨x5, rfl, e5⟩ := int_cw Tryz.underlying3 f5 (by omega)
 obtain ⟨x6, rfl, e6⟩ := int_cw Tryz.underlying3 f6 (by omega)
 obtain ⟨x7, rfl⟩ := bool_cw Tryz.underlying4 f7 (by omega)
 obtain ⟨x8, rfl, e8⟩ := int_cw Tryz.underlying3 f8 (by omega)
 obtain ⟨x9, rfl, e9⟩ := int_cw Tryz.underlying3 f9 (by omega)
 obtain ⟨x10, rfl, e10⟩ := int_cw Tryz.underlying3 f10 (by omega)
 obtain ⟨x11, rfl, e11⟩ := int_cw Tryz.underlying3 f11 (by omega)
 obtain ⟨x12, rfl, e12⟩ := int_cw Tryz.underlying3 f12 (by omega)
 obtain ⟨x13, rfl, e13⟩ := str_cw Tryz.underlying9 f13 (by omega)
 obtain ⟨x14, rfl, e14⟩ := int_cw Tryz.underlying3 f14 (by omega)
 obtain ⟨x15, rfl, e15⟩ := int_cw Tryz.underlying3 f15 (by omega)
 have hu : 0 ≤ x2 ∧ x2 ≤ 255 := u8_in e2
 exact ⟨⟨x0, x1, x2, x3, x4, x5, x6, x7, x8, x9, x10, x11, x12, x13, x14, x15⟩, rfl, ⟨e3, e13, hu, e0, e15⟩⟩
end
theorem items_open {H : Type} {enc : TypeId × Value → H} {W : World} {base : Nat} {v : Value} {d : DataW H} {p : List MemPlace} (hv : Value.okWide Tryz.prog W .any base 22 v)
 (h : DataW.Trod enc Tryz.prog W 0 (fun _ => true) true 22 v d p) (hs : ∀ n ∈ d.weights Tryz.prog 22, n ≤ reachBytes) : ∃ a n cap l, v = .slice a n cap ∧ ItmsAt W a n cap l ∧ l.length ≤ cap := by
 obtain ⟨a0, n0, c0, rfl⟩ := itm_slice Tryz.underlying22 hv
 obtain ⟨fuel, hf⟩ := h
 rcases open_slice Tryz.underlying22 (show DataW.trod enc Tryz.prog W 0 (fun _ => true) true fuel 22 [.slice a0 n0 c0] = some (d, p) from hf) with ⟨hc, _⟩ | ⟨a, len, cap, m', k, D, Pl, hc, _, hl, _, hm, hx, hat⟩
 ·simp at hc
  obtain ⟨rfl, rfl, rfl⟩ := hc
  exact ⟨none, 0, 0, [], rfl, ItmsAt.nilAt _, Nat.le_refl _⟩
 ·simp only [List.cons.injEq, Value.slice.injEq, and_true] at hc
  obtain ⟨rfl, rfl, rfl⟩ := hc
  simp only [if_true] at hm
  subst hm
  simp only [Prod.mk.injEq] at hx
  obtain ⟨rfl, _⟩ := hx
  have hb : m' * 144 ≤ reachBytes := by
   have := hs _ (by simp only [DataW.weights, Tryz.underlying22]; exact List.mem_cons_self ..)
   rw [Tryz.bItem] at this
   simp only [List.length_map, List.length_range] at this
   rw [show n0 + (m' - n0) = m' by omega] at this
   exact this
  unfold reachBytes at hb
  obtain ⟨h1, h2⟩ := itm_where Tryz.underlying22 hv
  obtain ⟨ab, ao, sp⟩ := a
  simp only at h1 h2
  subst h1
  have hex : ∀ i, ∃ x : Itm, i < n0 → x.Wide ∧ ∀ j, j < 16 → W.cell? ⟨ab, ao + i * 16 + j, none⟩ = x.cs[j]? := fun i => by
   by_cases hi : i < n0
   ·obtain ⟨cs, e1, e2⟩ := hat i (by omega)
    rw [Tryz.cItem] at e1
    obtain ⟨_, hcl, hct⟩ := World.cells?_some e1
    obtain ⟨x, rfl, hw⟩ := item_cells e2
    refine ⟨x, fun _ => ⟨hw, fun j hj => ?_⟩⟩
    have := hct j hj
    rw [itm_add, itm_add] at this
    rw [this]
   ·exact ⟨Itm.zero, fun h => absurd h hi⟩
  obtain ⟨F, hF⟩ := Classical.axiomOfChoice hex
  refine ⟨_, n0, m', (List.range n0).map F, rfl, ⟨by simp, by simp; omega, ⟨fun h => (by cases h), fun x hx => ?_⟩, fun x hx => ?_⟩, by simp; omega⟩
  ·obtain rfl := Option.some.inj hx
   refine ⟨rfl, h2, fun i u hu => ?_⟩
   have hil := (List.getElem?_eq_some_iff.1 hu).1
   rw [ics_length] at hil
   simp at hil
   have hk : i / 16 < n0 := by omega
   have hfg := flatS_get (f := Itm.cs) (k := 16) (fun _ => rfl) ((List.range n0).map F) (i / 16) (i % 16) (by simpa using hk) (by omega)
   rw [show i / 16 * 16 + i % 16 = i by omega] at hfg
   have hu := hfg.symm.trans hu
   have hgd : ((List.range n0).map F).getD (i / 16) default = F (i / 16) := by simp [List.getD_eq_getElem?_getD, hk]
   rw [hgd] at hu
   have := (hF (i / 16) hk).2 (i % 16) (by omega)
   simp only
   rw [show ao + i = ao + i / 16 * 16 + i % 16 by omega, this, hu]
  ·obtain ⟨i, hi, rfl⟩ := List.mem_map.1 hx
   rw [List.mem_range] at hi
   exact (hF i hi).1
end Go.Proofs.YtelkcohhagblaaaGreat
namespace Go.Proofs.YtelkcohhagblaaaGreat
open Go.RowKit Go.Shelf
set_option maxHeartbeats 8000000
set_option maxRecDepth 100000
def shortB (x : Itm) : Bool := decide (x.wa.size ≤ 100) && decide (x.st.size ≤ 100)
theorem lone (x : Itm) (w : World) : Calls Tryz.prog 19 #[x.v] w fun e w' => e = .returned (.bool (shortB x)) ∧ Below w.heap.size w w' := by
 have hal := one_alloc w (Obj.cells #[.int .i64 x.id, .int .i64 x.kn, .int .u8 x.kd, .string x.wa, .int .i64 x.pit, .int .i64 x.ly, .int .i64 x.co, .bool x.ft, .int .i64 x.sh, .int .i64 x.fr, .int .i64 x.tw, .int .i64 x.lo, .int .i64 x.hi, .string x.st, .int .i64 x.li, .int .i64 x.vo] 24)
 have hX := World.alloc_heap_new w (Obj.cells #[.int .i64 x.id, .int .i64 x.kn, .int .u8 x.kd, .string x.wa, .int .i64 x.pit, .int .i64 x.ly, .int .i64 x.co, .bool x.ft, .int .i64 x.sh, .int .i64 x.fr, .int .i64 x.tw, .int .i64 x.lo, .int .i64 x.hi, .string x.st, .int .i64 x.li, .int .i64 x.vo] 24)
 have d3 := (ItmCells.of_heap hX).1.c3
 have d13 := (ItmCells.of_heap hX).1.c13
 simp only [Itm.v, Itm.cs]
 unfold shortB
 obtain ⟨A, hA⟩ : ∃ A, x.wa.size = A := ⟨_, rfl⟩
 obtain ⟨B, hB⟩ : ∃ B, x.st.size = B := ⟨_, rfl⟩
 rw [hA, hB]
 clear hX
 by_cases h1 : A ≤ 100
 ·have e1 : (A : Int) ≤ 100 := by omega
  have d1 : decide (A ≤ 100) = true := decide_eq_true h1
  rw [d1, Bool.true_and]
  by_cases h2 : B ≤ 100
  ·have e2 : (B : Int) ≤ 100 := by omega
   have d2 : decide (B ≤ 100) = true := decide_eq_true h2
   rw [d2]
   go_enter Tryz.func19, Tryz.ntmps19
   go_wp2_with fail
   go_ret
   exact ⟨rfl, hal⟩
  ·have e2 : ¬ (B : Int) ≤ 100 := by omega
   have d2 : decide (B ≤ 100) = false := decide_eq_false h2
   rw [d2]
   go_enter Tryz.func19, Tryz.ntmps19
   go_wp2_with fail
   go_ret
   exact ⟨rfl, hal⟩
 ·have e1 : ¬ (A : Int) ≤ 100 := by omega
  have d1 : decide (A ≤ 100) = false := decide_eq_false h1
  rw [d1, Bool.false_and]
  go_enter Tryz.func19, Tryz.ntmps19
  go_wp2_with fail
  go_ret
  exact ⟨rfl, hal⟩
def fewB (l : List Itm) (m : Nat) : Bool := (l.take m).all shortB && decide (l.length ≤ m)
theorem all_succ {l : List Itm} {k : Nat} (hk : k < l.length) : (l.take (k + 1)).all shortB = ((l.take k).all shortB && shortB (l.getD k default)) := by
 rw [List.take_succ_eq_append_getElem hk, List.all_append, List.getD_eq_getElem?_getD, List.getElem?_eq_getElem hk]
 simp
theorem all_no {l : List Itm} {k m : Nat} (hk : k < l.length) (hm : k < m) (h : shortB (l.getD k default) = false) : (l.take m).all shortB = false := by
 rw [List.all_eq_false]
 refine ⟨l.getD k default, ?_, by rw [h]; simp⟩
 rw [List.getD_eq_getElem?_getD, List.getElem?_eq_getElem hk]
 have : l[k] ∈ l.take m := List.mem_take_iff_getElem.2 ⟨k, by omega, rfl⟩
 exact this
theorem lfew (m : Nat) (a : Option Addr) (n cap : Nat) (l : List Itm) (w : World) (h : ItmsAt w a n cap l) (hm : m ≤ 1000) : Calls Tryz.prog 18 #[.slice a n cap, .int .i64 m] w fun e w' => e = .returned (.bool (fewB l m)) ∧ Below w.heap.size w w' := by
 obtain rfl := h.len
 have hsm := h.small
 have HP := Lib.hid (show ∀ w' b, fewB l m = b → Below w.heap.size w w' → (fun e w' => e = Ending.returned (.bool (fewB l m)) ∧ Below w.heap.size w w' : Ending → World → Prop) (.returned (.bool b)) w' from fun w' b h1 h2 => ⟨by rw [h1], h2⟩)
 generalize (fun e w' => e = Ending.returned (.bool (fewB l m)) ∧ Below w.heap.size w w' : Ending → World → Prop) = Post at *
 go_enter Tryz.func18, Tryz.ntmps18
 go_wp2_with fail
 go_loopw [5] (fun i wr => ∃ k : Nat, k ≤ l.length ∧ k ≤ m ∧ i = .int .i64 k ∧ Hid ((l.take k).all shortB = true) ∧ Below w.heap.size w wr) (fun i _ => l.length - (RowKit.intOf i).toNat)
 case atStart => exact ⟨0, Nat.zero_le _, Nat.zero_le _, rfl, Lib.hid rfl, Below.refl _ _⟩
 case round =>
  obtain ⟨k, hk, hkm, rfl, hall, hB⟩ := hrel
  have hnn : (0 : Int) ≤ k := by omega
  by_cases hlt : k < l.length
  ·have i1 : (k : Int) < (l.length : Int) := by omega
   by_cases hlm : k < m
   ·have i2 : (k : Int) < (m : Int) := by omega
    obtain ⟨b, o, rfl, hb, hdc⟩ := (h.below hB).get hlt
    have Hs := Lib.hid (all_succ hlt)
    have Hn := Lib.hid (all_no hlt hlm)
    generalize l.getD k default = x at *
    have hcl := lone x wr
    cases hv : shortB x with
    | true =>
      rw [hv] at hcl Hs
      have h2 := Lib.hid (show (l.take (k + 1)).all shortB = true by rw [Hs.out, hall.out]; rfl)
      clear hv Hn
      go_wp2_with (first
       | (refine wpList_loadI rfl _ rfl rfl hdc ?_)
       | (go_at_call 19; (with_reducible refine hcl.mono ?_); rintro e w2 ⟨rfl, hb2⟩))
      go_roundw
      case rel => exact ⟨k + 1, by omega, by omega, by go_num, h2, hB.ch2 hb2⟩
      case measure => simp [RowKit.intOf]; omega
    | false =>
      have HE := Lib.hid (fun w' hb => HP.out w' false (by unfold fewB; rw [Hn.out hv]; rfl) hb)
      rw [hv] at hcl
      clear hv Hn Hs
      go_wp2_with (first
       | (refine wpList_loadI rfl _ rfl rfl hdc ?_)
       | (go_at_call 19; (with_reducible refine hcl.mono ?_); rintro e w2 ⟨rfl, hb2⟩))
      exact HE.out _ (hB.ch2 hb2)
   ·have i2 : ¬ (k : Int) < (m : Int) := by omega
    have i3 : ¬ (l.length : Int) ≤ (m : Int) := by omega
    have HE := Lib.hid (HP.out wr false (by unfold fewB; rw [decide_eq_false (by omega), Bool.and_false]) hB)
    go_wp2_with fail
    exact HE.out
  ·have i1 : ¬ (k : Int) < (l.length : Int) := by omega
   have hkl : k = l.length := by omega
   have i3 : (l.length : Int) ≤ (m : Int) := by omega
   have HE := Lib.hid (HP.out wr true (by unfold fewB; rw [decide_eq_true (by omega), Bool.and_true, List.take_of_length_le (by omega)]; have := hall.out; rw [hkl, List.take_length] at this; exact this) hB)
   clear hkl
   go_wp2_with fail
   exact HE.out
end Go.Proofs.YtelkcohhagblaaaGreat
namespace Go.Proofs.YtelkcohhagblaaaGreat
open Go
/-- Of the kinds of systems: with fewer measurements there are no more contradictions. -/
theorem sys_chk {l : List Itm} {day id : Int} (h : LookOk l day id) {k : Int} (hk : k = 2 ∨ k = 3) {ms : List Itm} (hs : ms.Sublist (keptL (countL l day) k id)) : chk (sysP k (lookS l day id).co) (sysB k (lookS l day id).co ms) = 0 := by
 rcases hk with rfl | rfl
 ·refine chk_sub h.ways ?_ ?_
  ·intro b hb
   simp only [sysB, if_pos, waysB, List.mem_append] at hb
   simp only [wayB, waysB, List.mem_append]
   refine hb.imp (fun h => h) fun hb => ?_
   simp only [msB, List.mem_flatMap] at hb ⊢
   obtain ⟨x, hx, e⟩ := hb
   exact ⟨x, hs.subset hx, e⟩
  ·simp only [sysB, if_pos, wayB, waysB, List.length_append, msB_len]
   have := hs.length_le
   omega
 ·refine chk_sub h.turns ?_ ?_
  ·intro b hb
   simp only [sysB, show ¬ ((3 : Int) = 2) by decide, if_false, turnsB, List.mem_append] at hb
   simp only [turnB, turnsB, List.mem_append]
   refine hb.imp (fun h => h) fun hb => ?_
   simp only [msB, List.mem_flatMap] at hb ⊢
   obtain ⟨x, hx, e⟩ := hb
   exact ⟨x, hs.subset hx, e⟩
  ·simp only [sysB, show ¬ ((3 : Int) = 2) by decide, if_false, turnB, turnsB, List.length_append, msB_len]
   have := hs.length_le
   omega
theorem sys_sub {k co : Int} {a b : List Itm} (hs : a.Sublist b) : (∀ x ∈ sysB k co a, x ∈ sysB k co b) ∧ (sysB k co a).length ≤ (sysB k co b).length := by
 have hm : ∀ x ∈ msB a, x ∈ msB b := fun x hx => by
  simp only [msB, List.mem_flatMap] at hx ⊢
  obtain ⟨y, hy, e⟩ := hx
  exact ⟨y, hs.subset hy, e⟩
 have hl := hs.length_le
 unfold sysB waysB turnsB
 split
 ·exact ⟨fun x hx => List.mem_append.2 ((List.mem_append.1 hx).imp id (hm x)), by simp only [List.length_append, msB_len]; omega⟩
 ·exact ⟨fun x hx => List.mem_append.2 ((List.mem_append.1 hx).imp id (hm x)), by simp only [List.length_append, msB_len]; omega⟩
theorem com_sub {a b : List Itm} (hs : a.Sublist b) (h : comC (setsL a) = []) : comC (setsL b) = [] := by
 unfold comC at h ⊢
 rw [List.filter_eq_nil_iff] at h ⊢
 intro c hc hb
 refine h c hc ?_
 rw [List.all_eq_true] at hb ⊢
 intro s hsm
 exact hb s ((hs.map fun x => x.st.data.toList).subset hsm)
/-- Fewer measurements contradict each other: all do. -/
theorem contra_sub {l : List Itm} {day id : Int} (h : LookOk l day id) {k : Int} (hk : k = 2 ∨ k = 3 ∨ k = 5) {a b : List Itm} (hab : a.Sublist b) (hb : b.Sublist (keptL (countL l day) k id)) (hc : contraB k (lookS l day id).co a = true) : contraB k (lookS l day id).co b = true := by
 unfold contraB at hc ⊢
 by_cases h5 : k = 5
 ·rw [if_pos h5] at hc ⊢
  rw [List.isEmpty_iff] at hc ⊢
  exact com_sub hab hc
 ·rw [if_neg h5] at hc ⊢
  rw [Bool.not_eq_true'] at hc ⊢
  have h23 : k = 2 ∨ k = 3 := by omega
  cases hh : okB (sysP k (lookS l day id).co) (sysB k (lookS l day id).co b) with
  | false => rfl
  | true =>
    have := okB_sub (sys_chk h h23 hb) hh (sys_sub hab).1 (sys_sub hab).2
    rw [hc] at this
    cases this
/-- None contradict each other. -/
theorem contra_nil {l : List Itm} {day id : Int} (h : LookOk l day id) {k : Int} (hk : k = 2 ∨ k = 3 ∨ k = 5) : contraB k (lookS l day id).co [] = false := by
 unfold contraB
 by_cases h5 : k = 5
 ·rw [if_pos h5]
  rfl
 ·rw [if_neg h5, Bool.not_eq_false']
  have h23 : k = 2 ∨ k = 3 := by omega
  have hc := sys_chk h h23 (List.nil_sublist _)
  rcases h23 with rfl | rfl
  ·refine okB_of_keeps hc (y := fun j => j) fun b hb => ?_
   simp only [sysB, if_pos, waysB, sidesL, msB, List.flatMap_nil, List.append_nil, List.mem_map] at hb
   obtain ⟨i, _, rfl⟩ := hb
   simp only
   omega
  ·refine okB_of_keeps hc (y := fun _ => 0) fun b hb => ?_
   simp only [sysB, show ¬ ((3 : Int) = 2) by decide, if_false, turnsB, bendsL, msB, List.flatMap_nil, List.append_nil, List.mem_flatMap] at hb
   obtain ⟨i, _, hb⟩ := hb
   simp at hb
   rcases hb with rfl | rfl <;> (simp only; omega)
/-- What is told of a kind contradicts itself, and is there just if all of the kind do. -/
theorem doubt_sys {l : List Itm} {day id : Int} (h : LookOk l day id) {k : Int} (hk : k = 2 ∨ k = 3 ∨ k = 5) :
 (doubtL (countL l day) k (lookS l day id) ≠ [] ↔ contraB k (lookS l day id).co (keptL (countL l day) k (lookS l day id).id) = true) ∧
  (doubtL (countL l day) k (lookS l day id) ≠ [] → contraB k (lookS l day id).co (doubtL (countL l day) k (lookS l day id)) = true) := by
 have h4 : ¬ k = 4 := by omega
 have key : contraB k (lookS l day id).co (keptL (countL l day) k (lookS l day id).id) = true → contraB k (lookS l day id).co (doubtL (countL l day) k (lookS l day id)) = true := fun hc => by
  unfold doubtL
  rw [if_neg h4, if_pos hc]
  have := spareK_not (fun r => !contraB k (lookS l day id).co r) (keptL (countL l day) k (lookS l day id).id).length (keptL (countL l day) k (lookS l day id).id) (by simp [hc])
  simpa [spareL] using this
 refine ⟨⟨fun hn => ?_, fun hc e => ?_⟩, fun hn => ?_⟩
 ·unfold doubtL at hn
  rw [if_neg h4] at hn
  split at hn
  ·assumption
  ·exact absurd rfl hn
 ·have := key hc
  rw [e, contra_nil h hk] at this
  cases this
 ·refine key ?_
  unfold doubtL at hn
  rw [if_neg h4] at hn
  split at hn
  ·assumption
  ·exact absurd rfl hn
/-- The span common to colours. -/
theorem colL_go : ∀ (l : List Itm) (o : Spn), (o.lo ≤ (l.foldl colS o).lo ∧ (∀ x ∈ l, x.lo ≤ (l.foldl colS o).lo) ∧ ((l.foldl colS o).lo = o.lo ∨ ∃ x ∈ l, x.lo = (l.foldl colS o).lo)) ∧
 ((l.foldl colS o).hi ≤ o.hi ∧ (∀ x ∈ l, (l.foldl colS o).hi ≤ x.hi) ∧ ((l.foldl colS o).hi = o.hi ∨ ∃ x ∈ l, x.hi = (l.foldl colS o).hi))
 | [], o => by simp
 | x :: l, o => by
   obtain ⟨⟨a1, a2, a3⟩, b1, b2, b3⟩ := colL_go l (colS o x)
   simp only [List.foldl_cons]
   generalize l.foldl colS (colS o x) = r at *
   have e1 : (colS o x).lo = if o.lo < x.lo then x.lo else o.lo := rfl
   have e2 : (colS o x).hi = if x.hi < o.hi then x.hi else o.hi := rfl
   rw [e1] at a1 a3
   rw [e2] at b1 b3
   refine ⟨⟨?_, ?_, ?_⟩, ?_, ?_, ?_⟩
   ·split at a1 <;> omega
   ·intro y hy
    rcases List.mem_cons.1 hy with rfl | hy
    ·split at a1 <;> omega
    ·exact a2 y hy
   ·rcases a3 with a3 | ⟨y, hy, e⟩
    ·split at a3
     ·exact .inr ⟨x, List.mem_cons_self, a3.symm⟩
     ·exact .inl a3
    ·exact .inr ⟨y, List.mem_cons_of_mem _ hy, e⟩
   ·split at b1 <;> omega
   ·intro y hy
    rcases List.mem_cons.1 hy with rfl | hy
    ·split at b1 <;> omega
    ·exact b2 y hy
   ·rcases b3 with b3 | ⟨y, hy, e⟩
    ·split at b3
     ·exact .inr ⟨x, List.mem_cons_self, b3.symm⟩
     ·exact .inl b3
    ·exact .inr ⟨y, List.mem_cons_of_mem _ hy, e⟩
theorem kindB_col {x : Itm} (h : itemB x = true) (hk : x.kd = 4) : 0 ≤ x.lo ∧ x.lo ≤ x.hi ∧ x.hi ≤ 1000 := by
 unfold itemB kindB at h
 simp only [Bool.and_eq_true] at h
 have h2 := h.2.1
 rw [if_neg (by omega), if_neg (by omega), if_neg (by omega), if_pos hk] at h2
 simp at h2
 omega
theorem kept_mem {s : List Itm} {k id : Int} {x : Itm} : x ∈ keptL s k id ↔ x ∈ s ∧ x.kd = k ∧ x.sh = id := by unfold keptL; rw [List.mem_filter]; simp
/-- Two that clash are found. -/
theorem clash_found {l : List Itm} (hx : ∀ x ∈ l, x.lo ≤ x.hi) {a b : Itm} (ha : a ∈ l) (hb : b ∈ l) (hc : a.hi < b.lo) : clashL l ≠ [] := by
 intro h
 have hn := clashP_none.1 h
 obtain ⟨i, hi, ei⟩ := List.getElem_of_mem ha
 obtain ⟨j, hj, ej⟩ := List.getElem_of_mem hb
 have gi : l.getD i default = a := by rw [List.getD_eq_getElem?_getD, List.getElem?_eq_getElem hi]; exact ei
 have gj : l.getD j default = b := by rw [List.getD_eq_getElem?_getD, List.getElem?_eq_getElem hj]; exact ej
 have hne : i ≠ j := by
  intro e
  subst e
  rw [gi] at gj
  subst gj
  have := hx a ha
  omega
 rcases Nat.lt_or_gt_of_ne hne with hl | hl
 ·have := hn j hj
  unfold clashTo at this
  rw [List.find?_eq_none] at this
  refine this a (by rw [← ei]; exact List.mem_take_iff_getElem.2 ⟨i, by omega, rfl⟩) ?_
  rw [gj]
  simp [clashI, hc]
 ·have := hn i hi
  unfold clashTo at this
  rw [List.find?_eq_none] at this
  refine this b (by rw [← ej]; exact List.mem_take_iff_getElem.2 ⟨j, by omega, rfl⟩) ?_
  rw [gi]
  simp [clashI, hc]
theorem doubt_col {l : List Itm} {day id : Int} (h : LookOk l day id) :
 doubtL (countL l day) 4 (lookS l day id) ≠ [] ↔ (colL (keptL (countL l day) 4 id)).hi < (colL (keptL (countL l day) 4 id)).lo := by
 have hid := h.sid
 have hin : ∀ x ∈ keptL (countL l day) 4 id, 0 ≤ x.lo ∧ x.lo ≤ x.hi ∧ x.hi ≤ 1000 := fun x hx => by
  obtain ⟨h1, h2, _⟩ := kept_mem.1 hx
  exact kindB_col (h.cat.item x (mem_count.1 h1).1) h2
 unfold doubtL
 rw [if_pos rfl, hid]
 generalize keptL (countL l day) 4 id = K at *
 obtain ⟨⟨a1, a2, a3⟩, b1, b2, b3⟩ := colL_go K ⟨0, 1000, 0, 0⟩
 rw [show K.foldl colS ⟨0, 1000, 0, 0⟩ = colL K from rfl] at *
 constructor
 ·intro hn
  obtain ⟨a, b, e, ha, hb, hc, _⟩ := clashP_some (Nat.le_refl _) hn
  have q1 := a2 a ha
  have q2 := a2 b hb
  have q3 := b2 a ha
  have q4 := b2 b hb
  simp only [clashI, Bool.or_eq_true, decide_eq_true_eq] at hc
  omega
 ·intro hlt
  simp only at a1 a3 b1 b3
  rcases a3 with a3 | ⟨x, hx, ex⟩
  ·rcases b3 with b3 | ⟨y, hy, ey⟩
   ·omega
   ·have := hin y hy; omega
  ·rcases b3 with b3 | ⟨y, hy, ey⟩
   ·have := hin x hx; omega
   ·exact clash_found (fun z hz => (hin z hz).2.1) hy hx (by omega)
/-- Of rows with their own Ids: those with the Ids of some are these. -/
theorem filter_ids {a b : List Itm} (hs : a.Sublist b) (hn : b.Pairwise fun x y => x.id ≠ y.id) {ids : List Int} (hi : ∀ i, i ∈ ids ↔ i ∈ a.map (·.id)) : b.filter (fun x => ids.contains x.id) = a := by
 induction hs generalizing ids with
 | slnil => rfl
 | @cons l₁ l₂ x hs ih =>
   rw [List.pairwise_cons] at hn
   rw [List.filter_cons, if_neg, ih hn.2 hi]
   intro hc
   rw [List.contains_iff_mem, hi, List.mem_map] at hc
   obtain ⟨y, hy, e⟩ := hc
   exact hn.1 y (hs.subset hy) e.symm
 | @cons_cons l₁ l₂ x hs ih =>
   rw [List.pairwise_cons] at hn
   rw [List.filter_cons, if_pos (by rw [List.contains_iff_mem, hi]; simp)]
   congr 1
   have e : ∀ y ∈ l₂, ids.contains y.id = (l₁.map (·.id)).contains y.id := fun y hy => by
    rw [Bool.eq_iff_iff, List.contains_iff_mem, List.contains_iff_mem, hi, List.map_cons, List.mem_cons]
    constructor
    ·rintro (h | h)
     ·exact absurd h.symm (hn.1 y hy)
     ·exact h
    ·exact .inr
   rw [List.filter_congr e]
   exact ih hn.2 fun i => Iff.rfl
theorem asc_asc (l : List Int) : ascOf (ascOf l) = ascOf l := asc_ext (ascOf_asc _) (ascOf_asc _) fun x => by rw [mem_ascOf]
theorem asc_len {l : List Int} (h : l.Nodup) : (ascOf l).length = l.length := by
 have hp : (ascOf l).Perm l := (List.perm_ext_iff_of_nodup ((ascOf_asc l).imp fun h => by omega) h).2 fun x => mem_ascOf
 exact hp.length_eq
theorem doubt_ids {l : List Itm} {day id : Int} (h : LookOk l day id) (k : Int) :
 (keptL (countL l day) k (lookS l day id).id).filter (fun x => (idsI (doubtL (countL l day) k (lookS l day id))).contains x.id) = doubtL (countL l day) k (lookS l day id) ∧
  (idsI (doubtL (countL l day) k (lookS l day id))).length = (doubtL (countL l day) k (lookS l day id)).length := by
 have hn : (keptL (countL l day) k (lookS l day id).id).Pairwise fun x y => x.id ≠ y.id := (countL_ids h.cat.ids day).filter _
 have hs := doubtL_sub (countL l day) k (lookS l day id)
 refine ⟨filter_ids hs hn fun i => mem_ascOf, ?_⟩
 unfold idsI
 rw [asc_len, List.length_map]
 exact (List.pairwise_map.2 (hn.sublist hs))
/-- Each doubt told is one. -/
theorem doubt_is {l : List Itm} {day id : Int} (h : LookOk l day id) {k : Int} (h1 : 1 ≤ k) (h4 : k ≤ 4) (hn : doubtL (countL l day) (k + 1) (lookS l day id) ≠ []) :
 dubB (countL l day) (lookS l day id) k (idsI (doubtL (countL l day) (k + 1) (lookS l day id))) = true := by
 obtain ⟨e1, e2⟩ := doubt_ids h (k + 1)
 unfold dubB
 rw [decide_eq_true h1, decide_eq_true h4, e1, e2, decide_eq_true rfl, show idsI (doubtL (countL l day) (k + 1) (lookS l day id)) = ascOf (idsI (doubtL (countL l day) (k + 1) (lookS l day id))) from (asc_asc _).symm, asc_asc]
 simp only [beq_self_eq_true, Bool.true_and]
 by_cases h3 : k = 3
 ·subst h3
  rw [if_pos rfl]
  have e3 := e1
  rw [show idsI (doubtL (countL l day) (3 + 1) (lookS l day id)) = ascOf (idsI (doubtL (countL l day) (3 + 1) (lookS l day id))) from (asc_asc _).symm] at e3
  rw [show (3 : Int) + 1 = 4 from rfl] at *
  rw [e3]
  unfold doubtL at hn ⊢
  rw [if_pos rfl] at hn ⊢
  obtain ⟨a, b, e, _, _, hc, _⟩ := clashP_some (Nat.le_refl _) hn
  rw [show clashL (keptL (countL l day) 4 (lookS l day id).id) = [b, a] from e]
  exact (clashI_comm b a).trans hc
 ·rw [if_neg h3]
  exact (doubt_sys h (by omega)).2 hn
/-- Where some doubt is one, there is one told. -/
theorem doubt_there {l : List Itm} {day id : Int} (h : LookOk l day id) {k : Int} {ids : List Int} (hd : dubB (countL l day) (lookS l day id) k ids = true) : 1 ≤ k ∧ k ≤ 4 ∧ doubtL (countL l day) (k + 1) (lookS l day id) ≠ [] := by
 unfold dubB at hd
 simp only [Bool.and_eq_true, decide_eq_true_eq] at hd
 obtain ⟨h1, h4, _, _, hd⟩ := hd
 refine ⟨h1, h4, ?_⟩
 by_cases h3 : k = 3
 ·subst h3
  rw [if_pos rfl] at hd
  have hin : ∀ x ∈ keptL (countL l day) 4 (lookS l day id).id, x.lo ≤ x.hi := fun x hx => by
   obtain ⟨h1, h2, _⟩ := kept_mem.1 hx
   exact (kindB_col (h.cat.item x (mem_count.1 h1).1) h2).2.1
  rw [show (3 : Int) + 1 = 4 from rfl]
  unfold doubtL
  rw [if_pos rfl]
  generalize hF : (keptL (countL l day) 4 (lookS l day id).id).filter (fun x => ids.contains x.id) = F at hd
  have hm : ∀ x ∈ F, x ∈ keptL (countL l day) 4 (lookS l day id).id := fun x hx => by rw [← hF] at hx; exact (List.mem_filter.1 hx).1
  rcases F with _ | ⟨a, _ | ⟨b, _ | ⟨c, F⟩⟩⟩
  ·cases hd
  ·cases hd
  ·have ha := hm a (by simp)
   have hb := hm b (by simp)
   have hd : clashI a b = true := hd
   clear hF hm
   simp only [clashI, Bool.or_eq_true, decide_eq_true_eq] at hd
   rcases hd with hd | hd
   ·exact clash_found hin hb ha hd
   ·exact clash_found hin ha hb hd
  ·cases hd
 ·rw [if_neg h3] at hd
  have hid := h.sid
  refine (doubt_sys h (by omega)).1.2 ?_
  exact contra_sub h (by omega) List.filter_sublist (by rw [hid]; exact List.Sublist.refl _) hd
/-- The error of a kind of doubt. -/
theorem err_way {l : List Itm} {day id : Int} (h : LookOk l day id) : wayE l day id 0 1 = if doubtL (countL l day) 2 (lookS l day id) = [] then 0 else 21 := by
 have hs := (doubt_sys h (k := 2) (.inl rfl)).1
 have hc := h.co
 have hid := h.sid
 unfold wayE
 rw [if_pos (lookE_of h), if_pos (by omega)]
 have e : contraB 2 (lookS l day id).co (keptL (countL l day) 2 (lookS l day id).id) = !okB (wayP l day id) (wayB l day id) := by unfold contraB sysP sysB wayP wayB; rw [hid]; rfl
 rw [e, Bool.not_eq_true'] at hs
 cases hk : okB (wayP l day id) (wayB l day id) with
 | true => rw [if_pos rfl, if_pos]; rw [hk] at hs; simpa using hs
 | false => rw [if_neg (by simp), if_neg]; rw [hk] at hs; simpa using hs
theorem err_turn {l : List Itm} {day id : Int} (h : LookOk l day id) : turnE l day id 0 1 = if doubtL (countL l day) 3 (lookS l day id) = [] then 0 else 21 := by
 have hs := (doubt_sys h (k := 3) (.inr (.inl rfl))).1
 have hc := h.co
 have hid := h.sid
 unfold turnE
 rw [if_pos (lookE_of h), if_pos (by omega)]
 have e : contraB 3 (lookS l day id).co (keptL (countL l day) 3 (lookS l day id).id) = !okB (turnP l day id) (turnB l day id) := by unfold contraB sysP sysB turnP turnB; rw [hid]; rfl
 rw [e, Bool.not_eq_true'] at hs
 cases hk : okB (turnP l day id) (turnB l day id) with
 | true => rw [if_pos rfl, if_pos]; rw [hk] at hs; simpa using hs
 | false => rw [if_neg (by simp), if_neg]; rw [hk] at hs; simpa using hs
theorem err_col {l : List Itm} {day id : Int} (h : LookOk l day id) : colE l day id = if doubtL (countL l day) 4 (lookS l day id) = [] then 0 else 21 := by
 have hs := doubt_col h
 unfold colE
 rw [if_pos (lookE_of h)]
 by_cases hd : doubtL (countL l day) 4 (lookS l day id) = []
 ·rw [if_pos hd, if_neg (fun hl => (hs.2 hl) hd)]
 ·rw [if_neg hd, if_pos (hs.1 hd)]
theorem err_cur {l : List Itm} {day id : Int} (h : LookOk l day id) : curE l day id = if doubtL (countL l day) 5 (lookS l day id) = [] then 0 else 21 := by
 have hs := (doubt_sys h (k := 5) (.inr (.inr rfl))).1
 have hid := h.sid
 unfold curE
 rw [if_pos (lookE_of h)]
 have e : contraB 5 (lookS l day id).co (keptL (countL l day) 5 (lookS l day id).id) = (comC (setsL (keptL (countL l day) 5 id))).isEmpty := by unfold contraB; rw [hid]; rfl
 rw [e, List.isEmpty_iff] at hs
 by_cases hd : doubtL (countL l day) 5 (lookS l day id) = []
 ·rw [if_pos hd, if_neg (fun hl => (hs.2 hl) hd)]
 ·rw [if_neg hd, if_pos (hs.1 hd)]
/-- A doubt of a kind is there. -/
def hasD (ds : List (Int × List Int)) (j : Int) : Bool := ds.any fun d => d.1 == j
theorem hasD_succ {ds : List (Int × List Int)} {i : Nat} (hi : i < ds.length) (j : Int) : hasD (ds.take (i + 1)) j = (hasD (ds.take i) j || (ds.getD i (0, [])).1 == j) := by
 unfold hasD
 rw [List.take_succ_eq_append_getElem hi, List.any_append, List.getD_eq_getElem?_getD, List.getElem?_eq_getElem hi]
 simp
theorem doubts_mem {l : List Itm} {day id : Int} (h : LookOk l day id) {d : Int × List Int} (hd : d ∈ doubtsL (countL l day) (lookS l day id)) :
 (d.1 = 1 ∨ d.1 = 2 ∨ d.1 = 3 ∨ d.1 = 4) ∧ dubB (countL l day) (lookS l day id) d.1 d.2 = true ∧ d.2.length ≤ 300 := by
 unfold doubtsL at hd
 rw [List.mem_filterMap] at hd
 obtain ⟨k, hk, e⟩ := hd
 split at e
 ·cases e
 ·rename_i hn
  injection e with e
  subst e
  simp only [List.mem_cons, List.not_mem_nil, or_false] at hk
  refine ⟨by simp only; omega, ?_⟩
  have := doubt_is h (k := k - 1) (by omega) (by omega) (by rw [show k - 1 + 1 = k by omega]; exact hn)
  rw [show k - 1 + 1 = k by omega] at this
  refine ⟨this, Nat.le_trans (ascOf_len _) ?_⟩
  rw [List.length_map]
  exact Nat.le_trans (doubtL_sub _ _ _).length_le (Nat.le_trans (List.length_filter_le _ _) (Nat.le_trans (countL_len l day) h.cat.few))
theorem doubts_has (s : List Itm) (y : Shd) {j : Int} (hj : j = 1 ∨ j = 2 ∨ j = 3 ∨ j = 4) : hasD (doubtsL s y) j = !decide (doubtL s (j + 1) y = []) := by
 unfold hasD doubtsL
 rw [Bool.eq_iff_iff, List.any_eq_true]
 simp only [List.mem_filterMap, beq_iff_eq, Bool.not_eq_true', decide_eq_false_iff_not]
 constructor
 ·rintro ⟨d, ⟨k, hk, e⟩, hd⟩
  split at e
  ·cases e
  ·rename_i hn
   injection e with e
   subst e
   simp only at hd
   rw [show j + 1 = k by omega]
   exact hn
 ·intro hn
  exact ⟨(j, idsI (doubtL s (j + 1) y)), ⟨j + 1, by simp; omega, by rw [if_neg hn, show j + 1 - 1 = j by omega]⟩, rfl⟩
/-- Of a kind: whether there is a doubt, and the error. -/
theorem kind_pair (s : List Itm) (y : Shd) {j : Int} (hj : j = 1 ∨ j = 2 ∨ j = 3 ∨ j = 4) : ∃ hb e, hasD (doubtsL s y) j = hb ∧ (if doubtL s (j + 1) y = [] then (0 : Int) else 21) = e ∧ ((hb = true ∧ e = 21) ∨ (hb = false ∧ e = 0)) ∧ (doubtL s (j + 1) y ≠ [] → hb = true) := by
 refine ⟨_, _, rfl, rfl, ?_⟩
 rw [doubts_has s y hj]
 by_cases h : doubtL s (j + 1) y = []
 ·rw [if_pos h, decide_eq_true h]; exact ⟨.inr ⟨rfl, rfl⟩, fun h2 => absurd h h2⟩
 ·rw [if_neg h, decide_eq_false h]; exact ⟨.inl ⟨rfl, rfl⟩, fun _ => rfl⟩
theorem doubts_len (s : List Itm) (y : Shd) : (doubtsL s y).length ≤ 4 := by
 unfold doubtsL
 exact List.length_filterMap_le _ _
end Go.Proofs.YtelkcohhagblaaaGreat
namespace Go.Proofs.YtelkcohhagblaaaGreat
open Go.RowKit Go.Shelf
set_option maxHeartbeats 8000000
set_option maxRecDepth 100000
theorem equalI (a1 a2 : Option Addr) (n1 n2 c1 c2 : Nat) (xs ys : List Int) (w : World) (hx : IntsAt w a1 n1 c1 xs) (hy : IntsAt w a2 n2 c2 ys) (h0 : ys = [] → xs = []) :
 Calls Tryz.prog 123 #[.slice a1 n1 c1, .slice a2 n2 c2] w fun e w' => e = .returned (.bool (xs == ys)) ∧ Below w.heap.size w w' := by
 have hsx := hx.small
 have hsy := hy.small
 obtain rfl := hx.len
 obtain rfl := hy.len
 by_cases hx0 : xs = []
 ·subst hx0
  refine (Any.slices_Equal_int_empty Tryz.equalA a1 a2 c1 ys.length c2 w (by omega)).mono ?_
  rintro e w' ⟨rfl, rfl⟩
  refine ⟨?_, Below.refl _ _⟩
  cases ys <;> simp
 ·match a1, hx with
  | none, hx =>
    have := (hx.row.nil rfl).1
    simp at this
    exact absurd this hx0
  | some ⟨b1, o1, s1⟩, hx =>
    match a2, hy with
    | none, hy =>
      have := (hy.row.nil rfl).1
      simp at this
      exact absurd (h0 this) hx0
    | some ⟨b2, o2, s2⟩, hy =>
      obtain ⟨rfl, _, hc1⟩ := hx.cells
      obtain ⟨rfl, _, hc2⟩ := hy.cells
      refine (Any.slices_Equal_int Tryz.equalA b1 o1 xs.length c1 b2 o2 ys.length c2 xs ys w (Nat.le_refl _) (Nat.le_refl _) (by omega) (by omega) hc1 hc2).mono ?_
      rintro e w' ⟨rfl, q, rfl⟩
      rw [List.take_length, List.take_length]
      exact ⟨rfl, belowN (Below.refl _ _)⟩
theorem sChk1 (x : Itm) (k : Int) (da : Option Addr) (dn dc : Nat) (ids : List Int) (DB : Nat) (w : World) (h : w.heap[DB]? = some (.cells #[.int .u8 k, .slice da dn dc] 80 (0, 0))) (hi : IntsAt w da dn dc ids) :
 Calls Tryz.prog 125 #[x.v, .pointer (some ⟨DB, 0, none⟩)] w fun e w' => e = .returned (.bool (!ids.contains x.id)) ∧ Below w.heap.size w w' := by
 have hX := World.alloc_heap_new w (Obj.cells #[.int .i64 x.id, .int .i64 x.kn, .int .u8 x.kd, .string x.wa, .int .i64 x.pit, .int .i64 x.ly, .int .i64 x.co, .bool x.ft, .int .i64 x.sh, .int .i64 x.fr, .int .i64 x.tw, .int .i64 x.lo, .int .i64 x.hi, .string x.st, .int .i64 x.li, .int .i64 x.vo] 24)
 have hal := one_alloc w (Obj.cells #[.int .i64 x.id, .int .i64 x.kn, .int .u8 x.kd, .string x.wa, .int .i64 x.pit, .int .i64 x.ly, .int .i64 x.co, .bool x.ft, .int .i64 x.sh, .int .i64 x.fr, .int .i64 x.tw, .int .i64 x.lo, .int .i64 x.hi, .string x.st, .int .i64 x.li, .int .i64 x.vo] 24)
 have z := (Array.getElem?_eq_some_iff.1 h).1
 have c1 := (SL.cells_of ((hal.block DB z).trans h)).1 1
 simp at c1
 have hC := containsI da dn dc ids x.id _ (hi.below hal)
 have d0 := (ItmCells.of_heap hX).1.c0
 simp only [Itm.v, Itm.cs]
 clear hX h
 go_enter Tryz.func125, Tryz.ntmps125
 go_wp2_with (go_at_call 126; (with_reducible refine hC.mono ?_); rintro e w2 ⟨rfl, hb2⟩)
 go_ret
 exact ⟨by simp, hal.ch2 hb2⟩
/-- What CheckDoubt says. -/
def cdB (l : List Itm) (day id k : Int) (ids : List Int) : Bool := decide (lookE l day id = 0) && dubB (countL l day) (lookS l day id) k ids
theorem dubB_out {s : List Itm} {y : Shd} {k : Int} {ids : List Int} (h : k < 1 ∨ 4 < k) : dubB s y k ids = false := by
 unfold dubB
 rcases h with h | h
 ·rw [decide_eq_false (by omega : ¬ 1 ≤ k)]; rfl
 ·rw [decide_eq_true (by omega : 1 ≤ k), decide_eq_false (by omega : ¬ k ≤ 4)]; rfl
/-- What is left to be asked, once the Ids ascend. -/
def endB (y : Shd) (k : Int) (M : List Itm) : Bool := if k = 3 then (match M with | [a, b] => clashI a b | _ => false) else contraB (k + 1) y.co M
def restB (y : Shd) (k : Int) (ids : List Int) (M : List Itm) : Bool := decide (M.length = ids.length) && endB y k M
theorem endB_no {y : Shd} {M : List Itm} (h : M.length ≠ 2) : endB y 3 M = false := by
 unfold endB
 rw [if_pos rfl]
 rcases M with _ | ⟨x, _ | ⟨z, _ | ⟨u, r⟩⟩⟩
 ·rfl
 ·rfl
 ·exact absurd rfl h
 ·rfl
theorem dubB_in {s : List Itm} {y : Shd} {k : Int} {ids : List Int} (h1 : 1 ≤ k) (h4 : k ≤ 4) :
 dubB s y k ids = ((ids == ascOf ids) && restB y k ids ((keptL s (k + 1) y.id).filter fun x => ids.contains x.id)) := by
 unfold dubB restB endB
 rw [decide_eq_true h1, decide_eq_true h4]
 simp only [Bool.true_and]
 by_cases h3 : k = 3
 ·subst h3; rfl
 ·rw [if_neg h3, if_neg h3]
theorem sCheckDoubt_any (a : Option Addr) (n cap : Nat) (l : List Itm) (day id k : Int) (da : Option Addr) (dn dc : Nat) (ids : List Int) (w : World) (h : ItmsAt w a n cap l) (hcap : l.length ≤ cap) (hi : IntsAt w da dn dc ids) (hids : ids.length ≤ 100000) (hk0 : 0 ≤ k) (hk1 : k ≤ 255) :
 Calls Tryz.prog 55 #[.slice a n cap, .int .i64 day, .int .i64 id, .agg #[.int .u8 k, .slice da dn dc]] w fun e w' => e = .returned (.tuple #[.bool (cdB l day id k ids), .int .i64 (lookE l day id)]) ∧ Below w.heap.size w w' := by
 have hB0 := one_alloc w (Obj.cells #[.int .u8 k, .slice da dn dc] 80)
 have hD0 := World.alloc_heap_new w (Obj.cells #[.int .u8 k, .slice da dn dc] 80)
 have hL := slooked_any a n cap l day id _ (h.below hB0) hcap
 have hw := h.wide
 unfold LookPost at hL
 by_cases h0 : lookE l day id = 0
 ·have hlk := look_ok h0
  have hS : lookR l day id = countL l day := by unfold lookR; rw [if_pos h0]
  have hZ : lookZ l day id = lookS l day id := by unfold lookZ; rw [if_pos h0]
  have hE : cdB l day id k ids = dubB (countL l day) (lookS l day id) k ids := by unfold cdB; rw [decide_eq_true h0]; rfl
  have hok := hlk.shelf
  have Hsid := Lib.hid hlk.sid
  have hcw := wides hw (fun x (hx : x ∈ countL l day) => (countL_sub hx).1)
  rw [hS, hZ, h0] at hL
  rw [hE, h0]
  clear hS hZ hlk h0 hE hw h
  generalize countL l day = S at *
  generalize lookS l day id = y at *
  have HP := Lib.hid (show ∀ w' B, dubB S y k ids = B → Below w.heap.size w w' → (fun e w' => e = Ending.returned (.tuple #[.bool (dubB S y k ids), .int .i64 0]) ∧ Below w.heap.size w w' : Ending → World → Prop) (.returned (.tuple #[.bool B, .int .i64 0])) w' from fun w' B h1 h2 => ⟨by rw [h1], h2⟩)
  generalize (fun e w' => e = Ending.returned (.tuple #[.bool (dubB S y k ids), .int .i64 0]) ∧ Below w.heap.size w w' : Ending → World → Prop) = Post at *
  have hsl := hok.len
  have hF := fun W va vc (hi : ItmsAt W va S.length vc S) => sfits_any va _ vc S y W hok hi
  have hDf := fun W => sdoubtful_any W
  simp only [Shd.v, Shd.cs] at hL hF
  go_enter Tryz.func55, Tryz.ntmps55
  go_wp2_with (first
   | (go_at_call 82; (with_reducible refine hL.mono ?_); rintro e w2 ⟨v, rfl, hb2, ho2⟩; obtain ⟨va, vc, rfl, _⟩ := owns_slice ho2; have hi2 := (ItmsAt.of_owns ho2 (by omega) hcw).below (one_alloc w2 (Obj.cells #[.int .i64 y.id, .string y.wa, .int .i64 y.pit, .int .i64 y.ly, .int .i64 y.co, .bool y.ft] 72)); have hY2 := World.alloc_heap_new w2 (Obj.cells #[.int .i64 y.id, .string y.wa, .int .i64 y.pit, .int .i64 y.ly, .int .i64 y.co, .bool y.ft] 72); obtain ⟨p0, p1, p2, p3, p4, p5, pf⟩ := cell6 hY2)
   | (go_at_call 119; (with_reducible refine (hF _ va vc hi2).mono ?_); rintro e w3 ⟨rfl, hb3⟩; clear p0 p1 p2 p3 p4 p5 pf)  )
  go_at_call 120
  refine (hDf _).mono ?_
  rintro e w4 ⟨rfl, hb4⟩
  have hz2 := hb2.size
  rw [World.size_alloc] at hz2
  have hz3 := hb3.size
  rw [World.size_alloc] at hz3
  have hz4 := hb4.size
  have hD4 := alKeep (o' := Obj.cells #[.int .u8 0, .int .u8 2, .int .u8 3, .int .u8 4, .int .u8 5] 153) ((hb4.block w.heap.size (by omega)).trans ((hb3.block w.heap.size (by rw [World.size_alloc]; omega)).trans (alKeep (o' := Obj.cells #[.int .i64 y.id, .string y.wa, .int .i64 y.pit, .int .i64 y.ly, .int .i64 y.co, .bool y.ft] 72) ((hb2.block w.heap.size (by simp)).trans hD0))))
  have hA4 := World.alloc_heap_new w4 (Obj.cells #[.int .u8 0, .int .u8 2, .int .u8 3, .int .u8 4, .int .u8 5] 153)
  have hY4 := alKeep (o' := Obj.cells #[.int .u8 0, .int .u8 2, .int .u8 3, .int .u8 4, .int .u8 5] 153) ((hb4.block _ (Array.getElem?_eq_some_iff.1 ((hb3.block _ (by simp)).trans hY2)).1).trans ((hb3.block _ (by simp)).trans hY2))
  have hi4 := ((hi2.below hb3).below hb4).below (one_alloc w4 (Obj.cells #[.int .u8 0, .int .u8 2, .int .u8 3, .int .u8 4, .int .u8 5] 153))
  have hB4 := ((((hB0.ch2 hb2).ch2 (one_alloc w2 (Obj.cells #[.int .i64 y.id, .string y.wa, .int .i64 y.pit, .int .i64 y.ly, .int .i64 y.co, .bool y.ft] 72))).ch2 hb3).ch2 hb4).ch2 (one_alloc w4 (Obj.cells #[.int .u8 0, .int .u8 2, .int .u8 3, .int .u8 4, .int .u8 5] 153))
  have hz5 : w2.heap.size < w4.heap.size := by omega
  clear hb3 hi2 hY2 ho2 hb2 hb4 hz2 hz3 hz4
  have c0 := (SL.cells_of hD4).1 0
  have c1 := (SL.cells_of hD4).1 1
  simp at c0 c1
  have zD := (Array.getElem?_eq_some_iff.1 hD4).1
  go_wp2_with fail
  generalize w2.heap.size = B2 at *
  generalize w4.heap.size = B4 at *
  generalize w4.alloc (Obj.cells #[.int .u8 0, .int .u8 2, .int .u8 3, .int .u8 4, .int .u8 5] 153) = wA at *
  have hiA := hi.below hB4
  by_cases k0 : k = 0
  ·subst k0
   have HE := Lib.hid (fun w' => HP.out w' false (dubB_out (.inl (by omega))))
   have z0 : ((0 : Int) == 0) = true := rfl
   go_wp2_with fail
   go_quiet (fail)
   go_wp2
   exact HE.out _ (belowN hB4)
  ·by_cases k5 : 5 ≤ k
   ·have HE := Lib.hid (fun w' => HP.out w' false (dubB_out (.inr (by omega))))
    have z0 : (k == 0) = false := by simpa using k0
    have z5 : decide (5 ≤ k) = true := by simpa using k5
    go_quiet (fail)
    go_wp2
    exact HE.out _ (belowN hB4)
   ·have hk4 : k = 1 ∨ k = 2 ∨ k = 3 ∨ k = 4 := by omega
    have hU := fun W (h : IntsAt W da dn dc ids) => sunique_any da dn dc ids W h hids
    unfold RowPost at hU
    have hEq := fun W a2 c2 (h : IntsAt W da dn dc ids) (h2 : IntsAt W a2 (ascOf ids).length c2 (ascOf ids)) => equalI da a2 dn _ dc c2 ids (ascOf ids) W h h2 (fun e => by
     cases hc : ids with
     | nil => rfl
     | cons x r =>
       have : x ∈ ascOf ids := mem_ascOf.2 (by rw [hc]; simp)
       rw [e] at this; cases this)
    have hAl := ascOf_len ids
    have HKd := Lib.hid (fun h1 h4 => dubB_in (s := S) (y := y) (k := k) (ids := ids) h1 h4)
    clear hk0 hk1 k0 k5
    rcases hk4 with rfl | rfl | rfl | rfl
    ·have hUA := hU wA hiA
     generalize hQ : (ids == ascOf ids) = Q at *
     apply SLG.rule0 ?hm1 [] [33, 34, 35, 36, 37, 38, 39, 40, 41, 42, 43, 44, 45, 46, 47, 48, 49, 50] [SLF.pq 33 [] _, SLF.pq 34 [0] _, SLF.pq 35 [1] _, SLF.pq 36 [2] _, SLF.pq 37 [3] _, SLF.pq 38 [3, 4] _, SLF.pq 39 [3, 5] _, SLF.pq 40 [3, 6] _, SLF.pq 41 [3, 7] _, SLF.pq 42 [8] _, SLF.pq 43 [9] _, SLF.pq 44 [9, 10] _, SLF.pq 45 [9] _, SLF.pq 46 [9, 12] _, SL.row 47 [9, 13] [] wA.heap.size 3 1 (ascOf ids).length ((ascOf ids).map (.int .i64)), SL.pu 48 [9, 11, 14] (.bool Q), SLF.pq 49 [9, 15] _, SLF.pq 50 [9, 16] _] [17] ?hck1 ?hkp1 (fun _ => []) ?hin1 ?hdj1 ?hfr1 ?ob1 ?en1
     case hm1 => kernel_rfl
     case hin1 => exact SL.none_held rfl
     case hdj1 => simp
     case hfr1 => intro us; simp only [SL.frame, SL.put']; simp; exact rfl
     case ob1 =>
      refine ⟨?_, ?_, ?_, ?_, ?_, ?_, ?_, ?_, ?_, ?_, ?_, ?_, ?_, ?_, ?_, ?_, ?_, ?_, trivial⟩
      all_goals first
       | (intro us w' Fe hG hu hd hv Kx hK
          try dsimp only
          simp [SL.O] at hu hK
          have hB5 : Below wA.heap.size wA w' := hG.below'
          obtain ⟨hc5, hf5⟩ := bcell hB5
          have hs5 := hB5.size
          clear hv hG
          first
           | (refine SLF.wpo_do (SLF.wanted_free rfl) ?hd1 ?_; (case hd1 => intro c h; cases h))
           | (refine SLF.wpo_do (SLF.wanted_by rfl rfl ?hv1) ?hd1 ?_; (case hv1 => simp [hu]; done); (case hd1 => intro c h; cases h))
           | (refine' SLF.wpo_not (SLG.wanted_not rfl rfl ?hv1 ?hn1) ?_; (case hv1 => simp [hu]; exact rfl); (case hn1 => first | (simp; done) | (simp [undef]; done)))
          clear hd
          first
           | (go_step; exact hK _ _ _ (SL.Chg.refl _ _) (by first | exact rfl | (simp only [hu]; exact rfl)) rfl (by simp) rfl)
           | exact hK _ _ _ (SL.Chg.refl _ _) rfl rfl (by simp) rfl)
       | skip
      ·refine SLG.ob_sp rfl rfl rfl fun us w' Fe hG hu hd Kx hK => ?_
       try dsimp only
       simp [SL.O] at hu
       have hB5 : Below wA.heap.size wA w' := hG.below'
       obtain ⟨hc5, hf5⟩ := bcell hB5
       have hs5 := hB5.size
       first
        | (refine SLF.wpo_do (SLF.wanted_free rfl) ?hd1 ?_; (case hd1 => intro c h; cases h))
        | (refine SLF.wpo_do (SLF.wanted_by rfl rfl ?hv1) ?hd1 ?_; (case hv1 => simp [hu]; done); (case hd1 => intro c h; cases h))
        | (refine' SLF.wpo_not (SLG.wanted_not rfl rfl ?hv1 ?hn1) ?_; (case hv1 => simp [hu]; exact rfl); (case hn1 => first | (simp; done) | (simp [undef]; done)))
       obtain ⟨_, e13, _⟩ := hu
       go_step
       refine (hU w' (hiA.below hB5)).mono ?_
       rintro e w6 ⟨v6, rfl, hb6, ho6⟩
       exact hK _ v6 w6 _ (by simp [Act.put]; done) (.of_below hb6) ⟨SL.row_base ho6 hs5, rfl⟩ (fun k hk => .inr (SL.row_bounds ho6 k hk))
      ·refine SLG.ob_sp rfl rfl rfl fun us w' Fe hG hu hd Kx hK => ?_
       try dsimp only
       simp [SL.O] at hu
       have hB5 : Below wA.heap.size wA w' := hG.below'
       obtain ⟨hc5, hf5⟩ := bcell hB5
       have hs5 := hB5.size
       first
        | (refine SLF.wpo_do (SLF.wanted_free rfl) ?hd1 ?_; (case hd1 => intro c h; cases h))
        | (refine SLF.wpo_do (SLF.wanted_by rfl rfl ?hv1) ?hd1 ?_; (case hv1 => simp [hu]; done); (case hd1 => intro c h; cases h))
        | (refine' SLF.wpo_not (SLG.wanted_not rfl rfl ?hv1 ?hn1) ?_; (case hv1 => simp [hu]; exact rfl); (case hn1 => first | (simp; done) | (simp [undef]; done)))
       obtain ⟨_, ⟨e11, _⟩, ho, _⟩ := hu
       obtain ⟨xa, xc, hv, _⟩ := owns_slice ho
       rw [hv] at ho
       have hEw := hEq w' xa xc (hiA.below hB5) (IntsAt.of_owns ho (by omega))
       clear ho hc5 hf5
       go_step
       refine hEw.mono ?_
       rintro e w6 ⟨rfl, hb6⟩
       exact hK _ _ _ [] (by simp [Act.put]; done) (.of_below hb6) ⟨rfl, rfl⟩ (fun j hj => by cases hj)
     case hck1 => kernel_rfl
     case hkp1 => kernel_rfl
     intro us w7 Fs hG hu hbd hd
     simp [SL.Used, SLF.pq] at hu
     obtain ⟨h17, _⟩ := hu
     rw [h17]
     have hb7 := (hG.below' : Below wA.heap.size wA w7)
     have hB7 := hB4.ch2 hb7
     have hD7 := (hb7.block _ zD).trans hD4
     have hA7 := (hb7.block _ (Array.getElem?_eq_some_iff.1 hA4).1).trans hA4
     have hY7 := (hb7.block _ (Array.getElem?_eq_some_iff.1 hY4).1).trans hY4
     have hi7 := hi4.below hb7
     have hiD := hiA.below hb7
     have HQ := Lib.hid hQ
     clear hG hbd hd h17 c0 c1 zD hD4 hA4 hY4 hi4 hB4 hiA hUA hb7 hU hEq hQ
     cases Q
     ·have HE := Lib.hid (fun w' => HP.out w' false (by rw [HKd.out (by decide) (by decide)]; rfl))
      clear HQ
      go_wp2_with fail
      exact HE.out _ hB7
     ·have HE := Lib.hid (fun w' B hB => HP.out w' B ((HKd.out (by decide) (by decide)).trans (by rw [Bool.true_and]; exact hB)))
      rw [show ((1 : Int) + 1) = 2 from rfl] at HE
      have zD := (Array.getElem?_eq_some_iff.1 hD7).1
      have c0 := (SL.cells_of hD7).1 0
      have c1 := (SL.cells_of hD7).1 1
      have ar := (SL.cells_of hA7).1 1
      have zA := (Array.getElem?_eq_some_iff.1 hA7).1
      simp at c0 c1 ar
      have hCol := scolK va S.length vc S 2 id w7 hi7 (by omega)
      have hwM : ∀ x ∈ keptL S 2 id, x.Wide := fun x hx => hcw x (List.mem_filter.1 hx).1
      have hlM : (keptL S 2 id).length ≤ 300 := Nat.le_trans (List.length_filter_le _ _) hsl
      have hDel := fun v8 w8 (hb8 : Below w7.heap.size w7 w8) (ho8 : w8.ownsRow w7.heap.size 24 16 v8 (keptL S 2 id).length (ics (keptL S 2 id))) =>
       sDelT 125 #[.pointer (some ⟨w.heap.size, 0, none⟩)] (fun x => !ids.contains x.id) v8 w7.heap.size (keptL S 2 id) w8 ho8 hwM (by omega) (enters_of Tryz.func125 (by kernel_rfl) rfl)
        (fun x _ w9 hc => sChk1 x 1 da dn dc ids w.heap.size w9
         ((hc.block w.heap.size (by have := hb8.size; omega) (fun hm => by have := (SL.row_bounds ho8 _ hm).1; omega)).trans ((hb8.block _ zD).trans hD7))
         (hiD.below (hb8.trans (hc.belowE_w hb8.size (fun k hk => (SL.row_bounds ho8 k hk).1)))))
      unfold CutPost at hDel
      simp only [Bool.not_not] at hDel
      have HsI := Lib.hid (List.filter_sublist : ((keptL S 2 id).filter fun x => ids.contains x.id).Sublist (keptL S 2 id))
      have HkI := Lib.hid (kept_self HsI.out)
      have HsM : Hid (((keptL S 2 id).filter fun x => ids.contains x.id).Sublist (keptL S 2 y.id)) := Lib.hid (by rw [Hsid.out]; exact List.filter_sublist)
      have HwM : ∀ x ∈ (keptL S 2 id).filter fun x => ids.contains x.id, x.Wide := fun x hx => hwM x (List.mem_filter.1 hx).1
      have hlF : ((keptL S 2 id).filter fun x => ids.contains x.id).length ≤ 300 := Nat.le_trans (List.length_filter_le _ _) hlM
      rw [Hsid.out] at HE
      generalize ((keptL S 2 id).filter fun x => ids.contains x.id) = M at *
      generalize keptL S 2 id = L at *
      have HD7 := Lib.hid hD7
      have HY7 := Lib.hid hY7
      have HDel := Lib.hid hDel
      clear hD7 hY7 hA7 hDel hwM
      have hmk := makeFuncS
      go_wp2_with (first
       | (go_at_call 99; refine (skept _ _ _ _ _ _).mono ?_; rintro e w1 ⟨rfl, rfl⟩)
       | (go_at_call 98; (with_reducible refine hCol.mono ?_); rintro e w8 ⟨v8, rfl, hb8, ho8⟩; have hDl := HDel.out _ _ hb8 ho8; obtain ⟨ka, kc, rfl, _⟩ := owns_slice ho8; clear c0 c1 ar zA; have c0 := (SL.cells_of ((hb8.block _ zD).trans HD7.out)).1 0; have c1 := (SL.cells_of ((hb8.block _ zD).trans HD7.out)).1 1; simp at c0 c1; have zD8 := Nat.lt_of_lt_of_le zD hb8.size))
      refine hDl.mono ?_
      rintro e w9 ⟨v9, rfl, ho9, hc9, _⟩
      have hb9 := hb8.trans (hc9.belowE_w hb8.size (fun k hk => (SL.row_bounds ho8 k hk).1))
      clear c0 c1 zD8 hDl ho8 hc9 hb8 hCol
      obtain ⟨xa, xc, rfl, _⟩ := owns_slice ho9
      have hM9 := ItmsAt.of_owns ho9 (by omega) HwM
      have hD9 := (hb9.block _ zD).trans HD7.out
      have c0 := (SL.cells_of hD9).1 0
      have c1 := (SL.cells_of hD9).1 1
      simp at c0 c1
      have zD9 := (Array.getElem?_eq_some_iff.1 hD9).1
      have hY9 := (hb9.block _ (Array.getElem?_eq_some_iff.1 HY7.out).1).trans HY7.out
      have hi9 := hi7.below hb9
      have hB9 := hB7.ch2 hb9
      have hil := hi.len
      clear hD9 ho9 zD hi7 hiD
      by_cases hl : M.length = dn
      ·have e9 : ((M.length : Int) != (dn : Int)) = false := by rw [hl]; simp
       have HF := Lib.hid (fun w' B (hB : endB y 1 M = B) => HE.out w' B (by unfold restB; rw [decide_eq_true (by omega : M.length = ids.length), Bool.true_and]; exact hB))
       clear HE HP HKd HQ hl hil
       have hIm := simpE va S.length vc S 2 y xa xc M w9 hok hi9 (by omega) HsM.out hM9
       obtain ⟨p0, p1, p2, p3, p4, p5, pf⟩ := cell6 hY9
       have zY := (Array.getElem?_eq_some_iff.1 hY9).1
       simp only [Shd.v, Shd.cs] at hIm
       go_wp2_with (go_at_call 128; (with_reducible refine hIm.mono ?_); rintro e w10 ⟨rfl, hb10⟩)
       exact HF.out _ _ (by unfold endB; rw [if_neg (by decide)]; rfl) (hB9.ch2 hb10)
      ·have e9 : ((M.length : Int) != (dn : Int)) = true := by
        have : ¬ (M.length : Int) = (dn : Int) := by omega
        simpa using this
       have HF := Lib.hid (fun w' => HE.out w' false (by unfold restB; rw [decide_eq_false (by omega : ¬ M.length = ids.length), Bool.false_and]))
       clear HE HP HKd HQ hl hil
       go_wp2_with fail
       exact HF.out _ hB9
    ·have hUA := hU wA hiA
     generalize hQ : (ids == ascOf ids) = Q at *
     apply SLG.rule0 ?hm2 [] [33, 34, 35, 36, 37, 38, 39, 40, 41, 42, 43, 44, 45, 46, 47, 48, 49, 50] [SLF.pq 33 [] _, SLF.pq 34 [0] _, SLF.pq 35 [1] _, SLF.pq 36 [2] _, SLF.pq 37 [3] _, SLF.pq 38 [3, 4] _, SLF.pq 39 [3, 5] _, SLF.pq 40 [3, 6] _, SLF.pq 41 [3, 7] _, SLF.pq 42 [8] _, SLF.pq 43 [9] _, SLF.pq 44 [9, 10] _, SLF.pq 45 [9] _, SLF.pq 46 [9, 12] _, SL.row 47 [9, 13] [] wA.heap.size 3 1 (ascOf ids).length ((ascOf ids).map (.int .i64)), SL.pu 48 [9, 11, 14] (.bool Q), SLF.pq 49 [9, 15] _, SLF.pq 50 [9, 16] _] [17] ?hck2 ?hkp2 (fun _ => []) ?hin2 ?hdj2 ?hfr2 ?ob2 ?en2
     case hm2 => kernel_rfl
     case hin2 => exact SL.none_held rfl
     case hdj2 => simp
     case hfr2 => intro us; simp only [SL.frame, SL.put']; simp; exact rfl
     case ob2 =>
      refine ⟨?_, ?_, ?_, ?_, ?_, ?_, ?_, ?_, ?_, ?_, ?_, ?_, ?_, ?_, ?_, ?_, ?_, ?_, trivial⟩
      all_goals first
       | (intro us w' Fe hG hu hd hv Kx hK
          try dsimp only
          simp [SL.O] at hu hK
          have hB5 : Below wA.heap.size wA w' := hG.below'
          obtain ⟨hc5, hf5⟩ := bcell hB5
          have hs5 := hB5.size
          clear hv hG
          first
           | (refine SLF.wpo_do (SLF.wanted_free rfl) ?hd2 ?_; (case hd2 => intro c h; cases h))
           | (refine SLF.wpo_do (SLF.wanted_by rfl rfl ?hv2) ?hd2 ?_; (case hv2 => simp [hu]; done); (case hd2 => intro c h; cases h))
           | (refine' SLF.wpo_not (SLG.wanted_not rfl rfl ?hv2 ?hn2) ?_; (case hv2 => simp [hu]; exact rfl); (case hn2 => first | (simp; done) | (simp [undef]; done)))
          clear hd
          first
           | (go_step; exact hK _ _ _ (SL.Chg.refl _ _) (by first | exact rfl | (simp only [hu]; exact rfl)) rfl (by simp) rfl)
           | exact hK _ _ _ (SL.Chg.refl _ _) rfl rfl (by simp) rfl)
       | skip
      ·refine SLG.ob_sp rfl rfl rfl fun us w' Fe hG hu hd Kx hK => ?_
       try dsimp only
       simp [SL.O] at hu
       have hB5 : Below wA.heap.size wA w' := hG.below'
       obtain ⟨hc5, hf5⟩ := bcell hB5
       have hs5 := hB5.size
       first
        | (refine SLF.wpo_do (SLF.wanted_free rfl) ?hd2 ?_; (case hd2 => intro c h; cases h))
        | (refine SLF.wpo_do (SLF.wanted_by rfl rfl ?hv2) ?hd2 ?_; (case hv2 => simp [hu]; done); (case hd2 => intro c h; cases h))
        | (refine' SLF.wpo_not (SLG.wanted_not rfl rfl ?hv2 ?hn2) ?_; (case hv2 => simp [hu]; exact rfl); (case hn2 => first | (simp; done) | (simp [undef]; done)))
       obtain ⟨_, e13, _⟩ := hu
       go_step
       refine (hU w' (hiA.below hB5)).mono ?_
       rintro e w6 ⟨v6, rfl, hb6, ho6⟩
       exact hK _ v6 w6 _ (by simp [Act.put]; done) (.of_below hb6) ⟨SL.row_base ho6 hs5, rfl⟩ (fun k hk => .inr (SL.row_bounds ho6 k hk))
      ·refine SLG.ob_sp rfl rfl rfl fun us w' Fe hG hu hd Kx hK => ?_
       try dsimp only
       simp [SL.O] at hu
       have hB5 : Below wA.heap.size wA w' := hG.below'
       obtain ⟨hc5, hf5⟩ := bcell hB5
       have hs5 := hB5.size
       first
        | (refine SLF.wpo_do (SLF.wanted_free rfl) ?hd2 ?_; (case hd2 => intro c h; cases h))
        | (refine SLF.wpo_do (SLF.wanted_by rfl rfl ?hv2) ?hd2 ?_; (case hv2 => simp [hu]; done); (case hd2 => intro c h; cases h))
        | (refine' SLF.wpo_not (SLG.wanted_not rfl rfl ?hv2 ?hn2) ?_; (case hv2 => simp [hu]; exact rfl); (case hn2 => first | (simp; done) | (simp [undef]; done)))
       obtain ⟨_, ⟨e11, _⟩, ho, _⟩ := hu
       obtain ⟨xa, xc, hv, _⟩ := owns_slice ho
       rw [hv] at ho
       have hEw := hEq w' xa xc (hiA.below hB5) (IntsAt.of_owns ho (by omega))
       clear ho hc5 hf5
       go_step
       refine hEw.mono ?_
       rintro e w6 ⟨rfl, hb6⟩
       exact hK _ _ _ [] (by simp [Act.put]; done) (.of_below hb6) ⟨rfl, rfl⟩ (fun j hj => by cases hj)
     case hck2 => kernel_rfl
     case hkp2 => kernel_rfl
     intro us w7 Fs hG hu hbd hd
     simp [SL.Used, SLF.pq] at hu
     obtain ⟨h17, _⟩ := hu
     rw [h17]
     have hb7 := (hG.below' : Below wA.heap.size wA w7)
     have hB7 := hB4.ch2 hb7
     have hD7 := (hb7.block _ zD).trans hD4
     have hA7 := (hb7.block _ (Array.getElem?_eq_some_iff.1 hA4).1).trans hA4
     have hY7 := (hb7.block _ (Array.getElem?_eq_some_iff.1 hY4).1).trans hY4
     have hi7 := hi4.below hb7
     have hiD := hiA.below hb7
     have HQ := Lib.hid hQ
     clear hG hbd hd h17 c0 c1 zD hD4 hA4 hY4 hi4 hB4 hiA hUA hb7 hU hEq hQ
     cases Q
     ·have HE := Lib.hid (fun w' => HP.out w' false (by rw [HKd.out (by decide) (by decide)]; rfl))
      clear HQ
      go_wp2_with fail
      exact HE.out _ hB7
     ·have HE := Lib.hid (fun w' B hB => HP.out w' B ((HKd.out (by decide) (by decide)).trans (by rw [Bool.true_and]; exact hB)))
      rw [show ((2 : Int) + 1) = 3 from rfl] at HE
      have zD := (Array.getElem?_eq_some_iff.1 hD7).1
      have c0 := (SL.cells_of hD7).1 0
      have c1 := (SL.cells_of hD7).1 1
      have ar := (SL.cells_of hA7).1 2
      have zA := (Array.getElem?_eq_some_iff.1 hA7).1
      simp at c0 c1 ar
      have hCol := scolK va S.length vc S 3 id w7 hi7 (by omega)
      have hwM : ∀ x ∈ keptL S 3 id, x.Wide := fun x hx => hcw x (List.mem_filter.1 hx).1
      have hlM : (keptL S 3 id).length ≤ 300 := Nat.le_trans (List.length_filter_le _ _) hsl
      have hDel := fun v8 w8 (hb8 : Below w7.heap.size w7 w8) (ho8 : w8.ownsRow w7.heap.size 24 16 v8 (keptL S 3 id).length (ics (keptL S 3 id))) =>
       sDelT 125 #[.pointer (some ⟨w.heap.size, 0, none⟩)] (fun x => !ids.contains x.id) v8 w7.heap.size (keptL S 3 id) w8 ho8 hwM (by omega) (enters_of Tryz.func125 (by kernel_rfl) rfl)
        (fun x _ w9 hc => sChk1 x 2 da dn dc ids w.heap.size w9
         ((hc.block w.heap.size (by have := hb8.size; omega) (fun hm => by have := (SL.row_bounds ho8 _ hm).1; omega)).trans ((hb8.block _ zD).trans hD7))
         (hiD.below (hb8.trans (hc.belowE_w hb8.size (fun k hk => (SL.row_bounds ho8 k hk).1)))))
      unfold CutPost at hDel
      simp only [Bool.not_not] at hDel
      have HsI := Lib.hid (List.filter_sublist : ((keptL S 3 id).filter fun x => ids.contains x.id).Sublist (keptL S 3 id))
      have HkI := Lib.hid (kept_self HsI.out)
      have HsM : Hid (((keptL S 3 id).filter fun x => ids.contains x.id).Sublist (keptL S 3 y.id)) := Lib.hid (by rw [Hsid.out]; exact List.filter_sublist)
      have HwM : ∀ x ∈ (keptL S 3 id).filter fun x => ids.contains x.id, x.Wide := fun x hx => hwM x (List.mem_filter.1 hx).1
      have hlF : ((keptL S 3 id).filter fun x => ids.contains x.id).length ≤ 300 := Nat.le_trans (List.length_filter_le _ _) hlM
      rw [Hsid.out] at HE
      generalize ((keptL S 3 id).filter fun x => ids.contains x.id) = M at *
      generalize keptL S 3 id = L at *
      have HD7 := Lib.hid hD7
      have HY7 := Lib.hid hY7
      have HDel := Lib.hid hDel
      clear hD7 hY7 hA7 hDel hwM
      have hmk := makeFuncS
      go_wp2_with (first
       | (go_at_call 99; refine (skept _ _ _ _ _ _).mono ?_; rintro e w1 ⟨rfl, rfl⟩)
       | (go_at_call 98; (with_reducible refine hCol.mono ?_); rintro e w8 ⟨v8, rfl, hb8, ho8⟩; have hDl := HDel.out _ _ hb8 ho8; obtain ⟨ka, kc, rfl, _⟩ := owns_slice ho8; clear c0 c1 ar zA; have c0 := (SL.cells_of ((hb8.block _ zD).trans HD7.out)).1 0; have c1 := (SL.cells_of ((hb8.block _ zD).trans HD7.out)).1 1; simp at c0 c1; have zD8 := Nat.lt_of_lt_of_le zD hb8.size))
      refine hDl.mono ?_
      rintro e w9 ⟨v9, rfl, ho9, hc9, _⟩
      have hb9 := hb8.trans (hc9.belowE_w hb8.size (fun k hk => (SL.row_bounds ho8 k hk).1))
      clear c0 c1 zD8 hDl ho8 hc9 hb8 hCol
      obtain ⟨xa, xc, rfl, _⟩ := owns_slice ho9
      have hM9 := ItmsAt.of_owns ho9 (by omega) HwM
      have hD9 := (hb9.block _ zD).trans HD7.out
      have c0 := (SL.cells_of hD9).1 0
      have c1 := (SL.cells_of hD9).1 1
      simp at c0 c1
      have zD9 := (Array.getElem?_eq_some_iff.1 hD9).1
      have hY9 := (hb9.block _ (Array.getElem?_eq_some_iff.1 HY7.out).1).trans HY7.out
      have hi9 := hi7.below hb9
      have hB9 := hB7.ch2 hb9
      have hil := hi.len
      clear hD9 ho9 zD hi7 hiD
      by_cases hl : M.length = dn
      ·have e9 : ((M.length : Int) != (dn : Int)) = false := by rw [hl]; simp
       have HF := Lib.hid (fun w' B (hB : endB y 2 M = B) => HE.out w' B (by unfold restB; rw [decide_eq_true (by omega : M.length = ids.length), Bool.true_and]; exact hB))
       clear HE HP HKd HQ hl hil
       have hIm := simpE va S.length vc S 3 y xa xc M w9 hok hi9 (by omega) HsM.out hM9
       obtain ⟨p0, p1, p2, p3, p4, p5, pf⟩ := cell6 hY9
       have zY := (Array.getElem?_eq_some_iff.1 hY9).1
       simp only [Shd.v, Shd.cs] at hIm
       go_wp2_with (go_at_call 128; (with_reducible refine hIm.mono ?_); rintro e w10 ⟨rfl, hb10⟩)
       exact HF.out _ _ (by unfold endB; rw [if_neg (by decide)]; rfl) (hB9.ch2 hb10)
      ·have e9 : ((M.length : Int) != (dn : Int)) = true := by
        have : ¬ (M.length : Int) = (dn : Int) := by omega
        simpa using this
       have HF := Lib.hid (fun w' => HE.out w' false (by unfold restB; rw [decide_eq_false (by omega : ¬ M.length = ids.length), Bool.false_and]))
       clear HE HP HKd HQ hl hil
       go_wp2_with fail
       exact HF.out _ hB9
    ·have hUA := hU wA hiA
     generalize hQ : (ids == ascOf ids) = Q at *
     apply SLG.rule0 ?hm3 [] [33, 34, 35, 36, 37, 38, 39, 40, 41, 42, 43, 44, 45, 46, 47, 48, 49, 50] [SLF.pq 33 [] _, SLF.pq 34 [0] _, SLF.pq 35 [1] _, SLF.pq 36 [2] _, SLF.pq 37 [3] _, SLF.pq 38 [3, 4] _, SLF.pq 39 [3, 5] _, SLF.pq 40 [3, 6] _, SLF.pq 41 [3, 7] _, SLF.pq 42 [8] _, SLF.pq 43 [9] _, SLF.pq 44 [9, 10] _, SLF.pq 45 [9] _, SLF.pq 46 [9, 12] _, SL.row 47 [9, 13] [] wA.heap.size 3 1 (ascOf ids).length ((ascOf ids).map (.int .i64)), SL.pu 48 [9, 11, 14] (.bool Q), SLF.pq 49 [9, 15] _, SLF.pq 50 [9, 16] _] [17] ?hck3 ?hkp3 (fun _ => []) ?hin3 ?hdj3 ?hfr3 ?ob3 ?en3
     case hm3 => kernel_rfl
     case hin3 => exact SL.none_held rfl
     case hdj3 => simp
     case hfr3 => intro us; simp only [SL.frame, SL.put']; simp; exact rfl
     case ob3 =>
      refine ⟨?_, ?_, ?_, ?_, ?_, ?_, ?_, ?_, ?_, ?_, ?_, ?_, ?_, ?_, ?_, ?_, ?_, ?_, trivial⟩
      all_goals first
       | (intro us w' Fe hG hu hd hv Kx hK
          try dsimp only
          simp [SL.O] at hu hK
          have hB5 : Below wA.heap.size wA w' := hG.below'
          obtain ⟨hc5, hf5⟩ := bcell hB5
          have hs5 := hB5.size
          clear hv hG
          first
           | (refine SLF.wpo_do (SLF.wanted_free rfl) ?hd3 ?_; (case hd3 => intro c h; cases h))
           | (refine SLF.wpo_do (SLF.wanted_by rfl rfl ?hv3) ?hd3 ?_; (case hv3 => simp [hu]; done); (case hd3 => intro c h; cases h))
           | (refine' SLF.wpo_not (SLG.wanted_not rfl rfl ?hv3 ?hn3) ?_; (case hv3 => simp [hu]; exact rfl); (case hn3 => first | (simp; done) | (simp [undef]; done)))
          clear hd
          first
           | (go_step; exact hK _ _ _ (SL.Chg.refl _ _) (by first | exact rfl | (simp only [hu]; exact rfl)) rfl (by simp) rfl)
           | exact hK _ _ _ (SL.Chg.refl _ _) rfl rfl (by simp) rfl)
       | skip
      ·refine SLG.ob_sp rfl rfl rfl fun us w' Fe hG hu hd Kx hK => ?_
       try dsimp only
       simp [SL.O] at hu
       have hB5 : Below wA.heap.size wA w' := hG.below'
       obtain ⟨hc5, hf5⟩ := bcell hB5
       have hs5 := hB5.size
       first
        | (refine SLF.wpo_do (SLF.wanted_free rfl) ?hd3 ?_; (case hd3 => intro c h; cases h))
        | (refine SLF.wpo_do (SLF.wanted_by rfl rfl ?hv3) ?hd3 ?_; (case hv3 => simp [hu]; done); (case hd3 => intro c h; cases h))
        | (refine' SLF.wpo_not (SLG.wanted_not rfl rfl ?hv3 ?hn3) ?_; (case hv3 => simp [hu]; exact rfl); (case hn3 => first | (simp; done) | (simp [undef]; done)))
       obtain ⟨_, e13, _⟩ := hu
       go_step
       refine (hU w' (hiA.below hB5)).mono ?_
       rintro e w6 ⟨v6, rfl, hb6, ho6⟩
       exact hK _ v6 w6 _ (by simp [Act.put]; done) (.of_below hb6) ⟨SL.row_base ho6 hs5, rfl⟩ (fun k hk => .inr (SL.row_bounds ho6 k hk))
      ·refine SLG.ob_sp rfl rfl rfl fun us w' Fe hG hu hd Kx hK => ?_
       try dsimp only
       simp [SL.O] at hu
       have hB5 : Below wA.heap.size wA w' := hG.below'
       obtain ⟨hc5, hf5⟩ := bcell hB5
       have hs5 := hB5.size
       first
        | (refine SLF.wpo_do (SLF.wanted_free rfl) ?hd3 ?_; (case hd3 => intro c h; cases h))
        | (refine SLF.wpo_do (SLF.wanted_by rfl rfl ?hv3) ?hd3 ?_; (case hv3 => simp [hu]; done); (case hd3 => intro c h; cases h))
        | (refine' SLF.wpo_not (SLG.wanted_not rfl rfl ?hv3 ?hn3) ?_; (case hv3 => simp [hu]; exact rfl); (case hn3 => first | (simp; done) | (simp [undef]; done)))
       obtain ⟨_, ⟨e11, _⟩, ho, _⟩ := hu
       obtain ⟨xa, xc, hv, _⟩ := owns_slice ho
       rw [hv] at ho
       have hEw := hEq w' xa xc (hiA.below hB5) (IntsAt.of_owns ho (by omega))
       clear ho hc5 hf5
       go_step
       refine hEw.mono ?_
       rintro e w6 ⟨rfl, hb6⟩
       exact hK _ _ _ [] (by simp [Act.put]; done) (.of_below hb6) ⟨rfl, rfl⟩ (fun j hj => by cases hj)
     case hck3 => kernel_rfl
     case hkp3 => kernel_rfl
     intro us w7 Fs hG hu hbd hd
     simp [SL.Used, SLF.pq] at hu
     obtain ⟨h17, _⟩ := hu
     rw [h17]
     have hb7 := (hG.below' : Below wA.heap.size wA w7)
     have hB7 := hB4.ch2 hb7
     have hD7 := (hb7.block _ zD).trans hD4
     have hA7 := (hb7.block _ (Array.getElem?_eq_some_iff.1 hA4).1).trans hA4
     have hY7 := (hb7.block _ (Array.getElem?_eq_some_iff.1 hY4).1).trans hY4
     have hi7 := hi4.below hb7
     have hiD := hiA.below hb7
     have HQ := Lib.hid hQ
     clear hG hbd hd h17 c0 c1 zD hD4 hA4 hY4 hi4 hB4 hiA hUA hb7 hU hEq hQ
     cases Q
     ·have HE := Lib.hid (fun w' => HP.out w' false (by rw [HKd.out (by decide) (by decide)]; rfl))
      clear HQ
      go_wp2_with fail
      exact HE.out _ hB7
     ·have HE := Lib.hid (fun w' B hB => HP.out w' B ((HKd.out (by decide) (by decide)).trans (by rw [Bool.true_and]; exact hB)))
      rw [show ((3 : Int) + 1) = 4 from rfl] at HE
      have zD := (Array.getElem?_eq_some_iff.1 hD7).1
      have c0 := (SL.cells_of hD7).1 0
      have c1 := (SL.cells_of hD7).1 1
      have ar := (SL.cells_of hA7).1 3
      have zA := (Array.getElem?_eq_some_iff.1 hA7).1
      simp at c0 c1 ar
      have hCol := scolK va S.length vc S 4 id w7 hi7 (by omega)
      have hwM : ∀ x ∈ keptL S 4 id, x.Wide := fun x hx => hcw x (List.mem_filter.1 hx).1
      have hlM : (keptL S 4 id).length ≤ 300 := Nat.le_trans (List.length_filter_le _ _) hsl
      have hDel := fun v8 w8 (hb8 : Below w7.heap.size w7 w8) (ho8 : w8.ownsRow w7.heap.size 24 16 v8 (keptL S 4 id).length (ics (keptL S 4 id))) =>
       sDelT 125 #[.pointer (some ⟨w.heap.size, 0, none⟩)] (fun x => !ids.contains x.id) v8 w7.heap.size (keptL S 4 id) w8 ho8 hwM (by omega) (enters_of Tryz.func125 (by kernel_rfl) rfl)
        (fun x _ w9 hc => sChk1 x 3 da dn dc ids w.heap.size w9
         ((hc.block w.heap.size (by have := hb8.size; omega) (fun hm => by have := (SL.row_bounds ho8 _ hm).1; omega)).trans ((hb8.block _ zD).trans hD7))
         (hiD.below (hb8.trans (hc.belowE_w hb8.size (fun k hk => (SL.row_bounds ho8 k hk).1)))))
      unfold CutPost at hDel
      simp only [Bool.not_not] at hDel
      have HsI := Lib.hid (List.filter_sublist : ((keptL S 4 id).filter fun x => ids.contains x.id).Sublist (keptL S 4 id))
      have HkI := Lib.hid (kept_self HsI.out)
      have HsM : Hid (((keptL S 4 id).filter fun x => ids.contains x.id).Sublist (keptL S 4 y.id)) := Lib.hid (by rw [Hsid.out]; exact List.filter_sublist)
      have HwM : ∀ x ∈ (keptL S 4 id).filter fun x => ids.contains x.id, x.Wide := fun x hx => hwM x (List.mem_filter.1 hx).1
      have hlF : ((keptL S 4 id).filter fun x => ids.contains x.id).length ≤ 300 := Nat.le_trans (List.length_filter_le _ _) hlM
      rw [Hsid.out] at HE
      generalize ((keptL S 4 id).filter fun x => ids.contains x.id) = M at *
      generalize keptL S 4 id = L at *
      have HD7 := Lib.hid hD7
      have HY7 := Lib.hid hY7
      have HDel := Lib.hid hDel
      clear hD7 hY7 hA7 hDel hwM
      have hmk := makeFuncS
      go_wp2_with (first
       | (go_at_call 99; refine (skept _ _ _ _ _ _).mono ?_; rintro e w1 ⟨rfl, rfl⟩)
       | (go_at_call 98; (with_reducible refine hCol.mono ?_); rintro e w8 ⟨v8, rfl, hb8, ho8⟩; have hDl := HDel.out _ _ hb8 ho8; obtain ⟨ka, kc, rfl, _⟩ := owns_slice ho8; clear c0 c1 ar zA; have c0 := (SL.cells_of ((hb8.block _ zD).trans HD7.out)).1 0; have c1 := (SL.cells_of ((hb8.block _ zD).trans HD7.out)).1 1; simp at c0 c1; have zD8 := Nat.lt_of_lt_of_le zD hb8.size))
      refine hDl.mono ?_
      rintro e w9 ⟨v9, rfl, ho9, hc9, _⟩
      have hb9 := hb8.trans (hc9.belowE_w hb8.size (fun k hk => (SL.row_bounds ho8 k hk).1))
      clear c0 c1 zD8 hDl ho8 hc9 hb8 hCol
      obtain ⟨xa, xc, rfl, _⟩ := owns_slice ho9
      have hM9 := ItmsAt.of_owns ho9 (by omega) HwM
      have hD9 := (hb9.block _ zD).trans HD7.out
      have c0 := (SL.cells_of hD9).1 0
      have c1 := (SL.cells_of hD9).1 1
      simp at c0 c1
      have zD9 := (Array.getElem?_eq_some_iff.1 hD9).1
      have hY9 := (hb9.block _ (Array.getElem?_eq_some_iff.1 HY7.out).1).trans HY7.out
      have hi9 := hi7.below hb9
      have hB9 := hB7.ch2 hb9
      have hil := hi.len
      clear hD9 ho9 zD hi7 hiD
      by_cases hl : M.length = dn
      ·have e9 : ((M.length : Int) != (dn : Int)) = false := by rw [hl]; simp
       have HF := Lib.hid (fun w' B (hB : endB y 3 M = B) => HE.out w' B (by unfold restB; rw [decide_eq_true (by omega : M.length = ids.length), Bool.true_and]; exact hB))
       clear HE HP HKd HQ hl hil
       go_wp2_with fail
       by_cases h2 : M.length = 2
       ·obtain ⟨x, z, rfl⟩ : ∃ x z, M = [x, z] := by
         rcases M with _ | ⟨x, _ | ⟨z, _ | ⟨u, r⟩⟩⟩
         ·cases h2
         ·cases h2
         ·exact ⟨x, z, rfl⟩
         ·simp at h2
        obtain ⟨gb, go, rfl, hgb, g0⟩ := hM9.get (i := 0) (by simp)
        obtain ⟨_, _, he, _, g1⟩ := hM9.get (i := 1) (by simp)
        injection he with he
        injection he with he1 he2
        subst he1 he2
        rw [show [x, z].getD 0 default = x from rfl, Nat.zero_mul, Nat.add_zero] at g0
        rw [show [x, z].getD 1 default = z from rfl, Nat.one_mul] at g1
        obtain ⟨d0, d1, d2, d3, d4, d5, d6, d7, d8, d9, d10, d11, d12, d13, d14, d15⟩ := g0
        obtain ⟨f0, f1, f2, f3, f4, f5, f6, f7, f8, f9, f10, f11, f12, f13, f14, f15⟩ := g1
        have HF2 := Lib.hid (fun w' => HF.out w' (clashI x z) rfl)
        have hcl := fun W => sclash_any x z W
        simp only [Itm.v, Itm.cs] at hcl
        generalize clashI x z = CL at *
        clear hM9 HF HwM hlF HsM HsI HkI HDel e9
        generalize hL2 : [x, z].length = n2 at *
        obtain rfl : n2 = 2 := hL2.symm
        clear hL2 h2
        apply SLG.rule0 ?hm4 [] [72, 73, 74, 75, 76, 77, 78, 79, 80, 81, 82, 83, 8, 9] [SLF.pq 72 [] _, SLF.pq 73 [0] _, SLF.pq 74 [1] _, SLF.pq 75 [2] _, SLF.pq 76 [3] _, SLF.pq 77 [3, 4] _, SLF.pq 78 [3, 5] _, SLF.pq 79 [3] _, SLF.pq 80 [3, 7] _, SLF.pq 81 [3, 8] _, SL.pu 82 [3, 6, 9] (.bool CL), SLF.pq 83 [3, 10] _, SLF.pq 8 [11] _, SLF.pq 9 [] _] [12, 13] ?hck4 ?hkp4 (fun _ => []) ?hin4 ?hdj4 ?hfr4 ?ob4 ?en4
        case hm4 => kernel_rfl
        case hin4 => exact SL.none_held rfl
        case hdj4 => simp
        case hfr4 => intro us; simp only [SL.frame, SL.put']; simp; exact rfl
        case ob4 =>
         refine ⟨?_, ?_, ?_, ?_, ?_, ?_, ?_, ?_, ?_, ?_, ?_, ?_, ?_, ?_, trivial⟩
         all_goals first
          | (intro us w' Fe hG hu hd hv Kx hK
             try dsimp only
             simp [SL.O] at hu hK
             have hB5 : Below w9.heap.size w9 w' := hG.below'
             obtain ⟨hc5, hf5⟩ := bcell hB5
             have hs5 := hB5.size
             clear hv hG
             first
              | (refine SLF.wpo_do (SLF.wanted_free rfl) ?hd4 ?_; (case hd4 => intro c h; cases h))
              | (refine SLF.wpo_do (SLF.wanted_by rfl rfl ?hv4) ?hd4 ?_; (case hv4 => simp [hu]; done); (case hd4 => intro c h; cases h))
              | (refine' SLF.wpo_not (SLG.wanted_not rfl rfl ?hv4 ?hn4) ?_; (case hv4 => simp [hu]; exact rfl); (case hn4 => first | (simp; done) | (simp [undef]; done)))
             clear hd
             first
              | (go_step; exact hK _ _ _ (SL.Chg.refl _ _) (by first | exact rfl | (simp only [hu]; exact rfl)) rfl (by simp) rfl)
              | exact hK _ _ _ (SL.Chg.refl _ _) rfl rfl (by simp) rfl)
          | skip
         ·refine SLG.ob_sp rfl rfl rfl fun us w' Fe hG hu hd Kx hK => ?_
          try dsimp only
          simp [SL.O] at hu
          have hB5 : Below w9.heap.size w9 w' := hG.below'
          obtain ⟨hc5, hf5⟩ := bcell hB5
          have hs5 := hB5.size
          first
           | (refine SLF.wpo_do (SLF.wanted_free rfl) ?hd4 ?_; (case hd4 => intro c h; cases h))
           | (refine SLF.wpo_do (SLF.wanted_by rfl rfl ?hv4) ?hd4 ?_; (case hv4 => simp [hu]; done); (case hd4 => intro c h; cases h))
           | (refine' SLF.wpo_not (SLG.wanted_not rfl rfl ?hv4 ?hn4) ?_; (case hv4 => simp [hu]; exact rfl); (case hn4 => first | (simp; done) | (simp [undef]; done)))
          obtain ⟨_, ⟨e6, _⟩, e9, _⟩ := hu
          clear hc5 hf5
          go_step
          refine (hcl w').mono ?_
          rintro e w6 ⟨rfl, hb6⟩
          exact hK _ _ _ [] (by simp [Act.put]; done) (.of_below hb6) ⟨rfl, rfl⟩ (fun j hj => by cases hj)
        case hck4 => kernel_rfl
        case hkp4 => kernel_rfl
        intro us w10 Fs hG hu hbd hd
        simp [SL.Used, SLF.pq, SL.pu] at hu
        obtain ⟨⟨h12, _⟩, h13, _⟩ := hu
        have hB10 := hB9.ch2 (hG.below' : Below w9.heap.size w9 w10)
        rw [h12, h13]
        clear hG hbd hd h12 h13
        go_wp2_with fail
        exact HF2.out _ hB10
       ·have e2 : ((M.length : Int) == 2) = false := by
         have : ¬ (M.length : Int) = 2 := by omega
         simpa using this
        have HF2 := Lib.hid (fun w' => HF.out w' false (endB_no h2))
        clear h2
        go_quiet (fail)
        go_wp2
        exact HF2.out _ (belowN hB9)
      ·have e9 : ((M.length : Int) != (dn : Int)) = true := by
        have : ¬ (M.length : Int) = (dn : Int) := by omega
        simpa using this
       have HF := Lib.hid (fun w' => HE.out w' false (by unfold restB; rw [decide_eq_false (by omega : ¬ M.length = ids.length), Bool.false_and]))
       clear HE HP HKd HQ hl hil
       go_wp2_with fail
       exact HF.out _ hB9
    ·have hUA := hU wA hiA
     generalize hQ : (ids == ascOf ids) = Q at *
     apply SLG.rule0 ?hm5 [] [33, 34, 35, 36, 37, 38, 39, 40, 41, 42, 43, 44, 45, 46, 47, 48, 49, 50] [SLF.pq 33 [] _, SLF.pq 34 [0] _, SLF.pq 35 [1] _, SLF.pq 36 [2] _, SLF.pq 37 [3] _, SLF.pq 38 [3, 4] _, SLF.pq 39 [3, 5] _, SLF.pq 40 [3, 6] _, SLF.pq 41 [3, 7] _, SLF.pq 42 [8] _, SLF.pq 43 [9] _, SLF.pq 44 [9, 10] _, SLF.pq 45 [9] _, SLF.pq 46 [9, 12] _, SL.row 47 [9, 13] [] wA.heap.size 3 1 (ascOf ids).length ((ascOf ids).map (.int .i64)), SL.pu 48 [9, 11, 14] (.bool Q), SLF.pq 49 [9, 15] _, SLF.pq 50 [9, 16] _] [17] ?hck5 ?hkp5 (fun _ => []) ?hin5 ?hdj5 ?hfr5 ?ob5 ?en5
     case hm5 => kernel_rfl
     case hin5 => exact SL.none_held rfl
     case hdj5 => simp
     case hfr5 => intro us; simp only [SL.frame, SL.put']; simp; exact rfl
     case ob5 =>
      refine ⟨?_, ?_, ?_, ?_, ?_, ?_, ?_, ?_, ?_, ?_, ?_, ?_, ?_, ?_, ?_, ?_, ?_, ?_, trivial⟩
      all_goals first
       | (intro us w' Fe hG hu hd hv Kx hK
          try dsimp only
          simp [SL.O] at hu hK
          have hB5 : Below wA.heap.size wA w' := hG.below'
          obtain ⟨hc5, hf5⟩ := bcell hB5
          have hs5 := hB5.size
          clear hv hG
          first
           | (refine SLF.wpo_do (SLF.wanted_free rfl) ?hd5 ?_; (case hd5 => intro c h; cases h))
           | (refine SLF.wpo_do (SLF.wanted_by rfl rfl ?hv5) ?hd5 ?_; (case hv5 => simp [hu]; done); (case hd5 => intro c h; cases h))
           | (refine' SLF.wpo_not (SLG.wanted_not rfl rfl ?hv5 ?hn5) ?_; (case hv5 => simp [hu]; exact rfl); (case hn5 => first | (simp; done) | (simp [undef]; done)))
          clear hd
          first
           | (go_step; exact hK _ _ _ (SL.Chg.refl _ _) (by first | exact rfl | (simp only [hu]; exact rfl)) rfl (by simp) rfl)
           | exact hK _ _ _ (SL.Chg.refl _ _) rfl rfl (by simp) rfl)
       | skip
      ·refine SLG.ob_sp rfl rfl rfl fun us w' Fe hG hu hd Kx hK => ?_
       try dsimp only
       simp [SL.O] at hu
       have hB5 : Below wA.heap.size wA w' := hG.below'
       obtain ⟨hc5, hf5⟩ := bcell hB5
       have hs5 := hB5.size
       first
        | (refine SLF.wpo_do (SLF.wanted_free rfl) ?hd5 ?_; (case hd5 => intro c h; cases h))
        | (refine SLF.wpo_do (SLF.wanted_by rfl rfl ?hv5) ?hd5 ?_; (case hv5 => simp [hu]; done); (case hd5 => intro c h; cases h))
        | (refine' SLF.wpo_not (SLG.wanted_not rfl rfl ?hv5 ?hn5) ?_; (case hv5 => simp [hu]; exact rfl); (case hn5 => first | (simp; done) | (simp [undef]; done)))
       obtain ⟨_, e13, _⟩ := hu
       go_step
       refine (hU w' (hiA.below hB5)).mono ?_
       rintro e w6 ⟨v6, rfl, hb6, ho6⟩
       exact hK _ v6 w6 _ (by simp [Act.put]; done) (.of_below hb6) ⟨SL.row_base ho6 hs5, rfl⟩ (fun k hk => .inr (SL.row_bounds ho6 k hk))
      ·refine SLG.ob_sp rfl rfl rfl fun us w' Fe hG hu hd Kx hK => ?_
       try dsimp only
       simp [SL.O] at hu
       have hB5 : Below wA.heap.size wA w' := hG.below'
       obtain ⟨hc5, hf5⟩ := bcell hB5
       have hs5 := hB5.size
       first
        | (refine SLF.wpo_do (SLF.wanted_free rfl) ?hd5 ?_; (case hd5 => intro c h; cases h))
        | (refine SLF.wpo_do (SLF.wanted_by rfl rfl ?hv5) ?hd5 ?_; (case hv5 => simp [hu]; done); (case hd5 => intro c h; cases h))
        | (refine' SLF.wpo_not (SLG.wanted_not rfl rfl ?hv5 ?hn5) ?_; (case hv5 => simp [hu]; exact rfl); (case hn5 => first | (simp; done) | (simp [undef]; done)))
       obtain ⟨_, ⟨e11, _⟩, ho, _⟩ := hu
       obtain ⟨xa, xc, hv, _⟩ := owns_slice ho
       rw [hv] at ho
       have hEw := hEq w' xa xc (hiA.below hB5) (IntsAt.of_owns ho (by omega))
       clear ho hc5 hf5
       go_step
       refine hEw.mono ?_
       rintro e w6 ⟨rfl, hb6⟩
       exact hK _ _ _ [] (by simp [Act.put]; done) (.of_below hb6) ⟨rfl, rfl⟩ (fun j hj => by cases hj)
     case hck5 => kernel_rfl
     case hkp5 => kernel_rfl
     intro us w7 Fs hG hu hbd hd
     simp [SL.Used, SLF.pq] at hu
     obtain ⟨h17, _⟩ := hu
     rw [h17]
     have hb7 := (hG.below' : Below wA.heap.size wA w7)
     have hB7 := hB4.ch2 hb7
     have hD7 := (hb7.block _ zD).trans hD4
     have hA7 := (hb7.block _ (Array.getElem?_eq_some_iff.1 hA4).1).trans hA4
     have hY7 := (hb7.block _ (Array.getElem?_eq_some_iff.1 hY4).1).trans hY4
     have hi7 := hi4.below hb7
     have hiD := hiA.below hb7
     have HQ := Lib.hid hQ
     clear hG hbd hd h17 c0 c1 zD hD4 hA4 hY4 hi4 hB4 hiA hUA hb7 hU hEq hQ
     cases Q
     ·have HE := Lib.hid (fun w' => HP.out w' false (by rw [HKd.out (by decide) (by decide)]; rfl))
      clear HQ
      go_wp2_with fail
      exact HE.out _ hB7
     ·have HE := Lib.hid (fun w' B hB => HP.out w' B ((HKd.out (by decide) (by decide)).trans (by rw [Bool.true_and]; exact hB)))
      rw [show ((4 : Int) + 1) = 5 from rfl] at HE
      have zD := (Array.getElem?_eq_some_iff.1 hD7).1
      have c0 := (SL.cells_of hD7).1 0
      have c1 := (SL.cells_of hD7).1 1
      have ar := (SL.cells_of hA7).1 4
      have zA := (Array.getElem?_eq_some_iff.1 hA7).1
      simp at c0 c1 ar
      have hCol := scolK va S.length vc S 5 id w7 hi7 (by omega)
      have hwM : ∀ x ∈ keptL S 5 id, x.Wide := fun x hx => hcw x (List.mem_filter.1 hx).1
      have hlM : (keptL S 5 id).length ≤ 300 := Nat.le_trans (List.length_filter_le _ _) hsl
      have hDel := fun v8 w8 (hb8 : Below w7.heap.size w7 w8) (ho8 : w8.ownsRow w7.heap.size 24 16 v8 (keptL S 5 id).length (ics (keptL S 5 id))) =>
       sDelT 125 #[.pointer (some ⟨w.heap.size, 0, none⟩)] (fun x => !ids.contains x.id) v8 w7.heap.size (keptL S 5 id) w8 ho8 hwM (by omega) (enters_of Tryz.func125 (by kernel_rfl) rfl)
        (fun x _ w9 hc => sChk1 x 4 da dn dc ids w.heap.size w9
         ((hc.block w.heap.size (by have := hb8.size; omega) (fun hm => by have := (SL.row_bounds ho8 _ hm).1; omega)).trans ((hb8.block _ zD).trans hD7))
         (hiD.below (hb8.trans (hc.belowE_w hb8.size (fun k hk => (SL.row_bounds ho8 k hk).1)))))
      unfold CutPost at hDel
      simp only [Bool.not_not] at hDel
      have HsI := Lib.hid (List.filter_sublist : ((keptL S 5 id).filter fun x => ids.contains x.id).Sublist (keptL S 5 id))
      have HkI := Lib.hid (kept_self HsI.out)
      have HsM : Hid (((keptL S 5 id).filter fun x => ids.contains x.id).Sublist (keptL S 5 y.id)) := Lib.hid (by rw [Hsid.out]; exact List.filter_sublist)
      have HwM : ∀ x ∈ (keptL S 5 id).filter fun x => ids.contains x.id, x.Wide := fun x hx => hwM x (List.mem_filter.1 hx).1
      have hlF : ((keptL S 5 id).filter fun x => ids.contains x.id).length ≤ 300 := Nat.le_trans (List.length_filter_le _ _) hlM
      rw [Hsid.out] at HE
      generalize ((keptL S 5 id).filter fun x => ids.contains x.id) = M at *
      generalize keptL S 5 id = L at *
      have HD7 := Lib.hid hD7
      have HY7 := Lib.hid hY7
      have HDel := Lib.hid hDel
      clear hD7 hY7 hA7 hDel hwM
      have hmk := makeFuncS
      go_wp2_with (first
       | (go_at_call 99; refine (skept _ _ _ _ _ _).mono ?_; rintro e w1 ⟨rfl, rfl⟩)
       | (go_at_call 98; (with_reducible refine hCol.mono ?_); rintro e w8 ⟨v8, rfl, hb8, ho8⟩; have hDl := HDel.out _ _ hb8 ho8; obtain ⟨ka, kc, rfl, _⟩ := owns_slice ho8; clear c0 c1 ar zA; have c0 := (SL.cells_of ((hb8.block _ zD).trans HD7.out)).1 0; have c1 := (SL.cells_of ((hb8.block _ zD).trans HD7.out)).1 1; simp at c0 c1; have zD8 := Nat.lt_of_lt_of_le zD hb8.size))
      refine hDl.mono ?_
      rintro e w9 ⟨v9, rfl, ho9, hc9, _⟩
      have hb9 := hb8.trans (hc9.belowE_w hb8.size (fun k hk => (SL.row_bounds ho8 k hk).1))
      clear c0 c1 zD8 hDl ho8 hc9 hb8 hCol
      obtain ⟨xa, xc, rfl, _⟩ := owns_slice ho9
      have hM9 := ItmsAt.of_owns ho9 (by omega) HwM
      have hD9 := (hb9.block _ zD).trans HD7.out
      have c0 := (SL.cells_of hD9).1 0
      have c1 := (SL.cells_of hD9).1 1
      simp at c0 c1
      have zD9 := (Array.getElem?_eq_some_iff.1 hD9).1
      have hY9 := (hb9.block _ (Array.getElem?_eq_some_iff.1 HY7.out).1).trans HY7.out
      have hi9 := hi7.below hb9
      have hB9 := hB7.ch2 hb9
      have hil := hi.len
      clear hD9 ho9 zD hi7 hiD
      by_cases hl : M.length = dn
      ·have e9 : ((M.length : Int) != (dn : Int)) = false := by rw [hl]; simp
       have HF := Lib.hid (fun w' B (hB : endB y 4 M = B) => HE.out w' B (by unfold restB; rw [decide_eq_true (by omega : M.length = ids.length), Bool.true_and]; exact hB))
       clear HE HP HKd HQ hl hil
       have hS := ssets_any xa M.length xc M id w9 hM9 (by omega)
       unfold RowPost at hS
       rw [HkI.out] at hS
       have hC := fun W a c base (ho : W.ownsRow base 9 1 (.slice a M.length c) M.length (strL M)) => scomS a _ c M W base (by omega) rfl ho
       have HF2 := Lib.hid (fun w' B (hB : (comC (setsL M)).isEmpty = B) => HF.out w' B (by unfold endB; rw [if_neg (by decide)]; exact hB))
       generalize comC (setsL M) = o at *
       clear HF hM9
       cases ho : o.isEmpty
       ·go_wp2_with (first
         | (go_at_call 92; (with_reducible refine hS.mono ?_); rintro e w10 ⟨v4, rfl, hb4, ho4⟩; obtain ⟨sa, sc, rfl, _⟩ := owns_slice ho4)
         | (go_at_call 91; (with_reducible refine (hC _ _ _ _ ho4).mono ?_); rintro e w11 ⟨rfl, hb5⟩))
        exact HF2.out _ _ (by simp [ho]) ((hB9.ch2 hb4).ch2 hb5)
       ·go_wp2_with (first
         | (go_at_call 92; (with_reducible refine hS.mono ?_); rintro e w10 ⟨v4, rfl, hb4, ho4⟩; obtain ⟨sa, sc, rfl, _⟩ := owns_slice ho4)
         | (go_at_call 91; (with_reducible refine (hC _ _ _ _ ho4).mono ?_); rintro e w11 ⟨rfl, hb5⟩))
        exact HF2.out _ _ (by simp [ho]) ((hB9.ch2 hb4).ch2 hb5)
      ·have e9 : ((M.length : Int) != (dn : Int)) = true := by
        have : ¬ (M.length : Int) = (dn : Int) := by omega
        simpa using this
       have HF := Lib.hid (fun w' => HE.out w' false (by unfold restB; rw [decide_eq_false (by omega : ¬ M.length = ids.length), Bool.false_and]))
       clear HE HP HKd HQ hl hil
       go_wp2_with fail
       exact HF.out _ hB9
 ·have hE : cdB l day id k ids = false := by unfold cdB; rw [decide_eq_false h0]; rfl
  rw [hE]
  have HP := Lib.hid (show ∀ w' E, lookE l day id = E → Below w.heap.size w w' → (fun e w' => e = Ending.returned (.tuple #[.bool false, .int .i64 (lookE l day id)]) ∧ Below w.heap.size w w' : Ending → World → Prop) (.returned (.tuple #[.bool false, .int .i64 E])) w' from fun w' E h1 h2 => ⟨by rw [h1], h2⟩)
  generalize (fun e w' => e = Ending.returned (.tuple #[.bool false, .int .i64 (lookE l day id)]) ∧ Below w.heap.size w w' : Ending → World → Prop) = Post at *
  generalize lookE l day id = E at *
  have e2 : (E != 0) = true := by simpa using h0
  have e3 : (E == 0) = false := by simpa using h0
  generalize lookZ l day id = y at *
  generalize lookR l day id = S at *
  simp only [Shd.v, Shd.cs] at hL
  clear h0 hE
  go_enter Tryz.func55, Tryz.ntmps55
  go_wp2_with (go_at_call 82; (with_reducible refine hL.mono ?_); rintro e w2 ⟨v, rfl, hb2, ho2⟩; obtain ⟨va, vc, rfl, _⟩ := owns_slice ho2)
  exact HP.out _ _ rfl ((hB0.ch2 hb2).ch2 (one_alloc _ _))
end Go.Proofs.YtelkcohhagblaaaGreat
namespace Go.Proofs.YtelkcohhagblaaaGreat
open Go.ChangeShapes Go.WideShapes Go.ChangeAt Go.RowKit Go.Joins Go.Deep
set_option maxRecDepth 100000
set_option maxHeartbeats 2000000
theorem Tryz.cellsDoubt : Tryz.prog.cellsOf 80 = 2 := by kernel_rfl
theorem Tryz.bInt : Tryz.prog.bytesOf 3 = 8 := by kernel_rfl
theorem Tryz.cellTypesDoubt : Tryz.prog.cellTypes Tryz.prog.depth 80 = some [5, 61] := by kernel_rfl
theorem doubt_open {H : Type} {enc : TypeId × Value → H} {W : World} {base : Nat} {v : Value} {d : DataW H} {p : List MemPlace} (hv : Value.okWide Tryz.prog W .any base 80 v)
 (h : DataW.Trod enc Tryz.prog W 0 (fun _ => true) true 80 v d p) (hs : ∀ n ∈ d.weights Tryz.prog 80, n ≤ reachBytes) : ∃ k a n cap xs, v = .agg #[.int .u8 k, .slice a n cap] ∧ (0 ≤ k ∧ k ≤ 255) ∧ IntsAt W a n cap xs := by
 have hv0 := hv
 obtain ⟨c0, c1, y0, y1, m, rfl, rfl, rfl, h0, h1⟩ := open_agg2 Tryz.underlying80 (by kernel_rfl) Tryz.cellsDoubt hv h
 obtain ⟨k, e0, _, e2⟩ := DataW.trod_int Tryz.underlying5 h0
 simp at e0
 subst e0
 have hk := u8_in e2
 rcases open_slice1 Tryz.underlying61 Tryz.cI h1 with ⟨hc, _⟩ | ⟨a, len, cap, m', k', V, D, Pl, hc, _, hl, _, hm, rfl, hat⟩
 ·simp at hc
  subst hc
  exact ⟨k, none, 0, 0, [], rfl, hk, IntsAt.nilAt _⟩
 ·simp at hc
  subst hc
  simp only [if_true] at hm
  subst hm
  have hb : m' * 8 ≤ reachBytes := by
   have := hs _ (by
    simp only [DataW.weights, Tryz.underlying80, DataW.weightsEach, List.mem_append, List.map_cons, List.map_nil, Tryz.underlying61]
    exact .inr (.inl (List.mem_cons_self ..)))
   rw [Tryz.bInt] at this
   simp only [List.length_map, List.length_range] at this
   rw [show len + (m' - len) = m' by omega] at this
   exact this
  unfold reachBytes at hb
  obtain ⟨hsp, hblk⟩ : a.spot = none ∧ a.block < W.heap.size := by
   simp only [Value.okWide, Tryz.underlying80] at hv0
   obtain ⟨cs, he, _, ts, k1, _, k2⟩ := hv0
   rw [Tryz.cellTypesDoubt] at k1
   obtain rfl := Option.some.inj k1
   obtain rfl : #[.int .u8 k, .slice (some a) len m'] = cs := by simpa using he
   obtain ⟨u, hu, k3⟩ := k2 1 (.slice (some a) len m') rfl
   obtain rfl : 61 = u := by simpa using hu
   simp only [Cell.okWide, Tryz.underlying61, Cell.ok] at k3
   obtain ⟨_, _, _, hsp, row, cells, hsh, _⟩ := k3
   refine ⟨hsp, ?_⟩
   simp only [World.shape?] at hsh
   by_cases hlt : a.block < W.heap.size
   ·exact hlt
   ·rw [Array.getElem?_eq_none (by omega)] at hsh
    simp at hsh
  obtain ⟨ab, ao, sp⟩ := a
  simp only at hsp hblk
  subst hsp
  have hV : ∀ i, i < m' → ∃ x, V i = .int .i64 x := fun i hi => by
   obtain ⟨x, e0, _⟩ := DataW.trod_int Tryz.underlying3 (hat i hi).2
   simp at e0
   exact ⟨x, e0⟩
  refine ⟨k, some ⟨ab, ao, none⟩, len, m', (List.range len).map fun i => match V i with | .int _ z => z | _ => 0, rfl, hk, ⟨by simp, by simp; omega, fun h => (by cases h), fun x hx => ?_⟩⟩
  obtain rfl := Option.some.inj hx
  refine ⟨rfl, hblk, fun i u hu => ?_⟩
  simp only [List.map_map, List.getElem?_map, Option.map_eq_some_iff] at hu
  obtain ⟨j, hj, rfl⟩ := hu
  obtain ⟨hj1, hj2⟩ := List.getElem?_eq_some_iff.1 hj
  simp at hj1 hj2
  subst hj2
  obtain ⟨z, hz⟩ := hV i (by omega)
  have := (hat i (by omega)).1
  rw [itm_add] at this
  simp only [Function.comp, hz] at this ⊢
  exact this
end Go.Proofs.YtelkcohhagblaaaGreat
namespace Go.Proofs.YtelkcohhagblaaaGreat
open Go.RowKit Go.Shelf
set_option maxHeartbeats 8000000
set_option maxRecDepth 100000
instance : Inhabited Dub := ⟨⟨0, .slice none 0 0, []⟩⟩
theorem dubKs_get {L : List Dub} {q : Nat} (h : q < L.length) : (dubKs L).getD q (0, []) = ((L.getD q default).k, (L.getD q default).ids) := by
 unfold dubKs
 rw [List.getD_eq_getElem?_getD, List.getD_eq_getElem?_getD, List.getElem?_map, List.getElem?_eq_getElem h]
 rfl
/-- A doubt of a row. -/
theorem DubsAt.get {w : World} {base : Nat} {a : Option Addr} {n cap : Nat} {L : List Dub} (h : DubsAt w base (.slice a n cap) L) {q : Nat} (hq : q < L.length) :
 ∃ G ia m ic, a = some ⟨G, 0, none⟩ ∧ G < w.heap.size ∧ w.cell? ⟨G, q * 2, none⟩ = some (.int .u8 (L.getD q default).k) ∧ w.cell? ⟨G, q * 2 + 1, none⟩ = some (.slice ia m ic) ∧
   (L.getD q default).v = .slice ia m ic ∧ m = (L.getD q default).ids.length ∧ w.ownsRow base 3 1 (.slice ia m ic) m ((L.getD q default).ids.map (.int .i64)) := by
 have hm : L.getD q default ∈ L := by rw [List.getD_eq_getElem?_getD, List.getElem?_eq_getElem hq]; exact List.getElem_mem hq
 have ho := h.row
 have hi := h.ids _ hm
 generalize hd : L.getD q default = d at *
 obtain ⟨G, rfl⟩ : ∃ G, a = some ⟨G, 0, none⟩ := by
  obtain ⟨_, ⟨hv, h0⟩ | ⟨g, c, cur, hv, _⟩⟩ := ho
  ·omega
  ·injection hv with h1 _ _; exact ⟨g, h1⟩
 obtain rfl : n = L.length := by
  obtain ⟨_, ⟨hv, h0⟩ | ⟨g, c, cur, hv, _⟩⟩ := ho
  ·cases hv
  ·injection hv
 obtain ⟨ia, ic, hv, _⟩ := owns_slice hi
 rw [hv] at hi
 have hl := ho.1
 have g := fun j hj => flatS_get (f := fun d : Dub => [Value.int .u8 d.k, d.v]) (k := 2) (fun _ => rfl) L q j hq hj
 rw [hd] at g
 refine ⟨G, ia, _, ic, rfl, (SL.row_bounds ho G (by simp [Value.ownBlock])).2, ?_, ?_, hv, rfl, hi⟩
 ·have := ho.cellAt (q * 2) (by omega)
  rw [this]
  exact g 0 (by omega)
 ·have := ho.cellAt (q * 2 + 1) (by omega)
  rw [this, ← hv]
  exact g 1 (by omega)
theorem leither (a : Option Addr) (n cap : Nat) (l : List Itm) (day id k : Int) (da : Option Addr) (dn dc : Nat) (ids : List Int) (w : World) (h : ItmsAt w a n cap l) (hcap : l.length ≤ cap) (hi : IntsAt w da dn dc ids) (hk0 : 0 ≤ k) (hk1 : k ≤ 255) :
 Calls Tryz.prog 13 #[.slice a n cap, .int .i64 day, .int .i64 id, .agg #[.int .u8 k, .slice da dn dc]] w fun e w' => e = .returned (.bool true) ∧ Below w.heap.size w w' := by
 have hSh := fun W => lshelved W
 have hB0 := one_alloc w (Obj.cells #[.int .u8 k, .slice da dn dc] 80)
 have hD0 := World.alloc_heap_new w (Obj.cells #[.int .u8 k, .slice da dn dc] 80)
 have hFe := fun W (hb : Below w.heap.size w W) => lfew 25 a n cap l W (h.below hb) (by omega)
 have h25 : ((25 : Nat) : Int) = 25 := rfl
 rw [h25] at hFe
 generalize fewB l 25 = F at *
 cases F with
 | false =>
   go_enter Tryz.func13, Tryz.ntmps13
   go_wp2_with (first
    | (go_at_call 18; (with_reducible refine (hFe _ hB0).mono ?_); rintro e w1 ⟨rfl, hb1⟩; have hB1 := hB0.ch2 hb1; have hD1 := (hb1.block w.heap.size (by simp)).trans hD0; have c1 := (SL.cells_of hD1).1 1; simp at c1; have zD := (Array.getElem?_eq_some_iff.1 hD1).1)
    | (go_at_call 20; (with_reducible refine (hSh _).mono ?_); rintro e w3 ⟨rfl, hb3⟩))
   go_ret
   exact ⟨rfl, hB1.ch2 hb3⟩
 | true =>
   by_cases hdn : 40 < dn
   ·have e40 : (40 : Int) < (dn : Int) := by omega
    go_enter Tryz.func13, Tryz.ntmps13
    go_wp2_with (first
     | (go_at_call 18; (with_reducible refine (hFe _ hB0).mono ?_); rintro e w1 ⟨rfl, hb1⟩; have hB1 := hB0.ch2 hb1; have hD1 := (hb1.block w.heap.size (by simp)).trans hD0; have c1 := (SL.cells_of hD1).1 1; simp at c1; have zD := (Array.getElem?_eq_some_iff.1 hD1).1)
     | (go_at_call 20; (with_reducible refine (hSh _).mono ?_); rintro e w3 ⟨rfl, hb3⟩))
    go_ret
    exact ⟨rfl, hB1.ch2 hb3⟩
   ·have e40 : ¬ (40 : Int) < (dn : Int) := by omega
    have hids : ids.length ≤ 100000 := by have := hi.len; omega
    have hDo := fun W hi => sDoubts_any a n cap l day id W hi hcap
    have hW1 := fun W hi => sWay_any soutline a n cap l day id 0 1 W hi hcap
    have hT1 := fun W hi => sTurn_any soutline a n cap l day id 0 1 W hi hcap
    have hC1 := fun W hi => sColour_any a n cap l day id W hi hcap
    have hU1 := fun W hi => sCurves_any a n cap l day id W hi hcap
    unfold QuadI at hW1
    unfold TriI at hT1
    simp only [Spn.v, Spn.cs] at hC1
    unfold DubPost at hDo
    by_cases h0 : lookE l day id = 0
    ·have hlk := look_ok h0
     have hE : dubE l day id = doubtsL (countL l day) (lookS l day id) := by unfold dubE; rw [if_pos h0]
     have hCd := fun W (hW : ItmsAt W a n cap l) k' a' n' c' ids' (hi' : IntsAt W a' n' c' ids') (hl' : ids'.length ≤ 100000) (q0 : 0 ≤ k') (q1 : k' ≤ 255) => sCheckDoubt_any a n cap l day id k' a' n' c' ids' W hW hcap hi' hl' q0 q1
     have hcd : ∀ k' ids', cdB l day id k' ids' = dubB (countL l day) (lookS l day id) k' ids' := fun k' ids' => by unfold cdB; rw [decide_eq_true h0]; rfl
     simp only [hcd] at hCd
     rw [hE, h0] at hDo
     rw [h0] at hCd
     rw [err_way hlk] at hW1
     rw [err_turn hlk] at hT1
     rw [err_col hlk] at hC1
     rw [err_cur hlk] at hU1
     have hmem := fun d hd => doubts_mem hlk (d := d) hd
     obtain ⟨h1, e1, hh1, he1, hp1, ht1⟩ := kind_pair (countL l day) (lookS l day id) (j := 1) (by omega)
     obtain ⟨h2, e2, hh2, he2, hp2, ht2⟩ := kind_pair (countL l day) (lookS l day id) (j := 2) (by omega)
     obtain ⟨h3, e3, hh3, he3, hp3, ht3⟩ := kind_pair (countL l day) (lookS l day id) (j := 3) (by omega)
     obtain ⟨h4, e4, hh4, he4, hp4, ht4⟩ := kind_pair (countL l day) (lookS l day id) (j := 4) (by omega)
     have hthere : dubB (countL l day) (lookS l day id) k ids = true → (k = 1 ∧ h1 = true) ∨ (k = 2 ∧ h2 = true) ∨ (k = 3 ∧ h3 = true) ∨ (k = 4 ∧ h4 = true) := fun hB => by
      obtain ⟨q1, q2, q3⟩ := doubt_there hlk hB
      have hk : k = 1 ∨ k = 2 ∨ k = 3 ∨ k = 4 := by omega
      rcases hk with rfl | rfl | rfl | rfl
      ·exact .inl ⟨rfl, ht1 q3⟩
      ·exact .inr (.inl ⟨rfl, ht2 q3⟩)
      ·exact .inr (.inr (.inl ⟨rfl, ht3 q3⟩))
      ·exact .inr (.inr (.inr ⟨rfl, ht4 q3⟩))
     rw [show (1 : Int) + 1 = 2 from rfl] at he1
     rw [show (2 : Int) + 1 = 3 from rfl] at he2
     rw [show (3 : Int) + 1 = 4 from rfl] at he3
     rw [show (4 : Int) + 1 = 5 from rfl] at he4
     rw [he1] at hW1
     rw [he2] at hT1
     rw [he3] at hC1
     rw [he4] at hU1
     have hDl := doubts_len (countL l day) (lookS l day id)
     clear hE hcd hlk h0 he1 he2 he3 he4 ht1 ht2 ht3 ht4
     generalize hBB : dubB (countL l day) (lookS l day id) k ids = BB at *
     have HBB := Lib.hid hBB
     clear hBB
     have Hmem := Lib.hid hmem
     have Hthere := Lib.hid hthere
     have HP := Lib.hid (And.intro hp1 (And.intro hp2 (And.intro hp3 hp4)))
     have HH := Lib.hid (And.intro hh1 (And.intro hh2 (And.intro hh3 hh4)))
     clear hmem hthere hp1 hp2 hp3 hp4 hh1 hh2 hh3 hh4
     go_enter Tryz.func13, Tryz.ntmps13
     go_wp2_with (first
      | (go_at_call 18; (with_reducible refine (hFe _ hB0).mono ?_); rintro e w1 ⟨rfl, hb1⟩; have hB1 := hB0.ch2 hb1; have hD1 := (hb1.block w.heap.size (by simp)).trans hD0; have c1 := (SL.cells_of hD1).1 1; simp at c1; have zD := (Array.getElem?_eq_some_iff.1 hD1).1)
      | (go_at_call 53; (with_reducible refine (hDo _ (h.below hB1)).mono ?_); rintro e w2 ⟨v, L, rfl, hb2, hL, hLe⟩; obtain ⟨va, vc, rfl, _⟩ := owns_slice hL.row; have hB2 := hB1.ch2 hb2)
      | (go_at_call 28; (with_reducible refine (hW1 _ (h.below hB2)).mono ?_); rintro e w3 ⟨rfl, hb3⟩; have hB3 := hB2.ch2 hb3)
      | (go_at_call 30; (with_reducible refine (hT1 _ (h.below hB3)).mono ?_); rintro e w4 ⟨rfl, hb4⟩; have hB4 := hB3.ch2 hb4)
      | (go_at_call 32; (with_reducible refine (hC1 _ (h.below hB4)).mono ?_); rintro e w5 ⟨rfl, hb5⟩; have hal5 := one_alloc w5 (Obj.cells #[.int .i64 (colR l day id).lo, .int .i64 (colR l day id).hi, .int .i64 (colR l day id).lob, .int .i64 (colR l day id).hib] 43); have hB5 := (hB4.ch2 hb5).ch2 hal5)
      | (go_at_call 34; (with_reducible refine (hU1 _ (h.below hB5)).mono ?_); rintro e w6 ⟨rfl, hb6⟩; have hB6 := hB5.ch2 hb6))
     have hE7 := World.alloc_heap_new w6 (Obj.cells #[.int .i64 0, .int .i64 e1, .int .i64 e2, .int .i64 e3, .int .i64 e4] 28)
     have hB7 := hB6.ch2 (one_alloc w6 (Obj.cells #[.int .i64 0, .int .i64 e1, .int .i64 e2, .int .i64 e3, .int .i64 e4] 28))
     have hL7 := hL.up (((((hb3.ch2 hb4).ch2 hb5).ch2 hal5).ch2 hb6).ch2 (one_alloc w6 (Obj.cells #[.int .i64 0, .int .i64 e1, .int .i64 e2, .int .i64 e3, .int .i64 e4] 28)))
     have hz7 := (((((hb2.ch2 hb3).ch2 hb4).ch2 hb5).ch2 hal5).ch2 hb6).ch2 (one_alloc w6 (Obj.cells #[.int .i64 0, .int .i64 e1, .int .i64 e2, .int .i64 e3, .int .i64 e4] 28))
     have hD7 := (hz7.block w.heap.size zD).trans hD1
     have hN : w6.heap.size + 1 = (w6.alloc (Obj.cells #[.int .i64 0, .int .i64 e1, .int .i64 e2, .int .i64 e3, .int .i64 e4] 28)).heap.size := by simp
     generalize w6.alloc (Obj.cells #[.int .i64 0, .int .i64 e1, .int .i64 e2, .int .i64 e3, .int .i64 e4] 28) = w7 at *
     generalize w6.heap.size + 1 = N at *
     subst hN
     generalize w6.heap.size = EB at *
     have hlL : L.length ≤ 4 := by
      have := congrArg List.length hLe
      simp only [dubKs, List.length_map] at this
      omega
     have HLe := Lib.hid hLe
     have HL7 := Lib.hid hL7
     have HD7 := Lib.hid hD7
     have HE7 := Lib.hid hE7
     have zE := (Array.getElem?_eq_some_iff.1 hE7).1
     have zD7 := (Array.getElem?_eq_some_iff.1 hD7).1
     clear hDo hW1 hT1 hC1 hU1 hFe hL hLe hL7 hD7 hE7 hz7 hb1 hb2 hb3 hb4 hb5 hb6 hal5 hB0 hB1 hB2 hB3 hB4 hB5 hB6 hD0 hD1 zD c1 hDl
     go_loopw [24] (fun i wr => ∃ q : Nat, q ≤ L.length ∧ i = .int .i64 q ∧ Below w7.heap.size w7 wr ∧ wr.heap[w7.heap.size]? = some (.cells #[.bool false, .bool (hasD ((dubKs L).take q) 1), .bool (hasD ((dubKs L).take q) 2), .bool (hasD ((dubKs L).take q) 3), .bool (hasD ((dubKs L).take q) 4)] 91 (0, 0))) (fun i _ => L.length - (RowKit.intOf i).toNat)
     case atStart => exact ⟨0, Nat.zero_le _, rfl, one_alloc _ _, World.alloc_heap_new _ _⟩
     case round =>
     obtain ⟨q, hq, rfl, hB, hH⟩ := hrel
     have hnn : (0 : Int) ≤ q := by omega
     by_cases hlt : q < L.length
     ·have i1 : (q : Int) < (L.length : Int) := by omega
      obtain ⟨G, ia, m, ic, rfl, hG, d0, d1, hdv, hm, hid⟩ := (HL7.out.up hB).get hlt
      have hgk := dubKs_get hlt
      have hmm := Hmem.out _ (show (dubKs L).getD q (0, []) ∈ _ by rw [← HLe.out, List.getD_eq_getElem?_getD, List.getElem?_eq_getElem (by simpa [dubKs] using hlt)]; exact List.getElem_mem _)
      have Hs := Lib.hid (fun j => hasD_succ (ds := dubKs L) (i := q) (by simpa [dubKs] using hlt) j)
      rw [hgk] at hmm
      have hmd : L.getD q default ∈ L := by rw [List.getD_eq_getElem?_getD, List.getElem?_eq_getElem hlt]; exact List.getElem_mem hlt
      generalize L.getD q default = d at *
      simp only at hmm
      obtain ⟨hk4, hdb, hl3⟩ := hmm
      have hid7 := HL7.out.ids d hmd
      rw [hdv] at hid7
      subst hm
      have hii := IntsAt.of_owns hid7 (by omega)
      have hGw := (SL.row_bounds HL7.out.row G (by simp [Value.ownBlock])).2
      clear hid hid7 hdv
      rcases hk4 with e | e | e | e
      ·rw [e] at d0 hdb
       have hC := SL.Chg.setCell wr (E := [w7.heap.size]) (p := ⟨w7.heap.size, 1, none⟩) (by simp) (.bool true)
       have hst := SL.heap_set hH (.bool true) (i := 1)
       simp at hst
       have hcb := hB.trans (hC.belowE_w hB.size (by simp))
       have hcd := hCd _ (h.below (hB7.ch2 hcb)) 1 ia _ ic d.ids (hii.below hcb) (by omega) (by omega) (by omega)
       rw [hdb] at hcd
       have hk1 := (SL.cells_of hH).1 1
       have hf1 := (SL.cells_of hH).2
       have zH := (Array.getElem?_eq_some_iff.1 hH).1
       simp at hk1
       have dd0 := ((hC.cellsE_w).1 G (q * 2) hG (by simp; omega)).trans d0
       have dd1 := ((hC.cellsE_w).1 G (q * 2 + 1) hG (by simp; omega)).trans d1
       have HS := Lib.hid hst
       have HC := Lib.hid hcb
       clear hst hC hcb hCd hH hB hii
       go_wp2_with (go_at_call 55; (with_reducible refine hcd.mono ?_); rintro e w9 ⟨rfl, hb9⟩)
       go_roundw
       case rel => exact ⟨q + 1, by omega, by go_num, HC.out.ch2 hb9, by
        rw [(hb9.block w7.heap.size (by simpa using zH)).trans HS.out, Hs.out 1, Hs.out 2, Hs.out 3, Hs.out 4, hgk, e]
        simp⟩
       case measure => simp [RowKit.intOf]; omega
      ·rw [e] at d0 hdb
       have hC := SL.Chg.setCell wr (E := [w7.heap.size]) (p := ⟨w7.heap.size, 2, none⟩) (by simp) (.bool true)
       have hst := SL.heap_set hH (.bool true) (i := 2)
       simp at hst
       have hcb := hB.trans (hC.belowE_w hB.size (by simp))
       have hcd := hCd _ (h.below (hB7.ch2 hcb)) 2 ia _ ic d.ids (hii.below hcb) (by omega) (by omega) (by omega)
       rw [hdb] at hcd
       have hk1 := (SL.cells_of hH).1 2
       have hf1 := (SL.cells_of hH).2
       have zH := (Array.getElem?_eq_some_iff.1 hH).1
       simp at hk1
       have dd0 := ((hC.cellsE_w).1 G (q * 2) hG (by simp; omega)).trans d0
       have dd1 := ((hC.cellsE_w).1 G (q * 2 + 1) hG (by simp; omega)).trans d1
       have HS := Lib.hid hst
       have HC := Lib.hid hcb
       clear hst hC hcb hCd hH hB hii
       go_wp2_with (go_at_call 55; (with_reducible refine hcd.mono ?_); rintro e w9 ⟨rfl, hb9⟩)
       go_roundw
       case rel => exact ⟨q + 1, by omega, by go_num, HC.out.ch2 hb9, by
        rw [(hb9.block w7.heap.size (by simpa using zH)).trans HS.out, Hs.out 1, Hs.out 2, Hs.out 3, Hs.out 4, hgk, e]
        simp⟩
       case measure => simp [RowKit.intOf]; omega
      ·rw [e] at d0 hdb
       have hC := SL.Chg.setCell wr (E := [w7.heap.size]) (p := ⟨w7.heap.size, 3, none⟩) (by simp) (.bool true)
       have hst := SL.heap_set hH (.bool true) (i := 3)
       simp at hst
       have hcb := hB.trans (hC.belowE_w hB.size (by simp))
       have hcd := hCd _ (h.below (hB7.ch2 hcb)) 3 ia _ ic d.ids (hii.below hcb) (by omega) (by omega) (by omega)
       rw [hdb] at hcd
       have hk1 := (SL.cells_of hH).1 3
       have hf1 := (SL.cells_of hH).2
       have zH := (Array.getElem?_eq_some_iff.1 hH).1
       simp at hk1
       have dd0 := ((hC.cellsE_w).1 G (q * 2) hG (by simp; omega)).trans d0
       have dd1 := ((hC.cellsE_w).1 G (q * 2 + 1) hG (by simp; omega)).trans d1
       have HS := Lib.hid hst
       have HC := Lib.hid hcb
       clear hst hC hcb hCd hH hB hii
       go_wp2_with (go_at_call 55; (with_reducible refine hcd.mono ?_); rintro e w9 ⟨rfl, hb9⟩)
       go_roundw
       case rel => exact ⟨q + 1, by omega, by go_num, HC.out.ch2 hb9, by
        rw [(hb9.block w7.heap.size (by simpa using zH)).trans HS.out, Hs.out 1, Hs.out 2, Hs.out 3, Hs.out 4, hgk, e]
        simp⟩
       case measure => simp [RowKit.intOf]; omega
      ·rw [e] at d0 hdb
       have hC := SL.Chg.setCell wr (E := [w7.heap.size]) (p := ⟨w7.heap.size, 4, none⟩) (by simp) (.bool true)
       have hst := SL.heap_set hH (.bool true) (i := 4)
       simp at hst
       have hcb := hB.trans (hC.belowE_w hB.size (by simp))
       have hcd := hCd _ (h.below (hB7.ch2 hcb)) 4 ia _ ic d.ids (hii.below hcb) (by omega) (by omega) (by omega)
       rw [hdb] at hcd
       have hk1 := (SL.cells_of hH).1 4
       have hf1 := (SL.cells_of hH).2
       have zH := (Array.getElem?_eq_some_iff.1 hH).1
       simp at hk1
       have dd0 := ((hC.cellsE_w).1 G (q * 2) hG (by simp; omega)).trans d0
       have dd1 := ((hC.cellsE_w).1 G (q * 2 + 1) hG (by simp; omega)).trans d1
       have HS := Lib.hid hst
       have HC := Lib.hid hcb
       clear hst hC hcb hCd hH hB hii
       go_wp2_with (go_at_call 55; (with_reducible refine hcd.mono ?_); rintro e w9 ⟨rfl, hb9⟩)
       go_roundw
       case rel => exact ⟨q + 1, by omega, by go_num, HC.out.ch2 hb9, by
        rw [(hb9.block w7.heap.size (by simpa using zH)).trans HS.out, Hs.out 1, Hs.out 2, Hs.out 3, Hs.out 4, hgk, e]
        simp⟩
       case measure => simp [RowKit.intOf]; omega
     have hqe : (dubKs L).take q = dubKs L := List.take_of_length_le (by simp [dubKs]; omega)
     have hqL : (q : Int) = (L.length : Int) := by omega
     rw [hqe, HLe.out, HH.out.1, HH.out.2.1, HH.out.2.2.1, HH.out.2.2.2] at hH
     clear hqe
     have hnl : ¬ (q : Int) < (L.length : Int) := by omega
     clear hqL hlt
     go_wp2_with fail
     have hB0 := hB
     have hH0 := hH
     clear hB hH
     go_loopw [27] (fun i wr => ∃ q : Nat, 1 ≤ q ∧ q ≤ 5 ∧ i = .int .i64 q ∧ Below w7.heap.size w7 wr ∧ wr.heap[w7.heap.size]? = some (.cells #[.bool false, .bool h1, .bool h2, .bool h3, .bool h4] 91 (0, 0))) (fun i _ => 5 - (RowKit.intOf i).toNat)
     case atStart => exact ⟨1, by omega, by omega, rfl, hB0, hH0⟩
     case round =>
     clear hB0 hH0
     obtain ⟨q, hq1, hq5, hqi, hB, hH⟩ := hrel
     by_cases hqq : q = 5
     ·subst hqq
      have hqv : _ = Value.int .i64 5 := hqi
      subst hqv
      clear hqi
      have hDw := (hB.block w.heap.size zD7).trans HD7.out
      have dk0 := (SL.cells_of hDw).1 0
      have dk1 := (SL.cells_of hDw).1 1
      simp at dk0 dk1
      have zDw := (Array.getElem?_eq_some_iff.1 hDw).1
      have hg1 := (SL.cells_of hH).1 1
      have hg2 := (SL.cells_of hH).1 2
      have hg3 := (SL.cells_of hH).1 3
      have hg4 := (SL.cells_of hH).1 4
      simp at hg1 hg2 hg3 hg4
      have hBw := hB7.ch2 hB
      have hcd := hCd wr (h.below hBw) k da dn dc ids (hi.below hBw) hids hk0 hk1
      rw [HBB.out] at hcd
      have hth := Hthere.out
      have zHw := (Array.getElem?_eq_some_iff.1 hH).1
      have HH9 := Lib.hid hH
      have HD9 := Lib.hid hDw
      clear hCd hH hDw hi
      cases BB with
      | false =>
        clear hth hg1 hg2 hg3 hg4
        go_wp2_with (first
         | (go_at_call 55; (with_reducible refine hcd.mono ?_); rintro e w10 ⟨rfl, hb10⟩)
         | (go_at_call 20; (with_reducible refine (hSh _).mono ?_); rintro e w11 ⟨rfl, hb11⟩; have hbz := hb10.ch2 hb11; have hH9 := (hbz.block w7.heap.size zHw).trans HH9.out; have hD9 := (hbz.block w.heap.size zDw).trans HD9.out; have kk0 := (SL.cells_of hD9).1 0; have kk1 := (SL.cells_of hH9).1 1; have kk2 := (SL.cells_of hH9).1 2; have kk3 := (SL.cells_of hH9).1 3; have kk4 := (SL.cells_of hH9).1 4; simp at kk0 kk1 kk2 kk3 kk4; have zz9 := (Array.getElem?_eq_some_iff.1 hH9).1; have zz8 := (Array.getElem?_eq_some_iff.1 hD9).1))
        go_ret
        exact ⟨rfl, (hBw.ch2 hb10).ch2 hb11⟩
      | true =>
        rcases hth rfl with ⟨rfl, rfl⟩ | ⟨rfl, rfl⟩ | ⟨rfl, rfl⟩ | ⟨rfl, rfl⟩
        ·go_wp2_with (first
          | (go_at_call 55; (with_reducible refine hcd.mono ?_); rintro e w10 ⟨rfl, hb10⟩)
          | (go_at_call 20; (with_reducible refine (hSh _).mono ?_); rintro e w11 ⟨rfl, hb11⟩; have hbz := hb10.ch2 hb11; have hH9 := (hbz.block w7.heap.size zHw).trans HH9.out; have hD9 := (hbz.block w.heap.size zDw).trans HD9.out; have kk0 := (SL.cells_of hD9).1 0; have kk1 := (SL.cells_of hH9).1 1; have kk2 := (SL.cells_of hH9).1 2; have kk3 := (SL.cells_of hH9).1 3; have kk4 := (SL.cells_of hH9).1 4; simp at kk0 kk1 kk2 kk3 kk4; have zz9 := (Array.getElem?_eq_some_iff.1 hH9).1; have zz8 := (Array.getElem?_eq_some_iff.1 hD9).1))
         go_ret
         exact ⟨rfl, (hBw.ch2 hb10).ch2 hb11⟩
        ·go_wp2_with (first
          | (go_at_call 55; (with_reducible refine hcd.mono ?_); rintro e w10 ⟨rfl, hb10⟩)
          | (go_at_call 20; (with_reducible refine (hSh _).mono ?_); rintro e w11 ⟨rfl, hb11⟩; have hbz := hb10.ch2 hb11; have hH9 := (hbz.block w7.heap.size zHw).trans HH9.out; have hD9 := (hbz.block w.heap.size zDw).trans HD9.out; have kk0 := (SL.cells_of hD9).1 0; have kk1 := (SL.cells_of hH9).1 1; have kk2 := (SL.cells_of hH9).1 2; have kk3 := (SL.cells_of hH9).1 3; have kk4 := (SL.cells_of hH9).1 4; simp at kk0 kk1 kk2 kk3 kk4; have zz9 := (Array.getElem?_eq_some_iff.1 hH9).1; have zz8 := (Array.getElem?_eq_some_iff.1 hD9).1))
         go_ret
         exact ⟨rfl, (hBw.ch2 hb10).ch2 hb11⟩
        ·go_wp2_with (first
          | (go_at_call 55; (with_reducible refine hcd.mono ?_); rintro e w10 ⟨rfl, hb10⟩)
          | (go_at_call 20; (with_reducible refine (hSh _).mono ?_); rintro e w11 ⟨rfl, hb11⟩; have hbz := hb10.ch2 hb11; have hH9 := (hbz.block w7.heap.size zHw).trans HH9.out; have hD9 := (hbz.block w.heap.size zDw).trans HD9.out; have kk0 := (SL.cells_of hD9).1 0; have kk1 := (SL.cells_of hH9).1 1; have kk2 := (SL.cells_of hH9).1 2; have kk3 := (SL.cells_of hH9).1 3; have kk4 := (SL.cells_of hH9).1 4; simp at kk0 kk1 kk2 kk3 kk4; have zz9 := (Array.getElem?_eq_some_iff.1 hH9).1; have zz8 := (Array.getElem?_eq_some_iff.1 hD9).1))
         go_ret
         exact ⟨rfl, (hBw.ch2 hb10).ch2 hb11⟩
        ·go_wp2_with (first
          | (go_at_call 55; (with_reducible refine hcd.mono ?_); rintro e w10 ⟨rfl, hb10⟩)
          | (go_at_call 20; (with_reducible refine (hSh _).mono ?_); rintro e w11 ⟨rfl, hb11⟩; have hbz := hb10.ch2 hb11; have hH9 := (hbz.block w7.heap.size zHw).trans HH9.out; have hD9 := (hbz.block w.heap.size zDw).trans HD9.out; have kk0 := (SL.cells_of hD9).1 0; have kk1 := (SL.cells_of hH9).1 1; have kk2 := (SL.cells_of hH9).1 2; have kk3 := (SL.cells_of hH9).1 3; have kk4 := (SL.cells_of hH9).1 4; simp at kk0 kk1 kk2 kk3 kk4; have zz9 := (Array.getElem?_eq_some_iff.1 hH9).1; have zz8 := (Array.getElem?_eq_some_iff.1 hD9).1))
         go_ret
         exact ⟨rfl, (hBw.ch2 hb10).ch2 hb11⟩
     ·have hq4 : q = 1 ∨ q = 2 ∨ q = 3 ∨ q = 4 := by omega
      obtain ⟨p1, p2, p3, p4⟩ := HP.out
      have hEr := (hB.block EB zE).trans HE7.out
      have hg0 := (SL.cells_of hH).1 0
      have hg1 := (SL.cells_of hH).1 1
      have hg2 := (SL.cells_of hH).1 2
      have hg3 := (SL.cells_of hH).1 3
      have hg4 := (SL.cells_of hH).1 4
      have hr1 := (SL.cells_of hEr).1 1
      have hr2 := (SL.cells_of hEr).1 2
      have hr3 := (SL.cells_of hEr).1 3
      have hr4 := (SL.cells_of hEr).1 4
      simp at hg0 hg1 hg2 hg3 hg4 hr1 hr2 hr3 hr4
      have zH := (Array.getElem?_eq_some_iff.1 hH).1
      have zE2 := (Array.getElem?_eq_some_iff.1 hEr).1
      have HH2 := Lib.hid hH
      have HB2 := Lib.hid hB
      clear hEr hH hB hq1 hq5 hqq
      rcases hq4 with rfl | rfl | rfl | rfl
      ·clear p2 p3 p4
       rcases p1 with ⟨rfl, rfl⟩ | ⟨rfl, rfl⟩
       ·have hqv : _ = Value.int .i64 1 := hqi
        subst hqv
        clear hqi
        go_wp2_with fail
        apply SLG.rule0 ?hm1 [] [138, 139, 140, 141, 142, 143, 144, 145, 146, 147, 148, 149, 150, 151, 152, 153, 154, 155, 156, 157, 158, 159, 160] [SLF.pq 138 [] _, SLF.pq 139 [0] _, SLF.pq 140 [1] _, SLF.pq 141 [] _, SLF.pq 142 [] _, SLF.pq 143 [3, 4] _, SLF.pq 144 [5] _, SLF.pq 145 [6] _, SLF.pq 146 [2, 7] _, SLF.pq 147 [8] _, SLF.pq 148 [9] _, SLF.pq 149 [9] _, SLF.pq 150 [9, 10, 11] _, SLF.pq 151 [9, 12] _, SLF.pq 152 [9, 13] _, SLF.pq 153 [9, 14] _, SLF.pq 154 [15] _, SLF.pq 155 [15] _, SLF.pq 156 [15, 16, 17] _, SLF.pq 157 [15, 18] _, SLF.pq 158 [15, 19] _, SLF.pq 159 [9, 15, 20] _, SLF.pq 160 [9, 21] _] [22] ?hck1 ?hkp1 (fun _ => []) ?hin1 ?hdj1 ?hfr1 ?ob1 ?en1
        case hm1 => kernel_rfl
        case hin1 => exact SL.none_held rfl
        case hdj1 => simp
        case hfr1 => intro us; simp only [SL.frame, SL.put']; simp; exact rfl
        case ob1 =>
         refine ⟨?_, ?_, ?_, ?_, ?_, ?_, ?_, ?_, ?_, ?_, ?_, ?_, ?_, ?_, ?_, ?_, ?_, ?_, ?_, ?_, ?_, ?_, ?_, trivial⟩
         all_goals first
          | (intro us w' Fe hG hu hd hv Kx hK
             try dsimp only
             simp [SL.O] at hu hK
             have hB5 : Below wr.heap.size wr w' := hG.below'
             obtain ⟨hc5, hf5⟩ := bcell hB5
             have hs5 := hB5.size
             clear hv hG
             first
              | (refine SLF.wpo_do (SLF.wanted_free rfl) ?hd1 ?_; (case hd1 => intro c h; cases h))
              | (refine SLF.wpo_do (SLF.wanted_by rfl rfl ?hv1) ?hd1 ?_; (case hv1 => simp [hu]; done); (case hd1 => intro c h; cases h))
              | (refine' SLF.wpo_not (SLG.wanted_not rfl rfl ?hv1 ?hn1) ?_; (case hv1 => simp [hu]; exact rfl); (case hn1 => first | (simp; done) | (simp [undef]; done)))
             clear hd
             first
              | (go_step; exact hK _ _ _ (SL.Chg.refl _ _) (by first | exact rfl | (simp only [hu]; exact rfl)) rfl (by simp) rfl)
              | exact hK _ _ _ (SL.Chg.refl _ _) rfl rfl (by simp) rfl)
          | skip
        case hck1 => kernel_rfl
        case hkp1 => kernel_rfl
        intro us wz Fs hG hu hbd hd
        simp [SL.Used, SLF.pq] at hu
        obtain ⟨h22, _⟩ := hu
        rw [h22]
        have hBz := (hG.below' : Below wr.heap.size wr wz)
        clear hG hbd hd h22
        go_wp2_with fail
        go_roundw
        case rel => exact ⟨1 + 1, by omega, by omega, by go_num, HB2.out.ch2 hBz, (hBz.block w7.heap.size zH).trans HH2.out⟩
        case measure => simp [RowKit.intOf]
       ·have hqv : _ = Value.int .i64 1 := hqi
        subst hqv
        clear hqi
        go_wp2_with fail
        apply SLG.rule0 ?hm2 [] [138, 139, 140, 141, 142, 143, 144, 145, 146, 147, 148, 149, 150, 151, 152, 153, 154, 155, 156, 157, 158, 159, 160] [SLF.pq 138 [] _, SLF.pq 139 [0] _, SLF.pq 140 [1] _, SLF.pq 141 [] _, SLF.pq 142 [] _, SLF.pq 143 [3, 4] _, SLF.pq 144 [5] _, SLF.pq 145 [6] _, SLF.pq 146 [2, 7] _, SLF.pq 147 [8] _, SLF.pq 148 [9] _, SLF.pq 149 [9] _, SLF.pq 150 [9, 10, 11] _, SLF.pq 151 [9, 12] _, SLF.pq 152 [9, 13] _, SLF.pq 153 [9, 14] _, SLF.pq 154 [15] _, SLF.pq 155 [15] _, SLF.pq 156 [15, 16, 17] _, SLF.pq 157 [15, 18] _, SLF.pq 158 [15, 19] _, SLF.pq 159 [9, 15, 20] _, SLF.pq 160 [9, 21] _] [22] ?hck2 ?hkp2 (fun _ => []) ?hin2 ?hdj2 ?hfr2 ?ob2 ?en2
        case hm2 => kernel_rfl
        case hin2 => exact SL.none_held rfl
        case hdj2 => simp
        case hfr2 => intro us; simp only [SL.frame, SL.put']; simp; exact rfl
        case ob2 =>
         refine ⟨?_, ?_, ?_, ?_, ?_, ?_, ?_, ?_, ?_, ?_, ?_, ?_, ?_, ?_, ?_, ?_, ?_, ?_, ?_, ?_, ?_, ?_, ?_, trivial⟩
         all_goals first
          | (intro us w' Fe hG hu hd hv Kx hK
             try dsimp only
             simp [SL.O] at hu hK
             have hB5 : Below wr.heap.size wr w' := hG.below'
             obtain ⟨hc5, hf5⟩ := bcell hB5
             have hs5 := hB5.size
             clear hv hG
             first
              | (refine SLF.wpo_do (SLF.wanted_free rfl) ?hd2 ?_; (case hd2 => intro c h; cases h))
              | (refine SLF.wpo_do (SLF.wanted_by rfl rfl ?hv2) ?hd2 ?_; (case hv2 => simp [hu]; done); (case hd2 => intro c h; cases h))
              | (refine' SLF.wpo_not (SLG.wanted_not rfl rfl ?hv2 ?hn2) ?_; (case hv2 => simp [hu]; exact rfl); (case hn2 => first | (simp; done) | (simp [undef]; done)))
             clear hd
             first
              | (go_step; exact hK _ _ _ (SL.Chg.refl _ _) (by first | exact rfl | (simp only [hu]; exact rfl)) rfl (by simp) rfl)
              | exact hK _ _ _ (SL.Chg.refl _ _) rfl rfl (by simp) rfl)
          | skip
        case hck2 => kernel_rfl
        case hkp2 => kernel_rfl
        intro us wz Fs hG hu hbd hd
        simp [SL.Used, SLF.pq] at hu
        obtain ⟨h22, _⟩ := hu
        rw [h22]
        have hBz := (hG.below' : Below wr.heap.size wr wz)
        clear hG hbd hd h22
        go_wp2_with fail
        go_roundw
        case rel => exact ⟨1 + 1, by omega, by omega, by go_num, HB2.out.ch2 hBz, (hBz.block w7.heap.size zH).trans HH2.out⟩
        case measure => simp [RowKit.intOf]
      ·clear p1 p3 p4
       rcases p2 with ⟨rfl, rfl⟩ | ⟨rfl, rfl⟩
       ·have hqv : _ = Value.int .i64 2 := hqi
        subst hqv
        clear hqi
        go_wp2_with fail
        apply SLG.rule0 ?hm3 [] [138, 139, 140, 141, 142, 143, 144, 145, 146, 147, 148, 149, 150, 151, 152, 153, 154, 155, 156, 157, 158, 159, 160] [SLF.pq 138 [] _, SLF.pq 139 [0] _, SLF.pq 140 [1] _, SLF.pq 141 [] _, SLF.pq 142 [] _, SLF.pq 143 [3, 4] _, SLF.pq 144 [5] _, SLF.pq 145 [6] _, SLF.pq 146 [2, 7] _, SLF.pq 147 [8] _, SLF.pq 148 [9] _, SLF.pq 149 [9] _, SLF.pq 150 [9, 10, 11] _, SLF.pq 151 [9, 12] _, SLF.pq 152 [9, 13] _, SLF.pq 153 [9, 14] _, SLF.pq 154 [15] _, SLF.pq 155 [15] _, SLF.pq 156 [15, 16, 17] _, SLF.pq 157 [15, 18] _, SLF.pq 158 [15, 19] _, SLF.pq 159 [9, 15, 20] _, SLF.pq 160 [9, 21] _] [22] ?hck3 ?hkp3 (fun _ => []) ?hin3 ?hdj3 ?hfr3 ?ob3 ?en3
        case hm3 => kernel_rfl
        case hin3 => exact SL.none_held rfl
        case hdj3 => simp
        case hfr3 => intro us; simp only [SL.frame, SL.put']; simp; exact rfl
        case ob3 =>
         refine ⟨?_, ?_, ?_, ?_, ?_, ?_, ?_, ?_, ?_, ?_, ?_, ?_, ?_, ?_, ?_, ?_, ?_, ?_, ?_, ?_, ?_, ?_, ?_, trivial⟩
         all_goals first
          | (intro us w' Fe hG hu hd hv Kx hK
             try dsimp only
             simp [SL.O] at hu hK
             have hB5 : Below wr.heap.size wr w' := hG.below'
             obtain ⟨hc5, hf5⟩ := bcell hB5
             have hs5 := hB5.size
             clear hv hG
             first
              | (refine SLF.wpo_do (SLF.wanted_free rfl) ?hd3 ?_; (case hd3 => intro c h; cases h))
              | (refine SLF.wpo_do (SLF.wanted_by rfl rfl ?hv3) ?hd3 ?_; (case hv3 => simp [hu]; done); (case hd3 => intro c h; cases h))
              | (refine' SLF.wpo_not (SLG.wanted_not rfl rfl ?hv3 ?hn3) ?_; (case hv3 => simp [hu]; exact rfl); (case hn3 => first | (simp; done) | (simp [undef]; done)))
             clear hd
             first
              | (go_step; exact hK _ _ _ (SL.Chg.refl _ _) (by first | exact rfl | (simp only [hu]; exact rfl)) rfl (by simp) rfl)
              | exact hK _ _ _ (SL.Chg.refl _ _) rfl rfl (by simp) rfl)
          | skip
        case hck3 => kernel_rfl
        case hkp3 => kernel_rfl
        intro us wz Fs hG hu hbd hd
        simp [SL.Used, SLF.pq] at hu
        obtain ⟨h22, _⟩ := hu
        rw [h22]
        have hBz := (hG.below' : Below wr.heap.size wr wz)
        clear hG hbd hd h22
        go_wp2_with fail
        go_roundw
        case rel => exact ⟨2 + 1, by omega, by omega, by go_num, HB2.out.ch2 hBz, (hBz.block w7.heap.size zH).trans HH2.out⟩
        case measure => simp [RowKit.intOf]
       ·have hqv : _ = Value.int .i64 2 := hqi
        subst hqv
        clear hqi
        go_wp2_with fail
        apply SLG.rule0 ?hm4 [] [138, 139, 140, 141, 142, 143, 144, 145, 146, 147, 148, 149, 150, 151, 152, 153, 154, 155, 156, 157, 158, 159, 160] [SLF.pq 138 [] _, SLF.pq 139 [0] _, SLF.pq 140 [1] _, SLF.pq 141 [] _, SLF.pq 142 [] _, SLF.pq 143 [3, 4] _, SLF.pq 144 [5] _, SLF.pq 145 [6] _, SLF.pq 146 [2, 7] _, SLF.pq 147 [8] _, SLF.pq 148 [9] _, SLF.pq 149 [9] _, SLF.pq 150 [9, 10, 11] _, SLF.pq 151 [9, 12] _, SLF.pq 152 [9, 13] _, SLF.pq 153 [9, 14] _, SLF.pq 154 [15] _, SLF.pq 155 [15] _, SLF.pq 156 [15, 16, 17] _, SLF.pq 157 [15, 18] _, SLF.pq 158 [15, 19] _, SLF.pq 159 [9, 15, 20] _, SLF.pq 160 [9, 21] _] [22] ?hck4 ?hkp4 (fun _ => []) ?hin4 ?hdj4 ?hfr4 ?ob4 ?en4
        case hm4 => kernel_rfl
        case hin4 => exact SL.none_held rfl
        case hdj4 => simp
        case hfr4 => intro us; simp only [SL.frame, SL.put']; simp; exact rfl
        case ob4 =>
         refine ⟨?_, ?_, ?_, ?_, ?_, ?_, ?_, ?_, ?_, ?_, ?_, ?_, ?_, ?_, ?_, ?_, ?_, ?_, ?_, ?_, ?_, ?_, ?_, trivial⟩
         all_goals first
          | (intro us w' Fe hG hu hd hv Kx hK
             try dsimp only
             simp [SL.O] at hu hK
             have hB5 : Below wr.heap.size wr w' := hG.below'
             obtain ⟨hc5, hf5⟩ := bcell hB5
             have hs5 := hB5.size
             clear hv hG
             first
              | (refine SLF.wpo_do (SLF.wanted_free rfl) ?hd4 ?_; (case hd4 => intro c h; cases h))
              | (refine SLF.wpo_do (SLF.wanted_by rfl rfl ?hv4) ?hd4 ?_; (case hv4 => simp [hu]; done); (case hd4 => intro c h; cases h))
              | (refine' SLF.wpo_not (SLG.wanted_not rfl rfl ?hv4 ?hn4) ?_; (case hv4 => simp [hu]; exact rfl); (case hn4 => first | (simp; done) | (simp [undef]; done)))
             clear hd
             first
              | (go_step; exact hK _ _ _ (SL.Chg.refl _ _) (by first | exact rfl | (simp only [hu]; exact rfl)) rfl (by simp) rfl)
              | exact hK _ _ _ (SL.Chg.refl _ _) rfl rfl (by simp) rfl)
          | skip
        case hck4 => kernel_rfl
        case hkp4 => kernel_rfl
        intro us wz Fs hG hu hbd hd
        simp [SL.Used, SLF.pq] at hu
        obtain ⟨h22, _⟩ := hu
        rw [h22]
        have hBz := (hG.below' : Below wr.heap.size wr wz)
        clear hG hbd hd h22
        go_wp2_with fail
        go_roundw
        case rel => exact ⟨2 + 1, by omega, by omega, by go_num, HB2.out.ch2 hBz, (hBz.block w7.heap.size zH).trans HH2.out⟩
        case measure => simp [RowKit.intOf]
      ·clear p1 p2 p4
       rcases p3 with ⟨rfl, rfl⟩ | ⟨rfl, rfl⟩
       ·have hqv : _ = Value.int .i64 3 := hqi
        subst hqv
        clear hqi
        go_wp2_with fail
        apply SLG.rule0 ?hm5 [] [138, 139, 140, 141, 142, 143, 144, 145, 146, 147, 148, 149, 150, 151, 152, 153, 154, 155, 156, 157, 158, 159, 160] [SLF.pq 138 [] _, SLF.pq 139 [0] _, SLF.pq 140 [1] _, SLF.pq 141 [] _, SLF.pq 142 [] _, SLF.pq 143 [3, 4] _, SLF.pq 144 [5] _, SLF.pq 145 [6] _, SLF.pq 146 [2, 7] _, SLF.pq 147 [8] _, SLF.pq 148 [9] _, SLF.pq 149 [9] _, SLF.pq 150 [9, 10, 11] _, SLF.pq 151 [9, 12] _, SLF.pq 152 [9, 13] _, SLF.pq 153 [9, 14] _, SLF.pq 154 [15] _, SLF.pq 155 [15] _, SLF.pq 156 [15, 16, 17] _, SLF.pq 157 [15, 18] _, SLF.pq 158 [15, 19] _, SLF.pq 159 [9, 15, 20] _, SLF.pq 160 [9, 21] _] [22] ?hck5 ?hkp5 (fun _ => []) ?hin5 ?hdj5 ?hfr5 ?ob5 ?en5
        case hm5 => kernel_rfl
        case hin5 => exact SL.none_held rfl
        case hdj5 => simp
        case hfr5 => intro us; simp only [SL.frame, SL.put']; simp; exact rfl
        case ob5 =>
         refine ⟨?_, ?_, ?_, ?_, ?_, ?_, ?_, ?_, ?_, ?_, ?_, ?_, ?_, ?_, ?_, ?_, ?_, ?_, ?_, ?_, ?_, ?_, ?_, trivial⟩
         all_goals first
          | (intro us w' Fe hG hu hd hv Kx hK
             try dsimp only
             simp [SL.O] at hu hK
             have hB5 : Below wr.heap.size wr w' := hG.below'
             obtain ⟨hc5, hf5⟩ := bcell hB5
             have hs5 := hB5.size
             clear hv hG
             first
              | (refine SLF.wpo_do (SLF.wanted_free rfl) ?hd5 ?_; (case hd5 => intro c h; cases h))
              | (refine SLF.wpo_do (SLF.wanted_by rfl rfl ?hv5) ?hd5 ?_; (case hv5 => simp [hu]; done); (case hd5 => intro c h; cases h))
              | (refine' SLF.wpo_not (SLG.wanted_not rfl rfl ?hv5 ?hn5) ?_; (case hv5 => simp [hu]; exact rfl); (case hn5 => first | (simp; done) | (simp [undef]; done)))
             clear hd
             first
              | (go_step; exact hK _ _ _ (SL.Chg.refl _ _) (by first | exact rfl | (simp only [hu]; exact rfl)) rfl (by simp) rfl)
              | exact hK _ _ _ (SL.Chg.refl _ _) rfl rfl (by simp) rfl)
          | skip
        case hck5 => kernel_rfl
        case hkp5 => kernel_rfl
        intro us wz Fs hG hu hbd hd
        simp [SL.Used, SLF.pq] at hu
        obtain ⟨h22, _⟩ := hu
        rw [h22]
        have hBz := (hG.below' : Below wr.heap.size wr wz)
        clear hG hbd hd h22
        go_wp2_with fail
        go_roundw
        case rel => exact ⟨3 + 1, by omega, by omega, by go_num, HB2.out.ch2 hBz, (hBz.block w7.heap.size zH).trans HH2.out⟩
        case measure => simp [RowKit.intOf]
       ·have hqv : _ = Value.int .i64 3 := hqi
        subst hqv
        clear hqi
        go_wp2_with fail
        apply SLG.rule0 ?hm6 [] [138, 139, 140, 141, 142, 143, 144, 145, 146, 147, 148, 149, 150, 151, 152, 153, 154, 155, 156, 157, 158, 159, 160] [SLF.pq 138 [] _, SLF.pq 139 [0] _, SLF.pq 140 [1] _, SLF.pq 141 [] _, SLF.pq 142 [] _, SLF.pq 143 [3, 4] _, SLF.pq 144 [5] _, SLF.pq 145 [6] _, SLF.pq 146 [2, 7] _, SLF.pq 147 [8] _, SLF.pq 148 [9] _, SLF.pq 149 [9] _, SLF.pq 150 [9, 10, 11] _, SLF.pq 151 [9, 12] _, SLF.pq 152 [9, 13] _, SLF.pq 153 [9, 14] _, SLF.pq 154 [15] _, SLF.pq 155 [15] _, SLF.pq 156 [15, 16, 17] _, SLF.pq 157 [15, 18] _, SLF.pq 158 [15, 19] _, SLF.pq 159 [9, 15, 20] _, SLF.pq 160 [9, 21] _] [22] ?hck6 ?hkp6 (fun _ => []) ?hin6 ?hdj6 ?hfr6 ?ob6 ?en6
        case hm6 => kernel_rfl
        case hin6 => exact SL.none_held rfl
        case hdj6 => simp
        case hfr6 => intro us; simp only [SL.frame, SL.put']; simp; exact rfl
        case ob6 =>
         refine ⟨?_, ?_, ?_, ?_, ?_, ?_, ?_, ?_, ?_, ?_, ?_, ?_, ?_, ?_, ?_, ?_, ?_, ?_, ?_, ?_, ?_, ?_, ?_, trivial⟩
         all_goals first
          | (intro us w' Fe hG hu hd hv Kx hK
             try dsimp only
             simp [SL.O] at hu hK
             have hB5 : Below wr.heap.size wr w' := hG.below'
             obtain ⟨hc5, hf5⟩ := bcell hB5
             have hs5 := hB5.size
             clear hv hG
             first
              | (refine SLF.wpo_do (SLF.wanted_free rfl) ?hd6 ?_; (case hd6 => intro c h; cases h))
              | (refine SLF.wpo_do (SLF.wanted_by rfl rfl ?hv6) ?hd6 ?_; (case hv6 => simp [hu]; done); (case hd6 => intro c h; cases h))
              | (refine' SLF.wpo_not (SLG.wanted_not rfl rfl ?hv6 ?hn6) ?_; (case hv6 => simp [hu]; exact rfl); (case hn6 => first | (simp; done) | (simp [undef]; done)))
             clear hd
             first
              | (go_step; exact hK _ _ _ (SL.Chg.refl _ _) (by first | exact rfl | (simp only [hu]; exact rfl)) rfl (by simp) rfl)
              | exact hK _ _ _ (SL.Chg.refl _ _) rfl rfl (by simp) rfl)
          | skip
        case hck6 => kernel_rfl
        case hkp6 => kernel_rfl
        intro us wz Fs hG hu hbd hd
        simp [SL.Used, SLF.pq] at hu
        obtain ⟨h22, _⟩ := hu
        rw [h22]
        have hBz := (hG.below' : Below wr.heap.size wr wz)
        clear hG hbd hd h22
        go_wp2_with fail
        go_roundw
        case rel => exact ⟨3 + 1, by omega, by omega, by go_num, HB2.out.ch2 hBz, (hBz.block w7.heap.size zH).trans HH2.out⟩
        case measure => simp [RowKit.intOf]
      ·clear p1 p2 p3
       rcases p4 with ⟨rfl, rfl⟩ | ⟨rfl, rfl⟩
       ·have hqv : _ = Value.int .i64 4 := hqi
        subst hqv
        clear hqi
        go_wp2_with fail
        apply SLG.rule0 ?hm7 [] [138, 139, 140, 141, 142, 143, 144, 145, 146, 147, 148, 149, 150, 151, 152, 153, 154, 155, 156, 157, 158, 159, 160] [SLF.pq 138 [] _, SLF.pq 139 [0] _, SLF.pq 140 [1] _, SLF.pq 141 [] _, SLF.pq 142 [] _, SLF.pq 143 [3, 4] _, SLF.pq 144 [5] _, SLF.pq 145 [6] _, SLF.pq 146 [2, 7] _, SLF.pq 147 [8] _, SLF.pq 148 [9] _, SLF.pq 149 [9] _, SLF.pq 150 [9, 10, 11] _, SLF.pq 151 [9, 12] _, SLF.pq 152 [9, 13] _, SLF.pq 153 [9, 14] _, SLF.pq 154 [15] _, SLF.pq 155 [15] _, SLF.pq 156 [15, 16, 17] _, SLF.pq 157 [15, 18] _, SLF.pq 158 [15, 19] _, SLF.pq 159 [9, 15, 20] _, SLF.pq 160 [9, 21] _] [22] ?hck7 ?hkp7 (fun _ => []) ?hin7 ?hdj7 ?hfr7 ?ob7 ?en7
        case hm7 => kernel_rfl
        case hin7 => exact SL.none_held rfl
        case hdj7 => simp
        case hfr7 => intro us; simp only [SL.frame, SL.put']; simp; exact rfl
        case ob7 =>
         refine ⟨?_, ?_, ?_, ?_, ?_, ?_, ?_, ?_, ?_, ?_, ?_, ?_, ?_, ?_, ?_, ?_, ?_, ?_, ?_, ?_, ?_, ?_, ?_, trivial⟩
         all_goals first
          | (intro us w' Fe hG hu hd hv Kx hK
             try dsimp only
             simp [SL.O] at hu hK
             have hB5 : Below wr.heap.size wr w' := hG.below'
             obtain ⟨hc5, hf5⟩ := bcell hB5
             have hs5 := hB5.size
             clear hv hG
             first
              | (refine SLF.wpo_do (SLF.wanted_free rfl) ?hd7 ?_; (case hd7 => intro c h; cases h))
              | (refine SLF.wpo_do (SLF.wanted_by rfl rfl ?hv7) ?hd7 ?_; (case hv7 => simp [hu]; done); (case hd7 => intro c h; cases h))
              | (refine' SLF.wpo_not (SLG.wanted_not rfl rfl ?hv7 ?hn7) ?_; (case hv7 => simp [hu]; exact rfl); (case hn7 => first | (simp; done) | (simp [undef]; done)))
             clear hd
             first
              | (go_step; exact hK _ _ _ (SL.Chg.refl _ _) (by first | exact rfl | (simp only [hu]; exact rfl)) rfl (by simp) rfl)
              | exact hK _ _ _ (SL.Chg.refl _ _) rfl rfl (by simp) rfl)
          | skip
        case hck7 => kernel_rfl
        case hkp7 => kernel_rfl
        intro us wz Fs hG hu hbd hd
        simp [SL.Used, SLF.pq] at hu
        obtain ⟨h22, _⟩ := hu
        rw [h22]
        have hBz := (hG.below' : Below wr.heap.size wr wz)
        clear hG hbd hd h22
        go_wp2_with fail
        go_roundw
        case rel => exact ⟨4 + 1, by omega, by omega, by go_num, HB2.out.ch2 hBz, (hBz.block w7.heap.size zH).trans HH2.out⟩
        case measure => simp [RowKit.intOf]
       ·have hqv : _ = Value.int .i64 4 := hqi
        subst hqv
        clear hqi
        go_wp2_with fail
        apply SLG.rule0 ?hm8 [] [138, 139, 140, 141, 142, 143, 144, 145, 146, 147, 148, 149, 150, 151, 152, 153, 154, 155, 156, 157, 158, 159, 160] [SLF.pq 138 [] _, SLF.pq 139 [0] _, SLF.pq 140 [1] _, SLF.pq 141 [] _, SLF.pq 142 [] _, SLF.pq 143 [3, 4] _, SLF.pq 144 [5] _, SLF.pq 145 [6] _, SLF.pq 146 [2, 7] _, SLF.pq 147 [8] _, SLF.pq 148 [9] _, SLF.pq 149 [9] _, SLF.pq 150 [9, 10, 11] _, SLF.pq 151 [9, 12] _, SLF.pq 152 [9, 13] _, SLF.pq 153 [9, 14] _, SLF.pq 154 [15] _, SLF.pq 155 [15] _, SLF.pq 156 [15, 16, 17] _, SLF.pq 157 [15, 18] _, SLF.pq 158 [15, 19] _, SLF.pq 159 [9, 15, 20] _, SLF.pq 160 [9, 21] _] [22] ?hck8 ?hkp8 (fun _ => []) ?hin8 ?hdj8 ?hfr8 ?ob8 ?en8
        case hm8 => kernel_rfl
        case hin8 => exact SL.none_held rfl
        case hdj8 => simp
        case hfr8 => intro us; simp only [SL.frame, SL.put']; simp; exact rfl
        case ob8 =>
         refine ⟨?_, ?_, ?_, ?_, ?_, ?_, ?_, ?_, ?_, ?_, ?_, ?_, ?_, ?_, ?_, ?_, ?_, ?_, ?_, ?_, ?_, ?_, ?_, trivial⟩
         all_goals first
          | (intro us w' Fe hG hu hd hv Kx hK
             try dsimp only
             simp [SL.O] at hu hK
             have hB5 : Below wr.heap.size wr w' := hG.below'
             obtain ⟨hc5, hf5⟩ := bcell hB5
             have hs5 := hB5.size
             clear hv hG
             first
              | (refine SLF.wpo_do (SLF.wanted_free rfl) ?hd8 ?_; (case hd8 => intro c h; cases h))
              | (refine SLF.wpo_do (SLF.wanted_by rfl rfl ?hv8) ?hd8 ?_; (case hv8 => simp [hu]; done); (case hd8 => intro c h; cases h))
              | (refine' SLF.wpo_not (SLG.wanted_not rfl rfl ?hv8 ?hn8) ?_; (case hv8 => simp [hu]; exact rfl); (case hn8 => first | (simp; done) | (simp [undef]; done)))
             clear hd
             first
              | (go_step; exact hK _ _ _ (SL.Chg.refl _ _) (by first | exact rfl | (simp only [hu]; exact rfl)) rfl (by simp) rfl)
              | exact hK _ _ _ (SL.Chg.refl _ _) rfl rfl (by simp) rfl)
          | skip
        case hck8 => kernel_rfl
        case hkp8 => kernel_rfl
        intro us wz Fs hG hu hbd hd
        simp [SL.Used, SLF.pq] at hu
        obtain ⟨h22, _⟩ := hu
        rw [h22]
        have hBz := (hG.below' : Below wr.heap.size wr wz)
        clear hG hbd hd h22
        go_wp2_with fail
        go_roundw
        case rel => exact ⟨4 + 1, by omega, by omega, by go_num, HB2.out.ch2 hBz, (hBz.block w7.heap.size zH).trans HH2.out⟩
        case measure => simp [RowKit.intOf]
    ·have hE : dubE l day id = [] := by unfold dubE; rw [if_neg h0]
     rw [hE] at hDo
     generalize lookE l day id = E at *
     have e2 : (E != 0) = true := by simpa using h0
     go_enter Tryz.func13, Tryz.ntmps13
     go_wp2_with (first
      | (go_at_call 18; (with_reducible refine (hFe _ hB0).mono ?_); rintro e w1 ⟨rfl, hb1⟩; have hB1 := hB0.ch2 hb1; have hD1 := (hb1.block w.heap.size (by simp)).trans hD0; have c1 := (SL.cells_of hD1).1 1; simp at c1; have zD := (Array.getElem?_eq_some_iff.1 hD1).1)
      | (go_at_call 53; (with_reducible refine (hDo _ (h.below hB1)).mono ?_); rintro e w2 ⟨v, L, rfl, hb2, hL, hLe⟩; have hL0 : L = [] := (by simpa [dubKs] using hLe); subst hL0; obtain ⟨va, vc, rfl, _⟩ := owns_slice hL.row; have hB2 := hB1.ch2 hb2)
      | (go_at_call 20; (with_reducible refine (hSh _).mono ?_); rintro e w3 ⟨rfl, hb3⟩))
     go_ret
     exact ⟨rfl, hB2.ch2 hb3⟩
end Go.Proofs.YtelkcohhagblaaaGreat
namespace Go.Proofs.YtelkcohhagblaaaGreat
open Go.ChangeShapes Go.WideShapes Go.ChangeAt Go.RowKit Go.Joins Go.Deep
set_option maxRecDepth 100000 in
theorem sherdEither_lifted (os : Os) (started : os.Started) (H : Type) (enc : TypeId × Value → H) :
 ReturnsInHanded {} Tryz.checked os 13 .any (Rows.sherdEitherSpec.pre6 enc Tryz.prog Tryz.f13 Rows.sherdEitherRow.domain false) (Rows.sherdEitherSpec.post enc Tryz.prog Tryz.f13 false true false false) := by
 refine returnsInHanded_of_change_sized (C := Tryz.checked) Tryz.own started (by kernel_rfl) Tryz.func13
  (ChangeSpec.witness6 (enc := enc) (C := Tryz.checked) false ⟨#[], #[.slice none 0 0, .int .i64 0, .int .i64 0, .agg #[.int .u8 0, .slice none 0 0]], []⟩ 8 (by kernel_rfl) (by kernel_rfl) (by kernel_rfl) (by kernel_rfl)) ?_
 intro W base args ds gs before hval0 hW _ hsz0 _
 have hsz : (DataW.weightsEach Tryz.prog (Tryz.f13.params.toList ++ Rows.sherdEitherSpec.plain.varTypes Tryz.prog) (ds ++ gs)).all (· ≤ reachBytes) = true := hsz0
 clear hsz0
 have hval : ∀ (j : Nat) t v, Tryz.f13.params[j]? = some t → args[j]? = some v → Value.okWide Tryz.prog W .any base t v := hval0
 have hW' := hW
 obtain ⟨p, q, hA0, hV, rfl, _, _⟩ := hW
 have hA : DataW.TrodAll enc Tryz.prog W 0 (fun _ => true) true Tryz.f13.params.toList args.toList ds p := hA0
 rw [Tryz.params13] at hA hval hsz
 obtain ⟨v0, vs0, d0, ds0, p0, q0, hargs, rfl, rfl, h0, r0⟩ := trodAll_cons hA
 obtain ⟨v1, vs1, d1, ds1, p1, q1, rfl, rfl, rfl, h1, r1⟩ := trodAll_cons r0
 obtain ⟨v2, vs2, d2, ds2, p2, q2, rfl, rfl, rfl, h2, r2⟩ := trodAll_cons r1
 obtain ⟨v3, vs3, d3, ds3, p3, q3, rfl, rfl, rfl, h3, r3⟩ := trodAll_cons r2
 obtain ⟨rfl, rfl, rfl⟩ := trodAll_nil r3
 obtain rfl : args = #[v0, v1, v2, v3] := by cases args; simp_all
 obtain ⟨rfl, rfl⟩ := trodVars_none hV
 clear hA0 hval0
 have hlt : ∀ x ∈ p0 ++ p1 ++ p2 ++ p3, x.block < W.heap.size := fun x hx => by have := hW'.lt x (by simpa using hx); simpa using this
 obtain ⟨a0, n0, k0, xs0, rfl, hb0, hn0⟩ := items_open (hval 0 22 v0 rfl rfl) h0 (fun n hn => by
  have := List.all_eq_true.1 hsz _ (DataW.weights_mem_each (j := 0) rfl rfl n hn)
  simpa using this)
 obtain ⟨x1, rfl⟩ := okWide_int Tryz.underlying3 (hval 1 3 v1 rfl rfl)
 obtain ⟨x2, rfl⟩ := okWide_int Tryz.underlying3 (hval 2 3 v2 rfl rfl)
 obtain ⟨u3, a3, n3, k3, xs3, rfl, hu3, hb3⟩ := doubt_open (hval 3 80 v3 rfl rfl) h3 (fun n hn => by
  have := List.all_eq_true.1 hsz _ (DataW.weights_mem_each (j := 3) rfl rfl n hn)
  simpa using this)
 refine (leither a0 n0 k0 xs0 x1 x2 u3 a3 n3 k3 xs3 W hb0 hn0 hb3 hu3.1 hu3.2).mono fun e W' ⟨he, hw⟩ => ?_
 subst he
 exact ⟨_, rfl, ⟨_, _, _, [], _, [], hW', trodAll_mk1 (shut_bool Tryz.underlying4 _), (trodAll_cons_mk (Below.trod Tryz.laidOut (by kernel_rfl) (of_decide_eq_true (by kernel_rfl)) h0 hw (fun x hx => hlt x (by simp [hx]))) (trodAll_cons_mk (Below.trod Tryz.laidOut (by kernel_rfl) (of_decide_eq_true (by kernel_rfl)) h1 hw (fun x hx => hlt x (by simp [hx]))) (trodAll_cons_mk (Below.trod Tryz.laidOut (by kernel_rfl) (of_decide_eq_true (by kernel_rfl)) h2 hw (fun x hx => hlt x (by simp [hx]))) (trodAll_cons_mk (Below.trod Tryz.laidOut (by kernel_rfl) (of_decide_eq_true (by kernel_rfl)) h3 hw (fun x hx => hlt x (by simp [hx]))) trodAll_mk0)))), rfl, hw.frame _, fun h => by cases h⟩⟩
set_option maxRecDepth 100000 in
set_option maxHeartbeats 8000000 in
theorem sherdEither_closed : joinedFacts Tryz.prog 13 Tryz.f13 Rows.sherdEitherSpec Rows.sherdEitherRow = true := by
 unfold joinedFacts
 repeat' (with_reducible refine (Bool.and_eq_true _ _).mpr ⟨?_, ?_⟩)
 all_goals as_aux_lemma => kernel_rfl
theorem sherdEither_holds : Rows.SherdEitherSaid :=
 OpenClaim.holds_of_wide 13 Tryz.f13 rfl rfl rfl rfl rfl rfl rfl ⟨rfl, rfl, rfl, rfl, rfl⟩ rfl rfl rfl rfl rfl (by kernel_rfl) Tryz.func13 sherdEither_closed
  (of_decide_eq_true (by kernel_rfl)) (by unfold Func.isWrapper; rw [if_neg (of_decide_eq_false (by kernel_rfl))]; exact ⟨rfl, rfl⟩)
  (fun os started H enc _ => sherdEither_lifted os started H enc)
#print axioms sherdEither_holds
end Go.Proofs.YtelkcohhagblaaaGreat
