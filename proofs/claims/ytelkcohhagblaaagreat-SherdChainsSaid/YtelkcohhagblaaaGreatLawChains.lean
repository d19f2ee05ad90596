/-
  The law Chains, walked, and its statement.
-/
import Derived.Test.YtelkcohhagblaaaGreatSb02
import Derived.Test.YtelkcohhagblaaaGreatSb07
import Derived.Test.YtelkcohhagblaaaGreatSb08
import Derived.Test.YtelkcohhagblaaaGreatSb24
import Derived.Test.YtelkcohhagblaaaGreatSb26
import Derived.Test.YtelkcohhagblaaaGreatChecked
import Derived.ProofKit
import Derived.SizedLaws
import Derived.Lib.SmallJoins
import Derived.Deep.Slices
import Derived.Deep.Fields
import Derived.OpenShut
import Derived.Test.YtelkcohhagblaaaGreatSb44
import Derived.Test.YtelkcohhagblaaaGreatRows
set_option linter.unusedSimpArgs false
set_option linter.unusedVariables false
set_option linter.unnecessarySimpa false
namespace Go.Proofs.YtelkcohhagblaaaGreat
open Go.RowKit
theorem BdsAt.nilAt (w : World) : BdsAt w none 0 0 [] := ⟨rfl, by simp, fun _ => ⟨rfl, rfl⟩, fun x h => by cases h⟩

theorem RowAt.nilAt (w : World) : RowAt w none 0 [] := ⟨fun _ => ⟨rfl, rfl⟩, fun x h => by cases h⟩

theorem IntsAt.nilAt (w : World) : IntsAt w none 0 0 [] := ⟨rfl, by simp, RowAt.nilAt w⟩

end Go.Proofs.YtelkcohhagblaaaGreat
namespace Go.Proofs.YtelkcohhagblaaaGreat
open Go Go.RowKit
theorem ItmsAt.nilAt (w : World) : ItmsAt w none 0 0 [] := ⟨rfl, by simp, RowAt.nilAt w, fun x hx => by cases hx⟩
end Go.Proofs.YtelkcohhagblaaaGreat
namespace Go.Proofs.YtelkcohhagblaaaGreat
open Go.RowKit Go.Shelf
set_option maxHeartbeats 4000000
set_option maxRecDepth 100000
def Cs.ask (c : Cs) (l : List Int) : Int := askE_w c.ware.data.toList c.lim c.byr c.ps l
end Go.Proofs.YtelkcohhagblaaaGreat
namespace Go.Proofs.YtelkcohhagblaaaGreat
set_option maxRecDepth 100000
def T3 : List Bd := [⟨0, 1, 5, 7⟩, ⟨1, 0, -2, 8⟩, ⟨1, 2, 4, 9⟩, ⟨2, 1, -4, 9⟩]
end Go.Proofs.YtelkcohhagblaaaGreat
namespace Go.Proofs.YtelkcohhagblaaaGreat
open Go
theorem way_ok {l : List Itm} {day id fr tw : Int} (h : wayE l day id fr tw = 0) : WayOk l day id fr tw := by
  unfold wayE at h
  split at h
  · rename_i h0
    split at h
    · rename_i h1
      split at h
      · rename_i h2
        exact ⟨look_ok h0, h1.1, h1.2.1, h1.2.2, h2⟩
      · omega
    · omega
  · contradiction
theorem WayOk.ask {l : List Itm} {day id fr tw : Int} (h : WayOk l day id fr tw) : askE (wayP l day id) (wayB l day id) fr tw = 0 ∧ askE (wayP l day id) (wayB l day id) tw fr = 0 := by
  obtain ⟨h0, h1, h2, h3, h4⟩ := h
  have hp : wayP l day id = (lookS l day id).co + 1 := rfl
  exact ⟨askE_in h0.ways h4 (by omega) (by omega) (by omega) (by omega), askE_in h0.ways h4 (by omega) (by omega) (by omega) (by omega)⟩
theorem wayK_iff {l : List Itm} {day id fr tw : Int} : wayK l day id fr tw = true ↔ WayOk l day id fr tw ∧ gD (wayP l day id) (wayB l day id) fr tw < FAR := by
  unfold wayK
  rw [Bool.and_eq_true, decide_eq_true_eq]
  constructor
  · rintro ⟨h1, h2⟩
    have hw := way_ok h1
    refine ⟨hw, ?_⟩
    unfold grB at h2
    simp only [decide_eq_true_eq] at h2
    have hp : wayP l day id = (lookS l day id).co + 1 := rfl
    have := (gD_range (Sys.of_chk hw.look.ways) (x := fr) (y := tw) hw.pf (by have := hw.pl; have := hw.pt; omega) (by have := hw.pf; have := hw.pl; omega) (by have := hw.pt; omega)).2
    omega
  · rintro ⟨hw, h2⟩
    refine ⟨WayOk.e (lookE_of hw.look) hw.pf hw.pl hw.pt hw.ok, ?_⟩
    unfold grB
    simp only [decide_eq_true_eq]
    exact ⟨hw.ask.1, by omega⟩
theorem way_vals {l : List Itm} {day id fr tw : Int} (h : wayK l day id fr tw = true) : wayHi l day id fr tw = gD (wayP l day id) (wayB l day id) fr tw ∧ wayLo l day id fr tw = - gD (wayP l day id) (wayB l day id) tw fr := by
  obtain ⟨hw, h2⟩ := wayK_iff.1 h
  have h3 := hw.back
  unfold wayHi wayLo
  rw [if_pos h, if_pos h]
  unfold grN
  rw [if_pos ⟨hw.ask.1, by omega⟩, if_pos ⟨hw.ask.2, by omega⟩]
  exact ⟨rfl, rfl⟩
/-- A way by way of a corner. -/
theorem way_chain {l : List Itm} {day id a b c : Int} (h1 : wayK l day id a b = true) (h2 : wayK l day id b c = true) :
    wayE l day id a c = 0 ∧ wayK l day id a c = true ∧ wayLo l day id a b + wayLo l day id b c ≤ wayLo l day id a c ∧ wayHi l day id a c ≤ wayHi l day id a b + wayHi l day id b c := by
  obtain ⟨w1, f1⟩ := wayK_iff.1 h1
  obtain ⟨w2, f2⟩ := wayK_iff.1 h2
  have hp : wayP l day id = (lookS l day id).co + 1 := rfl
  have hE := WayOk.e (lookE_of w1.look) w1.pf (show a < c by have := w1.pl; have := w2.pl; omega) w2.pt w1.ok
  have w3 := way_ok hE
  obtain ⟨k1, k2, k3, k4, k5, k6, k7⟩ := (⟨w1.pf, w1.pl, w1.pt, w2.pf, w2.pl, w2.pt, hp⟩ : _ ∧ _ ∧ _ ∧ _ ∧ _ ∧ _ ∧ _)
  have t1 := gD_tri w1.look.ways w1.ok (a := a) (b := b) (c := c) (by omega) (by omega) (by omega) (by omega) (by omega) (by omega) f1 f2
  have t2 := gD_tri w1.look.ways w1.ok (a := c) (b := b) (c := a) (by omega) (by omega) (by omega) (by omega) (by omega) (by omega) w2.back w1.back
  have h3 : wayK l day id a c = true := wayK_iff.2 ⟨w3, t1.1⟩
  obtain ⟨v1, v2⟩ := way_vals h1
  obtain ⟨v3, v4⟩ := way_vals h2
  obtain ⟨v5, v6⟩ := way_vals h3
  exact ⟨hE, h3, by omega, by omega⟩
theorem turn_ok {l : List Itm} {day id fr tw : Int} (h : turnE l day id fr tw = 0) : TurnOk l day id fr tw := by
  unfold turnE at h
  split at h
  · rename_i h0
    split at h
    · rename_i h1
      split at h
      · rename_i h2
        exact ⟨look_ok h0, h1.1, h1.2.1, h1.2.2, h2⟩
      · omega
    · omega
  · contradiction
theorem turn_vals {l : List Itm} {day id fr tw : Int} (h : turnE l day id fr tw = 0) : turnHi l day id fr tw = gD (turnP l day id) (turnB l day id) fr tw ∧ turnLo l day id fr tw = - gD (turnP l day id) (turnB l day id) tw fr := by
  have hw := turn_ok h
  have h3 := hw.far
  have hp : turnP l day id = (lookS l day id).co := rfl
  have h1 := hw.pf
  have h2 := hw.pl
  have h4 := hw.pt
  have a1 := askE_in hw.look.turns hw.ok (x := fr) (y := tw) (by omega) (by omega) (by omega) (by omega)
  have a2 := askE_in hw.look.turns hw.ok (x := tw) (y := fr) (by omega) (by omega) (by omega) (by omega)
  unfold turnHi turnLo
  rw [if_pos h, if_pos h]
  unfold grN
  rw [if_pos ⟨a1, by omega⟩, if_pos ⟨a2, by omega⟩]
  exact ⟨rfl, rfl⟩
theorem turn_chain {l : List Itm} {day id a b c : Int} (h1 : turnE l day id a b = 0) (h2 : turnE l day id b c = 0) :
    turnE l day id a c = 0 ∧ turnLo l day id a b + turnLo l day id b c ≤ turnLo l day id a c ∧ turnHi l day id a c ≤ turnHi l day id a b + turnHi l day id b c := by
  have w1 := turn_ok h1
  have w2 := turn_ok h2
  have hE := (⟨w1.look, w1.pf, by have := w1.pl; have := w2.pl; omega, w2.pt, w1.ok⟩ : TurnOk l day id a c).e
  have w3 := turn_ok hE
  have hp : turnP l day id = (lookS l day id).co := rfl
  obtain ⟨k1, k2, k3, k4, k5, k6, k7⟩ := (⟨w1.pf, w1.pl, w1.pt, w2.pf, w2.pl, w2.pt, hp⟩ : _ ∧ _ ∧ _ ∧ _ ∧ _ ∧ _ ∧ _)
  have t1 := gD_tri w1.look.turns w1.ok (a := a) (b := b) (c := c) (by omega) (by omega) (by omega) (by omega) (by omega) (by omega) w1.far.2 w2.far.2
  have t2 := gD_tri w1.look.turns w1.ok (a := c) (b := b) (c := a) (by omega) (by omega) (by omega) (by omega) (by omega) (by omega) w2.far.1 w1.far.1
  obtain ⟨v1, v2⟩ := turn_vals h1
  obtain ⟨v3, v4⟩ := turn_vals h2
  obtain ⟨v5, v6⟩ := turn_vals hE
  exact ⟨hE, by omega, by omega⟩
end Go.Proofs.YtelkcohhagblaaaGreat
namespace Go.Proofs.YtelkcohhagblaaaGreat
open Go.ChangeShapes Go.WideShapes Go.ChangeAt Go.RowKit Go.Joins Go.Deep
set_option maxRecDepth 100000
set_option maxHeartbeats 2000000
theorem Tryz.own : ownKnob Tryz.prog.godebug = none := by kernel_rfl
theorem Tryz.laidOut : laidOutB Tryz.prog = true := by kernel_rfl
theorem Tryz.cI : Tryz.prog.cellsOf 3 = 1 := by kernel_rfl
theorem Tryz.cU : Tryz.prog.cellsOf 5 = 1 := by kernel_rfl
theorem Tryz.cS : Tryz.prog.cellsOf 9 = 1 := by kernel_rfl
theorem Tryz.cB : Tryz.prog.cellsOf 4 = 1 := by kernel_rfl
theorem Tryz.cItem : Tryz.prog.cellsOf 24 = 16 := by kernel_rfl
theorem Tryz.bItem : Tryz.prog.bytesOf 24 = 144 := by kernel_rfl
theorem itm_add {b o : Nat} (k : Nat) : (⟨b, o, none⟩ : Addr).add k = ⟨b, o + k, none⟩ := by
  unfold Addr.add
  split
  · rename_i h; subst h; simp
  · rfl
theorem itm_where {W : World} {base : Nat} {t e : TypeId} {a : Addr} {n cap : Nat} (ht : Tryz.prog.underlying t = some (.slice e)) (hv : Value.okWide Tryz.prog W .any base t (.slice (some a) n cap)) : a.spot = none ∧ a.block < W.heap.size := by
  simp only [Value.okWide, ht, Cell.okWide, Cell.ok] at hv
  obtain ⟨_, _, _, hsp, row, cells, hsh, _⟩ := hv
  refine ⟨hsp, ?_⟩
  simp only [World.shape?] at hsh
  by_cases hlt : a.block < W.heap.size
  · exact hlt
  · rw [Array.getElem?_eq_none (by omega)] at hsh
    simp at hsh
theorem itm_slice {W : World} {base : Nat} {t e : TypeId} {v : Value} (ht : Tryz.prog.underlying t = some (.slice e)) (hv : Value.okWide Tryz.prog W .any base t v) : ∃ a n cap, v = .slice a n cap := by
  simp only [Value.okWide, ht, Cell.okWide, Cell.ok] at hv
  cases v <;> simp at hv
  exact ⟨_, _, _, rfl⟩
theorem u8_in {x : Int} (h : (Lit.int .u8 x).wf = true) : 0 ≤ x ∧ x ≤ 255 := by
  have h1 : IntKind.u8.min = 0 := by decide
  have h2 : IntKind.u8.max = 255 := by decide
  have h3 : (decide (IntKind.u8.min ≤ x) && decide (x ≤ IntKind.u8.max)) = true := h
  rw [h1, h2] at h3
  simpa using h3
section
variable {H : Type} {enc : TypeId × Value → H} {w : World} {base : Nat}
theorem int_cw {t : TypeId} {k : IntKind} {n i : Nat} {v : Value} {xs : List (DataW H × List MemPlace)} (ht : Tryz.prog.underlying t = some (.int k)) (h : DataW.trod enc Tryz.prog w base (fun _ => true) true n t [v] = xs[i]?) (hi : i < xs.length) : ∃ x, v = .int k x ∧ (Lit.int k x).wf = true := by
  rw [List.getElem?_eq_getElem hi] at h
  obtain ⟨x, e0, _, e2⟩ := DataW.trod_int ht h
  simp at e0
  exact ⟨x, e0, e2⟩
theorem str_cw {t : TypeId} {n i : Nat} {v : Value} {xs : List (DataW H × List MemPlace)} (ht : Tryz.prog.underlying t = some .string) (h : DataW.trod enc Tryz.prog w base (fun _ => true) true n t [v] = xs[i]?) (hi : i < xs.length) : ∃ x : ByteArray, v = .string x ∧ x.size ≤ maxLen := by
  rw [List.getElem?_eq_getElem hi] at h
  obtain ⟨x, e0, _, e2⟩ := DataW.trod_string ht h
  simp at e0
  exact ⟨x, e0, e2⟩
theorem bool_cw {t : TypeId} {n i : Nat} {v : Value} {xs : List (DataW H × List MemPlace)} (ht : Tryz.prog.underlying t = some .bool) (h : DataW.trod enc Tryz.prog w base (fun _ => true) true n t [v] = xs[i]?) (hi : i < xs.length) : ∃ x, v = .bool x := by
  rw [List.getElem?_eq_getElem hi] at h
  obtain ⟨x, e0, _⟩ := DataW.trod_bool ht h
  simp at e0
  exact ⟨x, e0⟩
theorem list16 {l : List Value} (h : l.length = 16) : ∃ c0 c1 c2 c3 c4 c5 c6 c7 c8 c9 c10 c11 c12 c13 c14 c15, l = [c0, c1, c2, c3, c4, c5, c6, c7, c8, c9, c10, c11, c12, c13, c14, c15] := by
  match l, h with
  | [c0, c1, c2, c3, c4, c5, c6, c7, c8, c9, c10, c11, c12, c13, c14, c15], _ => exact ⟨c0, c1, c2, c3, c4, c5, c6, c7, c8, c9, c10, c11, c12, c13, c14, c15, rfl⟩
/-- An item in its cells. -/
theorem item_cells {n : Nat} {cs : List Value} {y : DataW H × List MemPlace} (h : DataW.trod enc Tryz.prog w base (fun _ => true) true n 24 cs = some y) : ∃ x : Itm, cs = x.cs ∧ x.Wide := by
  obtain ⟨xs, m, rfl, rfl, hl, hxl, hf⟩ := DataW.trod_struct Tryz.underlying24 h
  rw [Tryz.cItem] at hl
  obtain ⟨c0, c1, c2, c3, c4, c5, c6, c7, c8, c9, c10, c11, c12, c13, c14, c15, rfl⟩ := list16 hl
  have hx : xs.length = 16 := hxl
  have f0 : DataW.trod enc Tryz.prog w base (fun _ => true) true m 3 [c0] = xs[0]? := by have := hf 0 _ rfl; simpa [Tryz.cI] using this
  have f1 : DataW.trod enc Tryz.prog w base (fun _ => true) true m 3 [c1] = xs[1]? := by have := hf 1 _ rfl; simpa [Tryz.cI] using this
  have f2 : DataW.trod enc Tryz.prog w base (fun _ => true) true m 5 [c2] = xs[2]? := by have := hf 2 _ rfl; simpa [Tryz.cU] using this
  have f3 : DataW.trod enc Tryz.prog w base (fun _ => true) true m 9 [c3] = xs[3]? := by have := hf 3 _ rfl; simpa [Tryz.cS] using this
  have f4 : DataW.trod enc Tryz.prog w base (fun _ => true) true m 3 [c4] = xs[4]? := by have := hf 4 _ rfl; simpa [Tryz.cI] using this
  have f5 : DataW.trod enc Tryz.prog w base (fun _ => true) true m 3 [c5] = xs[5]? := by have := hf 5 _ rfl; simpa [Tryz.cI] using this
  have f6 : DataW.trod enc Tryz.prog w base (fun _ => true) true m 3 [c6] = xs[6]? := by have := hf 6 _ rfl; simpa [Tryz.cI] using this
  have f7 : DataW.trod enc Tryz.prog w base (fun _ => true) true m 4 [c7] = xs[7]? := by have := hf 7 _ rfl; simpa [Tryz.cB] using this
  have f8 : DataW.trod enc Tryz.prog w base (fun _ => true) true m 3 [c8] = xs[8]? := by have := hf 8 _ rfl; simpa [Tryz.cI] using this
  have f9 : DataW.trod enc Tryz.prog w base (fun _ => true) true m 3 [c9] = xs[9]? := by have := hf 9 _ rfl; simpa [Tryz.cI] using this
  have f10 : DataW.trod enc Tryz.prog w base (fun _ => true) true m 3 [c10] = xs[10]? := by have := hf 10 _ rfl; simpa [Tryz.cI] using this
  have f11 : DataW.trod enc Tryz.prog w base (fun _ => true) true m 3 [c11] = xs[11]? := by have := hf 11 _ rfl; simpa [Tryz.cI] using this
  have f12 : DataW.trod enc Tryz.prog w base (fun _ => true) true m 3 [c12] = xs[12]? := by have := hf 12 _ rfl; simpa [Tryz.cI] using this
  have f13 : DataW.trod enc Tryz.prog w base (fun _ => true) true m 9 [c13] = xs[13]? := by have := hf 13 _ rfl; simpa [Tryz.cS] using this
  have f14 : DataW.trod enc Tryz.prog w base (fun _ => true) true m 3 [c14] = xs[14]? := by have := hf 14 _ rfl; simpa [Tryz.cI] using this
  have f15 : DataW.trod enc Tryz.prog w base (fun _ => true) true m 3 [c15] = xs[15]? := by have := hf 15 _ rfl; simpa [Tryz.cI] using this
  obtain ⟨x0, rfl, e0⟩ := int_cw Tryz.underlying3 f0 (by omega)
  obtain ⟨x1, rfl, e1⟩ := int_cw Tryz.underlying3 f1 (by omega)
  obtain ⟨x2, rfl, e2⟩ := int_cw Tryz.underlying5 f2 (by omega)
  obtain ⟨x3, rfl, e3⟩ := str_cw Tryz.underlying9 f3 (by omega)
  obtain ⟨x4, rfl, e4⟩ := int_cw Tryz.underlying3 f4 (by omega)
  obtain ⟨x5, rfl, e5⟩ := int_cw Tryz.underlying3 f5 (by omega)
  obtain ⟨x6, rfl, e6⟩ := int_cw Tryz.underlying3 f6 (by omega)
  obtain ⟨x7, rfl⟩ := bool_cw Tryz.underlying4 f7 (by omega)
  obtain ⟨x8, rfl, e8⟩ := int_cw Tryz.underlying3 f8 (by omega)
  obtain ⟨x9, rfl, e9⟩ := int_cw Tryz.underlying3 f9 (by omega)
  obtain ⟨x10, rfl, e10⟩ := int_cw Tryz.underlying3 f10 (by omega)
  obtain ⟨x11, rfl, e11⟩ := int_cw Tryz.underlying3 f11 (by omega)
  obtain ⟨x12, rfl, e12⟩ := int_cw Tryz.underlying3 f12 (by omega)
  obtain ⟨x13, rfl, e13⟩ := str_cw Tryz.underlying9 f13 (by omega)
  obtain ⟨x14, rfl, e14⟩ := int_cw Tryz.underlying3 f14 (by omega)
  obtain ⟨x15, rfl, e15⟩ := int_cw Tryz.underlying3 f15 (by omega)
  have hu : 0 ≤ x2 ∧ x2 ≤ 255 := u8_in e2
  exact ⟨⟨x0, x1, x2, x3, x4, x5, x6, x7, x8, x9, x10, x11, x12, x13, x14, x15⟩, rfl, ⟨e3, e13, hu, e0, e15⟩⟩
end
theorem items_open {H : Type} {enc : TypeId × Value → H} {W : World} {base : Nat} {v : Value} {d : DataW H} {p : List MemPlace} (hv : Value.okWide Tryz.prog W .any base 22 v)
    (h : DataW.Trod enc Tryz.prog W 0 (fun _ => true) true 22 v d p) (hs : ∀ n ∈ d.weights Tryz.prog 22, n ≤ reachBytes) : ∃ a n cap l, v = .slice a n cap ∧ ItmsAt W a n cap l ∧ l.length ≤ cap := by
  obtain ⟨a0, n0, c0, rfl⟩ := itm_slice Tryz.underlying22 hv
  obtain ⟨fuel, hf⟩ := h
  rcases open_slice Tryz.underlying22 (show DataW.trod enc Tryz.prog W 0 (fun _ => true) true fuel 22 [.slice a0 n0 c0] = some (d, p) from hf) with ⟨hc, _⟩ | ⟨a, len, cap, m', k, D, Pl, hc, _, hl, _, hm, hx, hat⟩
  · simp at hc
    obtain ⟨rfl, rfl, rfl⟩ := hc
    exact ⟨none, 0, 0, [], rfl, ItmsAt.nilAt _, Nat.le_refl _⟩
  · simp only [List.cons.injEq, Value.slice.injEq, and_true] at hc
    obtain ⟨rfl, rfl, rfl⟩ := hc
    simp only [if_true] at hm
    subst hm
    simp only [Prod.mk.injEq] at hx
    obtain ⟨rfl, _⟩ := hx
    have hb : m' * 144 ≤ reachBytes := by
      have := hs _ (by simp only [DataW.weights, Tryz.underlying22]; exact List.mem_cons_self ..)
      rw [Tryz.bItem] at this
      simp only [List.length_map, List.length_range] at this
      rw [show n0 + (m' - n0) = m' by omega] at this
      exact this
    unfold reachBytes at hb
    obtain ⟨h1, h2⟩ := itm_where Tryz.underlying22 hv
    obtain ⟨ab, ao, sp⟩ := a
    simp only at h1 h2
    subst h1
    have hex : ∀ i, ∃ x : Itm, i < n0 → x.Wide ∧ ∀ j, j < 16 → W.cell? ⟨ab, ao + i * 16 + j, none⟩ = x.cs[j]? := fun i => by
      by_cases hi : i < n0
      · obtain ⟨cs, e1, e2⟩ := hat i (by omega)
        rw [Tryz.cItem] at e1
        obtain ⟨_, hcl, hct⟩ := World.cells?_some e1
        obtain ⟨x, rfl, hw⟩ := item_cells e2
        refine ⟨x, fun _ => ⟨hw, fun j hj => ?_⟩⟩
        have := hct j hj
        rw [itm_add, itm_add] at this
        rw [this]
      · exact ⟨Itm.zero, fun h => absurd h hi⟩
    obtain ⟨F, hF⟩ := Classical.axiomOfChoice hex
    refine ⟨_, n0, m', (List.range n0).map F, rfl, ⟨by simp, by simp; omega, ⟨fun h => (by cases h), fun x hx => ?_⟩, fun x hx => ?_⟩, by simp; omega⟩
    · obtain rfl := Option.some.inj hx
      refine ⟨rfl, h2, fun i u hu => ?_⟩
      have hil := (List.getElem?_eq_some_iff.1 hu).1
      rw [ics_length] at hil
      simp at hil
      have hk : i / 16 < n0 := by omega
      have hfg := flatS_get (f := Itm.cs) (k := 16) (fun _ => rfl) ((List.range n0).map F) (i / 16) (i % 16) (by simpa using hk) (by omega)
      rw [show i / 16 * 16 + i % 16 = i by omega] at hfg
      have hu := hfg.symm.trans hu
      have hgd : ((List.range n0).map F).getD (i / 16) default = F (i / 16) := by simp [List.getD_eq_getElem?_getD, hk]
      rw [hgd] at hu
      have := (hF (i / 16) hk).2 (i % 16) (by omega)
      simp only
      rw [show ao + i = ao + i / 16 * 16 + i % 16 by omega, this, hu]
    · obtain ⟨i, hi, rfl⟩ := List.mem_map.1 hx
      rw [List.mem_range] at hi
      exact (hF i hi).1
end Go.Proofs.YtelkcohhagblaaaGreat
namespace Go.Proofs.YtelkcohhagblaaaGreat
open Go.RowKit Go.Shelf
set_option maxHeartbeats 8000000
set_option maxRecDepth 100000
def shortB (x : Itm) : Bool := decide (x.wa.size ≤ 100) && decide (x.st.size ≤ 100)
theorem lone (x : Itm) (w : World) : Calls Tryz.prog 19 #[x.v] w fun e w' => e = .returned (.bool (shortB x)) ∧ Below w.heap.size w w' := by
  have hal := one_alloc w (Obj.cells #[.int .i64 x.id, .int .i64 x.kn, .int .u8 x.kd, .string x.wa, .int .i64 x.pit, .int .i64 x.ly, .int .i64 x.co, .bool x.ft, .int .i64 x.sh, .int .i64 x.fr, .int .i64 x.tw, .int .i64 x.lo, .int .i64 x.hi, .string x.st, .int .i64 x.li, .int .i64 x.vo] 24)
  have hX := World.alloc_heap_new w (Obj.cells #[.int .i64 x.id, .int .i64 x.kn, .int .u8 x.kd, .string x.wa, .int .i64 x.pit, .int .i64 x.ly, .int .i64 x.co, .bool x.ft, .int .i64 x.sh, .int .i64 x.fr, .int .i64 x.tw, .int .i64 x.lo, .int .i64 x.hi, .string x.st, .int .i64 x.li, .int .i64 x.vo] 24)
  have d3 := (ItmCells.of_heap hX).1.c3
  have d13 := (ItmCells.of_heap hX).1.c13
  simp only [Itm.v, Itm.cs]
  unfold shortB
  obtain ⟨A, hA⟩ : ∃ A, x.wa.size = A := ⟨_, rfl⟩
  obtain ⟨B, hB⟩ : ∃ B, x.st.size = B := ⟨_, rfl⟩
  rw [hA, hB]
  clear hX
  by_cases h1 : A ≤ 100
  · have e1 : (A : Int) ≤ 100 := by omega
    have d1 : decide (A ≤ 100) = true := decide_eq_true h1
    rw [d1, Bool.true_and]
    by_cases h2 : B ≤ 100
    · have e2 : (B : Int) ≤ 100 := by omega
      have d2 : decide (B ≤ 100) = true := decide_eq_true h2
      rw [d2]
      go_enter Tryz.func19, Tryz.ntmps19
      go_wp2_with fail
      go_ret
      exact ⟨rfl, hal⟩
    · have e2 : ¬ (B : Int) ≤ 100 := by omega
      have d2 : decide (B ≤ 100) = false := decide_eq_false h2
      rw [d2]
      go_enter Tryz.func19, Tryz.ntmps19
      go_wp2_with fail
      go_ret
      exact ⟨rfl, hal⟩
  · have e1 : ¬ (A : Int) ≤ 100 := by omega
    have d1 : decide (A ≤ 100) = false := decide_eq_false h1
    rw [d1, Bool.false_and]
    go_enter Tryz.func19, Tryz.ntmps19
    go_wp2_with fail
    go_ret
    exact ⟨rfl, hal⟩
def fewB (l : List Itm) (m : Nat) : Bool := (l.take m).all shortB && decide (l.length ≤ m)
theorem all_succ {l : List Itm} {k : Nat} (hk : k < l.length) : (l.take (k + 1)).all shortB = ((l.take k).all shortB && shortB (l.getD k default)) := by
  rw [List.take_succ_eq_append_getElem hk, List.all_append, List.getD_eq_getElem?_getD, List.getElem?_eq_getElem hk]
  simp
theorem all_no {l : List Itm} {k m : Nat} (hk : k < l.length) (hm : k < m) (h : shortB (l.getD k default) = false) : (l.take m).all shortB = false := by
  rw [List.all_eq_false]
  refine ⟨l.getD k default, ?_, by rw [h]; simp⟩
  rw [List.getD_eq_getElem?_getD, List.getElem?_eq_getElem hk]
  have : l[k] ∈ l.take m := List.mem_take_iff_getElem.2 ⟨k, by omega, rfl⟩
  exact this
theorem lfew (m : Nat) (a : Option Addr) (n cap : Nat) (l : List Itm) (w : World) (h : ItmsAt w a n cap l) (hm : m ≤ 1000) : Calls Tryz.prog 18 #[.slice a n cap, .int .i64 m] w fun e w' => e = .returned (.bool (fewB l m)) ∧ Below w.heap.size w w' := by
  obtain rfl := h.len
  have hsm := h.small
  have HP := Lib.hid (show ∀ w' b, fewB l m = b → Below w.heap.size w w' → (fun e w' => e = Ending.returned (.bool (fewB l m)) ∧ Below w.heap.size w w' : Ending → World → Prop) (.returned (.bool b)) w' from fun w' b h1 h2 => ⟨by rw [h1], h2⟩)
  generalize (fun e w' => e = Ending.returned (.bool (fewB l m)) ∧ Below w.heap.size w w' : Ending → World → Prop) = Post at *
  go_enter Tryz.func18, Tryz.ntmps18
  go_wp2_with fail
  go_loopw [5] (fun i wr => ∃ k : Nat, k ≤ l.length ∧ k ≤ m ∧ i = .int .i64 k ∧ Hid ((l.take k).all shortB = true) ∧ Below w.heap.size w wr) (fun i _ => l.length - (RowKit.intOf i).toNat)
  case atStart => exact ⟨0, Nat.zero_le _, Nat.zero_le _, rfl, Lib.hid rfl, Below.refl _ _⟩
  case round =>
    obtain ⟨k, hk, hkm, rfl, hall, hB⟩ := hrel
    have hnn : (0 : Int) ≤ k := by omega
    by_cases hlt : k < l.length
    · have i1 : (k : Int) < (l.length : Int) := by omega
      by_cases hlm : k < m
      · have i2 : (k : Int) < (m : Int) := by omega
        obtain ⟨b, o, rfl, hb, hdc⟩ := (h.below hB).get hlt
        have Hs := Lib.hid (all_succ hlt)
        have Hn := Lib.hid (all_no hlt hlm)
        generalize l.getD k default = x at *
        have hcl := lone x wr
        cases hv : shortB x with
        | true =>
          rw [hv] at hcl Hs
          have h2 := Lib.hid (show (l.take (k + 1)).all shortB = true by rw [Hs.out, hall.out]; rfl)
          clear hv Hn
          go_wp2_with (first
            | (refine wpList_loadI rfl _ rfl rfl hdc ?_)
            | (go_at_call 19; (with_reducible refine hcl.mono ?_); rintro e w2 ⟨rfl, hb2⟩))
          go_roundw
          case rel => exact ⟨k + 1, by omega, by omega, by go_num, h2, hB.ch2 hb2⟩
          case measure => simp [RowKit.intOf]; omega
        | false =>
          have HE := Lib.hid (fun w' hb => HP.out w' false (by unfold fewB; rw [Hn.out hv]; rfl) hb)
          rw [hv] at hcl
          clear hv Hn Hs
          go_wp2_with (first
            | (refine wpList_loadI rfl _ rfl rfl hdc ?_)
            | (go_at_call 19; (with_reducible refine hcl.mono ?_); rintro e w2 ⟨rfl, hb2⟩))
          exact HE.out _ (hB.ch2 hb2)
      · have i2 : ¬ (k : Int) < (m : Int) := by omega
        have i3 : ¬ (l.length : Int) ≤ (m : Int) := by omega
        have HE := Lib.hid (HP.out wr false (by unfold fewB; rw [decide_eq_false (by omega), Bool.and_false]) hB)
        go_wp2_with fail
        exact HE.out
    · have i1 : ¬ (k : Int) < (l.length : Int) := by omega
      have hkl : k = l.length := by omega
      have i3 : (l.length : Int) ≤ (m : Int) := by omega
      have HE := Lib.hid (HP.out wr true (by unfold fewB; rw [decide_eq_true (by omega), Bool.and_true, List.take_of_length_le (by omega)]; have := hall.out; rw [hkl, List.take_length] at this; exact this) hB)
      clear hkl
      go_wp2_with fail
      exact HE.out
theorem way_range (l : List Itm) (day id fr tw : Int) : (-4000000000000 ≤ wayLo l day id fr tw ∧ wayLo l day id fr tw ≤ 4000000000000) ∧ (-4000000000000 ≤ wayHi l day id fr tw ∧ wayHi l day id fr tw ≤ 4000000000000) := by
  have h1 := grN_range (wayP l day id) (wayB l day id) tw fr
  have h2 := grN_range (wayP l day id) (wayB l day id) fr tw
  unfold FAR at h1 h2
  unfold wayLo wayHi
  split <;> omega
theorem turn_range (l : List Itm) (day id fr tw : Int) : (-4000000000000 ≤ turnLo l day id fr tw ∧ turnLo l day id fr tw ≤ 4000000000000) ∧ (-4000000000000 ≤ turnHi l day id fr tw ∧ turnHi l day id fr tw ≤ 4000000000000) := by
  have h1 := grN_range (turnP l day id) (turnB l day id) tw fr
  have h2 := grN_range (turnP l day id) (turnB l day id) fr tw
  unfold FAR at h1 h2
  unfold turnLo turnHi
  split <;> omega
theorem lchains (a : Option Addr) (n cap : Nat) (l : List Itm) (day id fr mid tw : Int) (w : World) (h : ItmsAt w a n cap l) (hcap : l.length ≤ cap) :
    Calls Tryz.prog 6 #[.slice a n cap, .int .i64 day, .int .i64 id, .int .i64 fr, .int .i64 mid, .int .i64 tw] w fun e w' => e = .returned (.bool true) ∧ Below w.heap.size w w' := by
  have hSh := fun W => lshelved W
  have hFe := lfew 25 a n cap l w h (by omega)
  have hW1 := fun W hi => sWay_any soutline a n cap l day id fr mid W hi hcap
  have hW2 := fun W hi => sWay_any soutline a n cap l day id mid tw W hi hcap
  have hW3 := fun W hi => sWay_any soutline a n cap l day id fr tw W hi hcap
  have hT1 := fun W hi => sTurn_any soutline a n cap l day id fr mid W hi hcap
  have hT2 := fun W hi => sTurn_any soutline a n cap l day id mid tw W hi hcap
  have hT3 := fun W hi => sTurn_any soutline a n cap l day id fr tw W hi hcap
  unfold QuadI at hW1 hW2 hW3
  unfold TriI at hT1 hT2 hT3
  have hWW := way_chain (l := l) (day := day) (id := id) (a := fr) (b := mid) (c := tw)
  have hTT := turn_chain (l := l) (day := day) (id := id) (a := fr) (b := mid) (c := tw)
  have hK1 : wayK l day id fr mid = (decide (wayE l day id fr mid = 0) && grB (wayP l day id) (wayB l day id) fr mid) := rfl
  have hK2 : wayK l day id mid tw = (decide (wayE l day id mid tw = 0) && grB (wayP l day id) (wayB l day id) mid tw) := rfl
  obtain ⟨⟨r1, r2⟩, r3, r4⟩ := way_range l day id fr mid
  obtain ⟨⟨r5, r6⟩, r7, r8⟩ := way_range l day id mid tw
  obtain ⟨⟨s1, s2⟩, s3, s4⟩ := turn_range l day id fr mid
  obtain ⟨⟨s5, s6⟩, s7, s8⟩ := turn_range l day id mid tw
  have tok1 : True := trivial
  have tok2 : True := trivial
  have tok3 : True := trivial
  have tok4 : True := trivial
  have tok5 : True := trivial
  have tok6 : True := trivial
  have h25 : ((25 : Nat) : Int) = 25 := rfl
  rw [h25] at hFe
  generalize fewB l 25 = F at *
  generalize wayLo l day id fr mid = A1 at *
  generalize wayHi l day id fr mid = A2 at *
  generalize wayLo l day id mid tw = B1 at *
  generalize wayHi l day id mid tw = B2 at *
  generalize wayLo l day id fr tw = C1 at *
  generalize wayHi l day id fr tw = C2 at *
  generalize wayE l day id fr tw = E3 at *
  generalize wayK l day id fr tw = K3 at *
  generalize turnLo l day id fr mid = P1 at *
  generalize turnHi l day id fr mid = P2 at *
  generalize turnLo l day id mid tw = Q1 at *
  generalize turnHi l day id mid tw = Q2 at *
  generalize turnLo l day id fr tw = R1 at *
  generalize turnHi l day id fr tw = R2 at *
  generalize turnE l day id fr mid = T1 at *
  generalize turnE l day id mid tw = T2 at *
  generalize turnE l day id fr tw = T3 at *
  generalize grB (wayP l day id) (wayB l day id) fr mid = G1 at *
  generalize grB (wayP l day id) (wayB l day id) mid tw = G2 at *
  generalize wayE l day id fr mid = E1 at *
  generalize wayE l day id mid tw = E2 at *
  generalize wayK l day id fr mid = K1 at *
  generalize wayK l day id mid tw = K2 at *
  cases F with
  | false =>
    clear hWW hTT hK1 hK2 hW1 hW2 hW3 hT1 hT2 hT3
    go_enter Tryz.func6, Tryz.ntmps6
    go_wp2_with (first
      | (go_at_call 18; (with_reducible refine hFe.mono ?_); rintro e w1 ⟨rfl, hb⟩; have hi := h.below hb; have hB := hb)
      | (go_at_call 28; clear tok1; (with_reducible refine (hW1 _ hi).mono ?_); rintro e w2 ⟨rfl, hb⟩; have hi := hi.below hb; have hB := hB.ch2 hb)
      | (go_at_call 28; clear tok2; (with_reducible refine (hW2 _ hi).mono ?_); rintro e w3 ⟨rfl, hb⟩; have hi := hi.below hb; have hB := hB.ch2 hb)
      | (go_at_call 28; clear tok3; (with_reducible refine (hW3 _ hi).mono ?_); rintro e w4 ⟨rfl, hb⟩; have hi := hi.below hb; have hB := hB.ch2 hb)
      | (go_at_call 30; clear tok4; (with_reducible refine (hT1 _ hi).mono ?_); rintro e w5 ⟨rfl, hb⟩; have hi := hi.below hb; have hB := hB.ch2 hb)
      | (go_at_call 30; clear tok5; (with_reducible refine (hT2 _ hi).mono ?_); rintro e w6 ⟨rfl, hb⟩; have hi := hi.below hb; have hB := hB.ch2 hb)
      | (go_at_call 30; clear tok6; (with_reducible refine (hT3 _ hi).mono ?_); rintro e w7 ⟨rfl, hb⟩; have hi := hi.below hb; have hB := hB.ch2 hb)
      | (go_at_call 20; (with_reducible refine (hSh _).mono ?_); rintro e w8 ⟨rfl, hb⟩; have hB := hB.ch2 hb))
    go_ret
    exact ⟨rfl, hB⟩
  | true =>
    by_cases c1 : E1 = 0
    · subst c1
      by_cases c2 : E2 = 0
      · subst c2
        simp only [decide_true, Bool.true_and] at hK1 hK2
        subst hK1 hK2
        cases K1 with
        | true =>
          cases K2 with
          | true =>
            obtain ⟨k0, k4, k5, k6⟩ := hWW rfl rfl
            subst k0 k4
            have d1 : ¬ C1 < A1 + B1 := by omega
            have d2 : ¬ A2 + B2 < C2 := by omega
            clear hWW k5 k6
            by_cases t1 : T1 = 0
            · subst t1
              by_cases t2 : T2 = 0
              · subst t2
                obtain ⟨k1, k2, k3⟩ := hTT rfl rfl
                subst k1
                clear hTT
                go_enter Tryz.func6, Tryz.ntmps6
                go_wp2_with (first
                  | (go_at_call 18; (with_reducible refine hFe.mono ?_); rintro e w1 ⟨rfl, hb⟩; have hi := h.below hb; have hB := hb)
                  | (go_at_call 28; clear tok1; (with_reducible refine (hW1 _ hi).mono ?_); rintro e w2 ⟨rfl, hb⟩; have hi := hi.below hb; have hB := hB.ch2 hb)
                  | (go_at_call 28; clear tok2; (with_reducible refine (hW2 _ hi).mono ?_); rintro e w3 ⟨rfl, hb⟩; have hi := hi.below hb; have hB := hB.ch2 hb)
                  | (go_at_call 28; clear tok3; (with_reducible refine (hW3 _ hi).mono ?_); rintro e w4 ⟨rfl, hb⟩; have hi := hi.below hb; have hB := hB.ch2 hb)
                  | (go_at_call 30; clear tok4; (with_reducible refine (hT1 _ hi).mono ?_); rintro e w5 ⟨rfl, hb⟩; have hi := hi.below hb; have hB := hB.ch2 hb)
                  | (go_at_call 30; clear tok5; (with_reducible refine (hT2 _ hi).mono ?_); rintro e w6 ⟨rfl, hb⟩; have hi := hi.below hb; have hB := hB.ch2 hb)
                  | (go_at_call 30; clear tok6; (with_reducible refine (hT3 _ hi).mono ?_); rintro e w7 ⟨rfl, hb⟩; have hi := hi.below hb; have hB := hB.ch2 hb)
                  | (go_at_call 20; (with_reducible refine (hSh _).mono ?_); rintro e w8 ⟨rfl, hb⟩; have hB := hB.ch2 hb))
                go_ret
                exact ⟨rfl, hB⟩
              · have e7 : (T2 != 0) = true := by simpa using t2
                clear t2 hTT
                go_enter Tryz.func6, Tryz.ntmps6
                go_wp2_with (first
                  | (go_at_call 18; (with_reducible refine hFe.mono ?_); rintro e w1 ⟨rfl, hb⟩; have hi := h.below hb; have hB := hb)
                  | (go_at_call 28; clear tok1; (with_reducible refine (hW1 _ hi).mono ?_); rintro e w2 ⟨rfl, hb⟩; have hi := hi.below hb; have hB := hB.ch2 hb)
                  | (go_at_call 28; clear tok2; (with_reducible refine (hW2 _ hi).mono ?_); rintro e w3 ⟨rfl, hb⟩; have hi := hi.below hb; have hB := hB.ch2 hb)
                  | (go_at_call 28; clear tok3; (with_reducible refine (hW3 _ hi).mono ?_); rintro e w4 ⟨rfl, hb⟩; have hi := hi.below hb; have hB := hB.ch2 hb)
                  | (go_at_call 30; clear tok4; (with_reducible refine (hT1 _ hi).mono ?_); rintro e w5 ⟨rfl, hb⟩; have hi := hi.below hb; have hB := hB.ch2 hb)
                  | (go_at_call 30; clear tok5; (with_reducible refine (hT2 _ hi).mono ?_); rintro e w6 ⟨rfl, hb⟩; have hi := hi.below hb; have hB := hB.ch2 hb)
                  | (go_at_call 30; clear tok6; (with_reducible refine (hT3 _ hi).mono ?_); rintro e w7 ⟨rfl, hb⟩; have hi := hi.below hb; have hB := hB.ch2 hb)
                  | (go_at_call 20; (with_reducible refine (hSh _).mono ?_); rintro e w8 ⟨rfl, hb⟩; have hB := hB.ch2 hb))
                go_ret
                exact ⟨rfl, hB⟩
            · have e7 : (T1 != 0) = true := by simpa using t1
              clear t1 hTT
              go_enter Tryz.func6, Tryz.ntmps6
              go_wp2_with (first
                | (go_at_call 18; (with_reducible refine hFe.mono ?_); rintro e w1 ⟨rfl, hb⟩; have hi := h.below hb; have hB := hb)
                | (go_at_call 28; clear tok1; (with_reducible refine (hW1 _ hi).mono ?_); rintro e w2 ⟨rfl, hb⟩; have hi := hi.below hb; have hB := hB.ch2 hb)
                | (go_at_call 28; clear tok2; (with_reducible refine (hW2 _ hi).mono ?_); rintro e w3 ⟨rfl, hb⟩; have hi := hi.below hb; have hB := hB.ch2 hb)
                | (go_at_call 28; clear tok3; (with_reducible refine (hW3 _ hi).mono ?_); rintro e w4 ⟨rfl, hb⟩; have hi := hi.below hb; have hB := hB.ch2 hb)
                | (go_at_call 30; clear tok4; (with_reducible refine (hT1 _ hi).mono ?_); rintro e w5 ⟨rfl, hb⟩; have hi := hi.below hb; have hB := hB.ch2 hb)
                | (go_at_call 30; clear tok5; (with_reducible refine (hT2 _ hi).mono ?_); rintro e w6 ⟨rfl, hb⟩; have hi := hi.below hb; have hB := hB.ch2 hb)
                | (go_at_call 30; clear tok6; (with_reducible refine (hT3 _ hi).mono ?_); rintro e w7 ⟨rfl, hb⟩; have hi := hi.below hb; have hB := hB.ch2 hb)
                | (go_at_call 20; (with_reducible refine (hSh _).mono ?_); rintro e w8 ⟨rfl, hb⟩; have hB := hB.ch2 hb))
              go_ret
              exact ⟨rfl, hB⟩
          | false =>
            clear hWW hW3
            by_cases t1 : T1 = 0
            · subst t1
              by_cases t2 : T2 = 0
              · subst t2
                obtain ⟨k1, k2, k3⟩ := hTT rfl rfl
                subst k1
                clear hTT
                go_enter Tryz.func6, Tryz.ntmps6
                go_wp2_with (first
                  | (go_at_call 18; (with_reducible refine hFe.mono ?_); rintro e w1 ⟨rfl, hb⟩; have hi := h.below hb; have hB := hb)
                  | (go_at_call 28; clear tok1; (with_reducible refine (hW1 _ hi).mono ?_); rintro e w2 ⟨rfl, hb⟩; have hi := hi.below hb; have hB := hB.ch2 hb)
                  | (go_at_call 28; clear tok2; (with_reducible refine (hW2 _ hi).mono ?_); rintro e w3 ⟨rfl, hb⟩; have hi := hi.below hb; have hB := hB.ch2 hb)
                  | (go_at_call 28; clear tok3; (with_reducible refine (hW3 _ hi).mono ?_); rintro e w4 ⟨rfl, hb⟩; have hi := hi.below hb; have hB := hB.ch2 hb)
                  | (go_at_call 30; clear tok4; (with_reducible refine (hT1 _ hi).mono ?_); rintro e w5 ⟨rfl, hb⟩; have hi := hi.below hb; have hB := hB.ch2 hb)
                  | (go_at_call 30; clear tok5; (with_reducible refine (hT2 _ hi).mono ?_); rintro e w6 ⟨rfl, hb⟩; have hi := hi.below hb; have hB := hB.ch2 hb)
                  | (go_at_call 30; clear tok6; (with_reducible refine (hT3 _ hi).mono ?_); rintro e w7 ⟨rfl, hb⟩; have hi := hi.below hb; have hB := hB.ch2 hb)
                  | (go_at_call 20; (with_reducible refine (hSh _).mono ?_); rintro e w8 ⟨rfl, hb⟩; have hB := hB.ch2 hb))
                go_ret
                exact ⟨rfl, hB⟩
              · have e7 : (T2 != 0) = true := by simpa using t2
                clear t2 hTT
                go_enter Tryz.func6, Tryz.ntmps6
                go_wp2_with (first
                  | (go_at_call 18; (with_reducible refine hFe.mono ?_); rintro e w1 ⟨rfl, hb⟩; have hi := h.below hb; have hB := hb)
                  | (go_at_call 28; clear tok1; (with_reducible refine (hW1 _ hi).mono ?_); rintro e w2 ⟨rfl, hb⟩; have hi := hi.below hb; have hB := hB.ch2 hb)
                  | (go_at_call 28; clear tok2; (with_reducible refine (hW2 _ hi).mono ?_); rintro e w3 ⟨rfl, hb⟩; have hi := hi.below hb; have hB := hB.ch2 hb)
                  | (go_at_call 28; clear tok3; (with_reducible refine (hW3 _ hi).mono ?_); rintro e w4 ⟨rfl, hb⟩; have hi := hi.below hb; have hB := hB.ch2 hb)
                  | (go_at_call 30; clear tok4; (with_reducible refine (hT1 _ hi).mono ?_); rintro e w5 ⟨rfl, hb⟩; have hi := hi.below hb; have hB := hB.ch2 hb)
                  | (go_at_call 30; clear tok5; (with_reducible refine (hT2 _ hi).mono ?_); rintro e w6 ⟨rfl, hb⟩; have hi := hi.below hb; have hB := hB.ch2 hb)
                  | (go_at_call 30; clear tok6; (with_reducible refine (hT3 _ hi).mono ?_); rintro e w7 ⟨rfl, hb⟩; have hi := hi.below hb; have hB := hB.ch2 hb)
                  | (go_at_call 20; (with_reducible refine (hSh _).mono ?_); rintro e w8 ⟨rfl, hb⟩; have hB := hB.ch2 hb))
                go_ret
                exact ⟨rfl, hB⟩
            · have e7 : (T1 != 0) = true := by simpa using t1
              clear t1 hTT
              go_enter Tryz.func6, Tryz.ntmps6
              go_wp2_with (first
                | (go_at_call 18; (with_reducible refine hFe.mono ?_); rintro e w1 ⟨rfl, hb⟩; have hi := h.below hb; have hB := hb)
                | (go_at_call 28; clear tok1; (with_reducible refine (hW1 _ hi).mono ?_); rintro e w2 ⟨rfl, hb⟩; have hi := hi.below hb; have hB := hB.ch2 hb)
                | (go_at_call 28; clear tok2; (with_reducible refine (hW2 _ hi).mono ?_); rintro e w3 ⟨rfl, hb⟩; have hi := hi.below hb; have hB := hB.ch2 hb)
                | (go_at_call 28; clear tok3; (with_reducible refine (hW3 _ hi).mono ?_); rintro e w4 ⟨rfl, hb⟩; have hi := hi.below hb; have hB := hB.ch2 hb)
                | (go_at_call 30; clear tok4; (with_reducible refine (hT1 _ hi).mono ?_); rintro e w5 ⟨rfl, hb⟩; have hi := hi.below hb; have hB := hB.ch2 hb)
                | (go_at_call 30; clear tok5; (with_reducible refine (hT2 _ hi).mono ?_); rintro e w6 ⟨rfl, hb⟩; have hi := hi.below hb; have hB := hB.ch2 hb)
                | (go_at_call 30; clear tok6; (with_reducible refine (hT3 _ hi).mono ?_); rintro e w7 ⟨rfl, hb⟩; have hi := hi.below hb; have hB := hB.ch2 hb)
                | (go_at_call 20; (with_reducible refine (hSh _).mono ?_); rintro e w8 ⟨rfl, hb⟩; have hB := hB.ch2 hb))
              go_ret
              exact ⟨rfl, hB⟩
        | false =>
          clear hWW hW3
          by_cases t1 : T1 = 0
          · subst t1
            by_cases t2 : T2 = 0
            · subst t2
              obtain ⟨k1, k2, k3⟩ := hTT rfl rfl
              subst k1
              clear hTT
              go_enter Tryz.func6, Tryz.ntmps6
              go_wp2_with (first
                | (go_at_call 18; (with_reducible refine hFe.mono ?_); rintro e w1 ⟨rfl, hb⟩; have hi := h.below hb; have hB := hb)
                | (go_at_call 28; clear tok1; (with_reducible refine (hW1 _ hi).mono ?_); rintro e w2 ⟨rfl, hb⟩; have hi := hi.below hb; have hB := hB.ch2 hb)
                | (go_at_call 28; clear tok2; (with_reducible refine (hW2 _ hi).mono ?_); rintro e w3 ⟨rfl, hb⟩; have hi := hi.below hb; have hB := hB.ch2 hb)
                | (go_at_call 28; clear tok3; (with_reducible refine (hW3 _ hi).mono ?_); rintro e w4 ⟨rfl, hb⟩; have hi := hi.below hb; have hB := hB.ch2 hb)
                | (go_at_call 30; clear tok4; (with_reducible refine (hT1 _ hi).mono ?_); rintro e w5 ⟨rfl, hb⟩; have hi := hi.below hb; have hB := hB.ch2 hb)
                | (go_at_call 30; clear tok5; (with_reducible refine (hT2 _ hi).mono ?_); rintro e w6 ⟨rfl, hb⟩; have hi := hi.below hb; have hB := hB.ch2 hb)
                | (go_at_call 30; clear tok6; (with_reducible refine (hT3 _ hi).mono ?_); rintro e w7 ⟨rfl, hb⟩; have hi := hi.below hb; have hB := hB.ch2 hb)
                | (go_at_call 20; (with_reducible refine (hSh _).mono ?_); rintro e w8 ⟨rfl, hb⟩; have hB := hB.ch2 hb))
              go_ret
              exact ⟨rfl, hB⟩
            · have e7 : (T2 != 0) = true := by simpa using t2
              clear t2 hTT
              go_enter Tryz.func6, Tryz.ntmps6
              go_wp2_with (first
                | (go_at_call 18; (with_reducible refine hFe.mono ?_); rintro e w1 ⟨rfl, hb⟩; have hi := h.below hb; have hB := hb)
                | (go_at_call 28; clear tok1; (with_reducible refine (hW1 _ hi).mono ?_); rintro e w2 ⟨rfl, hb⟩; have hi := hi.below hb; have hB := hB.ch2 hb)
                | (go_at_call 28; clear tok2; (with_reducible refine (hW2 _ hi).mono ?_); rintro e w3 ⟨rfl, hb⟩; have hi := hi.below hb; have hB := hB.ch2 hb)
                | (go_at_call 28; clear tok3; (with_reducible refine (hW3 _ hi).mono ?_); rintro e w4 ⟨rfl, hb⟩; have hi := hi.below hb; have hB := hB.ch2 hb)
                | (go_at_call 30; clear tok4; (with_reducible refine (hT1 _ hi).mono ?_); rintro e w5 ⟨rfl, hb⟩; have hi := hi.below hb; have hB := hB.ch2 hb)
                | (go_at_call 30; clear tok5; (with_reducible refine (hT2 _ hi).mono ?_); rintro e w6 ⟨rfl, hb⟩; have hi := hi.below hb; have hB := hB.ch2 hb)
                | (go_at_call 30; clear tok6; (with_reducible refine (hT3 _ hi).mono ?_); rintro e w7 ⟨rfl, hb⟩; have hi := hi.below hb; have hB := hB.ch2 hb)
                | (go_at_call 20; (with_reducible refine (hSh _).mono ?_); rintro e w8 ⟨rfl, hb⟩; have hB := hB.ch2 hb))
              go_ret
              exact ⟨rfl, hB⟩
          · have e7 : (T1 != 0) = true := by simpa using t1
            clear t1 hTT
            go_enter Tryz.func6, Tryz.ntmps6
            go_wp2_with (first
              | (go_at_call 18; (with_reducible refine hFe.mono ?_); rintro e w1 ⟨rfl, hb⟩; have hi := h.below hb; have hB := hb)
              | (go_at_call 28; clear tok1; (with_reducible refine (hW1 _ hi).mono ?_); rintro e w2 ⟨rfl, hb⟩; have hi := hi.below hb; have hB := hB.ch2 hb)
              | (go_at_call 28; clear tok2; (with_reducible refine (hW2 _ hi).mono ?_); rintro e w3 ⟨rfl, hb⟩; have hi := hi.below hb; have hB := hB.ch2 hb)
              | (go_at_call 28; clear tok3; (with_reducible refine (hW3 _ hi).mono ?_); rintro e w4 ⟨rfl, hb⟩; have hi := hi.below hb; have hB := hB.ch2 hb)
              | (go_at_call 30; clear tok4; (with_reducible refine (hT1 _ hi).mono ?_); rintro e w5 ⟨rfl, hb⟩; have hi := hi.below hb; have hB := hB.ch2 hb)
              | (go_at_call 30; clear tok5; (with_reducible refine (hT2 _ hi).mono ?_); rintro e w6 ⟨rfl, hb⟩; have hi := hi.below hb; have hB := hB.ch2 hb)
              | (go_at_call 30; clear tok6; (with_reducible refine (hT3 _ hi).mono ?_); rintro e w7 ⟨rfl, hb⟩; have hi := hi.below hb; have hB := hB.ch2 hb)
              | (go_at_call 20; (with_reducible refine (hSh _).mono ?_); rintro e w8 ⟨rfl, hb⟩; have hB := hB.ch2 hb))
            go_ret
            exact ⟨rfl, hB⟩
      · have e9 : (E2 == 0) = false := by simpa using c2
        clear hWW c2 hK1 hK2 hW3
        by_cases t1 : T1 = 0
        · subst t1
          by_cases t2 : T2 = 0
          · subst t2
            obtain ⟨k1, k2, k3⟩ := hTT rfl rfl
            subst k1
            clear hTT
            go_enter Tryz.func6, Tryz.ntmps6
            go_wp2_with (first
              | (go_at_call 18; (with_reducible refine hFe.mono ?_); rintro e w1 ⟨rfl, hb⟩; have hi := h.below hb; have hB := hb)
              | (go_at_call 28; clear tok1; (with_reducible refine (hW1 _ hi).mono ?_); rintro e w2 ⟨rfl, hb⟩; have hi := hi.below hb; have hB := hB.ch2 hb)
              | (go_at_call 28; clear tok2; (with_reducible refine (hW2 _ hi).mono ?_); rintro e w3 ⟨rfl, hb⟩; have hi := hi.below hb; have hB := hB.ch2 hb)
              | (go_at_call 28; clear tok3; (with_reducible refine (hW3 _ hi).mono ?_); rintro e w4 ⟨rfl, hb⟩; have hi := hi.below hb; have hB := hB.ch2 hb)
              | (go_at_call 30; clear tok4; (with_reducible refine (hT1 _ hi).mono ?_); rintro e w5 ⟨rfl, hb⟩; have hi := hi.below hb; have hB := hB.ch2 hb)
              | (go_at_call 30; clear tok5; (with_reducible refine (hT2 _ hi).mono ?_); rintro e w6 ⟨rfl, hb⟩; have hi := hi.below hb; have hB := hB.ch2 hb)
              | (go_at_call 30; clear tok6; (with_reducible refine (hT3 _ hi).mono ?_); rintro e w7 ⟨rfl, hb⟩; have hi := hi.below hb; have hB := hB.ch2 hb)
              | (go_at_call 20; (with_reducible refine (hSh _).mono ?_); rintro e w8 ⟨rfl, hb⟩; have hB := hB.ch2 hb))
            go_ret
            exact ⟨rfl, hB⟩
          · have e7 : (T2 != 0) = true := by simpa using t2
            clear t2 hTT
            go_enter Tryz.func6, Tryz.ntmps6
            go_wp2_with (first
              | (go_at_call 18; (with_reducible refine hFe.mono ?_); rintro e w1 ⟨rfl, hb⟩; have hi := h.below hb; have hB := hb)
              | (go_at_call 28; clear tok1; (with_reducible refine (hW1 _ hi).mono ?_); rintro e w2 ⟨rfl, hb⟩; have hi := hi.below hb; have hB := hB.ch2 hb)
              | (go_at_call 28; clear tok2; (with_reducible refine (hW2 _ hi).mono ?_); rintro e w3 ⟨rfl, hb⟩; have hi := hi.below hb; have hB := hB.ch2 hb)
              | (go_at_call 28; clear tok3; (with_reducible refine (hW3 _ hi).mono ?_); rintro e w4 ⟨rfl, hb⟩; have hi := hi.below hb; have hB := hB.ch2 hb)
              | (go_at_call 30; clear tok4; (with_reducible refine (hT1 _ hi).mono ?_); rintro e w5 ⟨rfl, hb⟩; have hi := hi.below hb; have hB := hB.ch2 hb)
              | (go_at_call 30; clear tok5; (with_reducible refine (hT2 _ hi).mono ?_); rintro e w6 ⟨rfl, hb⟩; have hi := hi.below hb; have hB := hB.ch2 hb)
              | (go_at_call 30; clear tok6; (with_reducible refine (hT3 _ hi).mono ?_); rintro e w7 ⟨rfl, hb⟩; have hi := hi.below hb; have hB := hB.ch2 hb)
              | (go_at_call 20; (with_reducible refine (hSh _).mono ?_); rintro e w8 ⟨rfl, hb⟩; have hB := hB.ch2 hb))
            go_ret
            exact ⟨rfl, hB⟩
        · have e7 : (T1 != 0) = true := by simpa using t1
          clear t1 hTT
          go_enter Tryz.func6, Tryz.ntmps6
          go_wp2_with (first
            | (go_at_call 18; (with_reducible refine hFe.mono ?_); rintro e w1 ⟨rfl, hb⟩; have hi := h.below hb; have hB := hb)
            | (go_at_call 28; clear tok1; (with_reducible refine (hW1 _ hi).mono ?_); rintro e w2 ⟨rfl, hb⟩; have hi := hi.below hb; have hB := hB.ch2 hb)
            | (go_at_call 28; clear tok2; (with_reducible refine (hW2 _ hi).mono ?_); rintro e w3 ⟨rfl, hb⟩; have hi := hi.below hb; have hB := hB.ch2 hb)
            | (go_at_call 28; clear tok3; (with_reducible refine (hW3 _ hi).mono ?_); rintro e w4 ⟨rfl, hb⟩; have hi := hi.below hb; have hB := hB.ch2 hb)
            | (go_at_call 30; clear tok4; (with_reducible refine (hT1 _ hi).mono ?_); rintro e w5 ⟨rfl, hb⟩; have hi := hi.below hb; have hB := hB.ch2 hb)
            | (go_at_call 30; clear tok5; (with_reducible refine (hT2 _ hi).mono ?_); rintro e w6 ⟨rfl, hb⟩; have hi := hi.below hb; have hB := hB.ch2 hb)
            | (go_at_call 30; clear tok6; (with_reducible refine (hT3 _ hi).mono ?_); rintro e w7 ⟨rfl, hb⟩; have hi := hi.below hb; have hB := hB.ch2 hb)
            | (go_at_call 20; (with_reducible refine (hSh _).mono ?_); rintro e w8 ⟨rfl, hb⟩; have hB := hB.ch2 hb))
          go_ret
          exact ⟨rfl, hB⟩
    · have e9 : (E1 == 0) = false := by simpa using c1
      clear hWW c1 hK1 hK2 hW3
      by_cases t1 : T1 = 0
      · subst t1
        by_cases t2 : T2 = 0
        · subst t2
          obtain ⟨k1, k2, k3⟩ := hTT rfl rfl
          subst k1
          clear hTT
          go_enter Tryz.func6, Tryz.ntmps6
          go_wp2_with (first
            | (go_at_call 18; (with_reducible refine hFe.mono ?_); rintro e w1 ⟨rfl, hb⟩; have hi := h.below hb; have hB := hb)
            | (go_at_call 28; clear tok1; (with_reducible refine (hW1 _ hi).mono ?_); rintro e w2 ⟨rfl, hb⟩; have hi := hi.below hb; have hB := hB.ch2 hb)
            | (go_at_call 28; clear tok2; (with_reducible refine (hW2 _ hi).mono ?_); rintro e w3 ⟨rfl, hb⟩; have hi := hi.below hb; have hB := hB.ch2 hb)
            | (go_at_call 28; clear tok3; (with_reducible refine (hW3 _ hi).mono ?_); rintro e w4 ⟨rfl, hb⟩; have hi := hi.below hb; have hB := hB.ch2 hb)
            | (go_at_call 30; clear tok4; (with_reducible refine (hT1 _ hi).mono ?_); rintro e w5 ⟨rfl, hb⟩; have hi := hi.below hb; have hB := hB.ch2 hb)
            | (go_at_call 30; clear tok5; (with_reducible refine (hT2 _ hi).mono ?_); rintro e w6 ⟨rfl, hb⟩; have hi := hi.below hb; have hB := hB.ch2 hb)
            | (go_at_call 30; clear tok6; (with_reducible refine (hT3 _ hi).mono ?_); rintro e w7 ⟨rfl, hb⟩; have hi := hi.below hb; have hB := hB.ch2 hb)
            | (go_at_call 20; (with_reducible refine (hSh _).mono ?_); rintro e w8 ⟨rfl, hb⟩; have hB := hB.ch2 hb))
          go_ret
          exact ⟨rfl, hB⟩
        · have e7 : (T2 != 0) = true := by simpa using t2
          clear t2 hTT
          go_enter Tryz.func6, Tryz.ntmps6
          go_wp2_with (first
            | (go_at_call 18; (with_reducible refine hFe.mono ?_); rintro e w1 ⟨rfl, hb⟩; have hi := h.below hb; have hB := hb)
            | (go_at_call 28; clear tok1; (with_reducible refine (hW1 _ hi).mono ?_); rintro e w2 ⟨rfl, hb⟩; have hi := hi.below hb; have hB := hB.ch2 hb)
            | (go_at_call 28; clear tok2; (with_reducible refine (hW2 _ hi).mono ?_); rintro e w3 ⟨rfl, hb⟩; have hi := hi.below hb; have hB := hB.ch2 hb)
            | (go_at_call 28; clear tok3; (with_reducible refine (hW3 _ hi).mono ?_); rintro e w4 ⟨rfl, hb⟩; have hi := hi.below hb; have hB := hB.ch2 hb)
            | (go_at_call 30; clear tok4; (with_reducible refine (hT1 _ hi).mono ?_); rintro e w5 ⟨rfl, hb⟩; have hi := hi.below hb; have hB := hB.ch2 hb)
            | (go_at_call 30; clear tok5; (with_reducible refine (hT2 _ hi).mono ?_); rintro e w6 ⟨rfl, hb⟩; have hi := hi.below hb; have hB := hB.ch2 hb)
            | (go_at_call 30; clear tok6; (with_reducible refine (hT3 _ hi).mono ?_); rintro e w7 ⟨rfl, hb⟩; have hi := hi.below hb; have hB := hB.ch2 hb)
            | (go_at_call 20; (with_reducible refine (hSh _).mono ?_); rintro e w8 ⟨rfl, hb⟩; have hB := hB.ch2 hb))
          go_ret
          exact ⟨rfl, hB⟩
      · have e7 : (T1 != 0) = true := by simpa using t1
        clear t1 hTT
        go_enter Tryz.func6, Tryz.ntmps6
        go_wp2_with (first
          | (go_at_call 18; (with_reducible refine hFe.mono ?_); rintro e w1 ⟨rfl, hb⟩; have hi := h.below hb; have hB := hb)
          | (go_at_call 28; clear tok1; (with_reducible refine (hW1 _ hi).mono ?_); rintro e w2 ⟨rfl, hb⟩; have hi := hi.below hb; have hB := hB.ch2 hb)
          | (go_at_call 28; clear tok2; (with_reducible refine (hW2 _ hi).mono ?_); rintro e w3 ⟨rfl, hb⟩; have hi := hi.below hb; have hB := hB.ch2 hb)
          | (go_at_call 28; clear tok3; (with_reducible refine (hW3 _ hi).mono ?_); rintro e w4 ⟨rfl, hb⟩; have hi := hi.below hb; have hB := hB.ch2 hb)
          | (go_at_call 30; clear tok4; (with_reducible refine (hT1 _ hi).mono ?_); rintro e w5 ⟨rfl, hb⟩; have hi := hi.below hb; have hB := hB.ch2 hb)
          | (go_at_call 30; clear tok5; (with_reducible refine (hT2 _ hi).mono ?_); rintro e w6 ⟨rfl, hb⟩; have hi := hi.below hb; have hB := hB.ch2 hb)
          | (go_at_call 30; clear tok6; (with_reducible refine (hT3 _ hi).mono ?_); rintro e w7 ⟨rfl, hb⟩; have hi := hi.below hb; have hB := hB.ch2 hb)
          | (go_at_call 20; (with_reducible refine (hSh _).mono ?_); rintro e w8 ⟨rfl, hb⟩; have hB := hB.ch2 hb))
        go_ret
        exact ⟨rfl, hB⟩
end Go.Proofs.YtelkcohhagblaaaGreat
namespace Go.Proofs.YtelkcohhagblaaaGreat
open Go.ChangeShapes Go.WideShapes Go.ChangeAt Go.RowKit Go.Joins Go.Deep
set_option maxRecDepth 100000 in
theorem sherdChains_lifted (os : Os) (started : os.Started) (H : Type) (enc : TypeId × Value → H) :
    ReturnsInHanded {} Tryz.checked os 6 .any (Rows.sherdChainsSpec.pre6 enc Tryz.prog Tryz.f6 Rows.sherdChainsRow.domain false) (Rows.sherdChainsSpec.post enc Tryz.prog Tryz.f6 false true false false) := by
  refine returnsInHanded_of_change_sized (C := Tryz.checked) Tryz.own started (by kernel_rfl) Tryz.func6
    (ChangeSpec.witness6 (enc := enc) (C := Tryz.checked) false ⟨#[], #[.slice none 0 0, .int .i64 0, .int .i64 0, .int .i64 0, .int .i64 0, .int .i64 0], []⟩ 8 (by kernel_rfl) (by kernel_rfl) (by kernel_rfl) (by kernel_rfl)) ?_
  intro W base args ds gs before hval0 hW _ hsz0 _
  have hsz : (DataW.weightsEach Tryz.prog (Tryz.f6.params.toList ++ Rows.sherdChainsSpec.plain.varTypes Tryz.prog) (ds ++ gs)).all (· ≤ reachBytes) = true := hsz0
  clear hsz0
  have hval : ∀ (j : Nat) t v, Tryz.f6.params[j]? = some t → args[j]? = some v → Value.okWide Tryz.prog W .any base t v := hval0
  have hW' := hW
  obtain ⟨p, q, hA0, hV, rfl, _, _⟩ := hW
  have hA : DataW.TrodAll enc Tryz.prog W 0 (fun _ => true) true Tryz.f6.params.toList args.toList ds p := hA0
  rw [Tryz.params6] at hA hval hsz
  obtain ⟨v0, vs0, d0, ds0, p0, q0, hargs, rfl, rfl, h0, r0⟩ := trodAll_cons hA
  obtain ⟨v1, vs1, d1, ds1, p1, q1, rfl, rfl, rfl, h1, r1⟩ := trodAll_cons r0
  obtain ⟨v2, vs2, d2, ds2, p2, q2, rfl, rfl, rfl, h2, r2⟩ := trodAll_cons r1
  obtain ⟨v3, vs3, d3, ds3, p3, q3, rfl, rfl, rfl, h3, r3⟩ := trodAll_cons r2
  obtain ⟨v4, vs4, d4, ds4, p4, q4, rfl, rfl, rfl, h4, r4⟩ := trodAll_cons r3
  obtain ⟨v5, vs5, d5, ds5, p5, q5, rfl, rfl, rfl, h5, r5⟩ := trodAll_cons r4
  obtain ⟨rfl, rfl, rfl⟩ := trodAll_nil r5
  obtain rfl : args = #[v0, v1, v2, v3, v4, v5] := by cases args; simp_all
  obtain ⟨rfl, rfl⟩ := trodVars_none hV
  clear hA0 hval0
  have hlt : ∀ x ∈ p0 ++ p1 ++ p2 ++ p3 ++ p4 ++ p5, x.block < W.heap.size := fun x hx => by have := hW'.lt x (by simpa using hx); simpa using this
  obtain ⟨a0, n0, k0, xs0, rfl, hb0, hn0⟩ := items_open (hval 0 22 v0 rfl rfl) h0 (fun n hn => by
    have := List.all_eq_true.1 hsz _ (DataW.weights_mem_each (j := 0) rfl rfl n hn)
    simpa using this)
  obtain ⟨x1, rfl⟩ := okWide_int Tryz.underlying3 (hval 1 3 v1 rfl rfl)
  obtain ⟨x2, rfl⟩ := okWide_int Tryz.underlying3 (hval 2 3 v2 rfl rfl)
  obtain ⟨x3, rfl⟩ := okWide_int Tryz.underlying3 (hval 3 3 v3 rfl rfl)
  obtain ⟨x4, rfl⟩ := okWide_int Tryz.underlying3 (hval 4 3 v4 rfl rfl)
  obtain ⟨x5, rfl⟩ := okWide_int Tryz.underlying3 (hval 5 3 v5 rfl rfl)
  refine (lchains a0 n0 k0 xs0 x1 x2 x3 x4 x5 W hb0 hn0).mono fun e W' ⟨he, hw⟩ => ?_
  subst he
  exact ⟨_, rfl, ⟨_, _, _, [], _, [], hW', trodAll_mk1 (shut_bool Tryz.underlying4 _), (trodAll_cons_mk (Below.trod Tryz.laidOut (by kernel_rfl) (of_decide_eq_true (by kernel_rfl)) h0 hw (fun x hx => hlt x (by simp [hx]))) (trodAll_cons_mk (Below.trod Tryz.laidOut (by kernel_rfl) (of_decide_eq_true (by kernel_rfl)) h1 hw (fun x hx => hlt x (by simp [hx]))) (trodAll_cons_mk (Below.trod Tryz.laidOut (by kernel_rfl) (of_decide_eq_true (by kernel_rfl)) h2 hw (fun x hx => hlt x (by simp [hx]))) (trodAll_cons_mk (Below.trod Tryz.laidOut (by kernel_rfl) (of_decide_eq_true (by kernel_rfl)) h3 hw (fun x hx => hlt x (by simp [hx]))) (trodAll_cons_mk (Below.trod Tryz.laidOut (by kernel_rfl) (of_decide_eq_true (by kernel_rfl)) h4 hw (fun x hx => hlt x (by simp [hx]))) (trodAll_cons_mk (Below.trod Tryz.laidOut (by kernel_rfl) (of_decide_eq_true (by kernel_rfl)) h5 hw (fun x hx => hlt x (by simp [hx]))) trodAll_mk0)))))), rfl, hw.frame _, fun h => by cases h⟩⟩
set_option maxRecDepth 100000 in
set_option maxHeartbeats 8000000 in
theorem sherdChains_closed : joinedFacts Tryz.prog 6 Tryz.f6 Rows.sherdChainsSpec Rows.sherdChainsRow = true := by
  unfold joinedFacts
  repeat' (with_reducible refine (Bool.and_eq_true _ _).mpr ⟨?_, ?_⟩)
  all_goals as_aux_lemma => kernel_rfl
theorem sherdChains_holds : Rows.SherdChainsSaid :=
  OpenClaim.holds_of_wide 6 Tryz.f6 rfl rfl rfl rfl rfl rfl rfl ⟨rfl, rfl, rfl, rfl, rfl⟩ rfl rfl rfl rfl rfl (by kernel_rfl) Tryz.func6 sherdChains_closed
    (of_decide_eq_true (by kernel_rfl)) (by unfold Func.isWrapper; rw [if_neg (of_decide_eq_false (by kernel_rfl))]; exact ⟨rfl, rfl⟩)
    (fun os started H enc _ => sherdChains_lifted os started H enc)
#print axioms sherdChains_holds
end Go.Proofs.YtelkcohhagblaaaGreat
